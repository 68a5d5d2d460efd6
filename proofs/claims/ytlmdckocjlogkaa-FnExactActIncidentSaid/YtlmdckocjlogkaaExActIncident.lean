import Derived.Test.YtlmdckocjlogkaaAct
import Derived.Test.YtlmdckocjlogkaaInc
import Derived.Test.YtlmdckocjlogkaaFlAction
namespace Go.Proofs.Ytlmdckocjlogkaa
set_option linter.unusedSimpArgs false
set_option linter.unusedVariables false
open Go.RowKit

set_option maxRecDepth 100000 in
set_option maxHeartbeats 8000000 in
theorem FnExactActIncident_walk (p0_0 : Int) (p0_1 : Int) (a0_2 : Option Addr) (n0_2 c0_2 : Nat) (xs0_2 : List Int) (a0_3 : Option Addr) (n0_3 c0_3 : Nat) (xs0_3 : List Int) (a0_4 : Option Addr) (n0_4 c0_4 : Nat) (xs0_4 : List Int) (p0_5 : Int) (p1_0 : Int) (p1_1 : Int) (w : World) (hp0_0 : I64 p0_0) (hp0_1 : I64 p0_1) (I0_2 : Ints w a0_2 n0_2 c0_2 xs0_2) (I0_3 : Ints w a0_3 n0_3 c0_3 xs0_3) (I0_4 : Ints w a0_4 n0_4 c0_4 xs0_4) (hp0_5 : I64 p0_5) (hp1_0 : I64 p1_0) (hp1_1 : I64 p1_1) :
    Calls Try.prog 10 #[.agg #[.int .i64 p0_0, .int .i64 p0_1, .slice a0_2 n0_2 c0_2, .slice a0_3 n0_3 c0_3, .slice a0_4 n0_4 c0_4, .int .i64 p0_5], .agg #[.int .i64 p1_0, .int .i64 p1_1]] w fun e w' => e = .returned (.bool true) ∧ Below w.heap.size w w' := by
  have hr0_2 := I0_2.room
  have hr0_3 := I0_3.room
  have hr0_4 := I0_4.room
  have hM := Mem.start w
  go_enter Try.func10, Try.ntmps10
  go_wp2_with fail
  apply Mem.at
  · (repeat' (first | with_reducible exact hM | with_reducible exact hMp | with_reducible apply Mem.drew | with_reducible apply Mem.drewN | with_reducible apply Mem.alloc | with_reducible apply Mem.set | with_reducible exact Sto.row | ((with_reducible refine Sto.rowEq2 ?_ ?_); omega; rfl) | ((with_reducible refine Sto.rowEq ?_); omega) | with_reducible apply Sto.int | with_reducible apply Sto.there | with_reducible assumption | (unfold I64; omega) | (with_reducible (have hMx := Mem.undrew hM; exact hMx)) | (with_reducible (have hMx := Mem.undrew hMp; exact hMx))))
  clear hM
  intro hM
  (try simp only [World.size_alloc, World.size_setCell, World.heap_drewN, heapDrew, Nat.add_assoc, Nat.reduceAdd, List.setIfInBounds_toArray, List.set_cons_zero, List.set_cons_succ, List.cons_append, List.nil_append] at hM)
  refine (szIncident_any _ _ _ _ _ _ _ _ _ _ _ _ 1048576 _ hr0_2 hr0_3 hr0_4 (by omega)).mono ?_
  obtain ⟨z1, hz'⟩ : ∃ z, szI n0_2 n0_3 n0_4 1048576 = z := ⟨_, rfl⟩
  rw [hz']
  have hzr := szI_facts (n1 := n0_2) (n2 := n0_3) (n3 := n0_4) (l := 1048576) (by omega)
  rw [hz'] at hzr
  obtain ⟨hz1, hn0⟩ := hzr
  clear hz'
  rintro e w1 ⟨rfl, hb⟩
  replace hM := hM.ext hb
  clear hb
  by_cases hzn1 : z1 < 0
  · go_wp2
    go_ret
    exact ⟨rfl, (by apply Mem.below; (repeat' (first | with_reducible exact hM | with_reducible exact hMp | with_reducible apply Mem.drew | with_reducible apply Mem.drewN | with_reducible apply Mem.alloc | with_reducible apply Mem.set | with_reducible exact Sto.row | ((with_reducible refine Sto.rowEq2 ?_ ?_); omega; rfl) | ((with_reducible refine Sto.rowEq ?_); omega) | with_reducible apply Sto.int | with_reducible apply Sto.there | with_reducible assumption | (unfold I64; omega) | (with_reducible (have hMx := Mem.undrew hM; exact hMx)) | (with_reducible (have hMx := Mem.undrew hMp; exact hMx)))))⟩
  replace hn0 := hn0 (by omega)
  replace hzn1 : 0 ≤ z1 := by omega
  obtain ⟨⟨⟨Wr, Hr, zs0_2, zs0_3, zs0_4, tr⟩, v1⟩, hq0⟩ : ∃ r, actIncR p0_0 p0_1 xs0_2 xs0_3 xs0_4 p0_5 p1_0 p1_1 = r := ⟨_, rfl⟩
  have HQ0 := Lib.hid hq0; clear hq0
  go_wp2_with fail
  go_cut [6, 7] (fun s6 s7 wx => ∃ bbw0 aw0_2 nw0_2 cw0_2 aw0_3 nw0_3 cw0_3 aw0_4 nw0_4 cw0_4, s6 = .pointer (some ⟨bbw0, 0, none⟩) ∧ s7 = .bool v1 ∧ Mem w.heap.size w wx [rowE bbw0 28 #[.int .i64 Wr, .int .i64 Hr, .slice aw0_2 nw0_2 cw0_2, .slice aw0_3 nw0_3 cw0_3, .slice aw0_4 nw0_4 cw0_4, .int .i64 tr], intE aw0_2 nw0_2 cw0_2 zs0_2, intE aw0_3 nw0_3 cw0_3 zs0_3, intE aw0_4 nw0_4 cw0_4 zs0_4, rowE (w.heap.size + 1) 56 #[.int .i64 p1_0, .int .i64 p1_1], rowE w.heap.size 47 #[.int .i64 p0_0, .int .i64 p0_1, .slice a0_2 n0_2 c0_2, .slice a0_3 n0_3 c0_3, .slice a0_4 n0_4 c0_4, .int .i64 p0_5]])
  case first =>
    apply Mem.atWp
    · (repeat' (first | with_reducible exact hM | with_reducible exact hMp | with_reducible apply Mem.drew | with_reducible apply Mem.drewN | with_reducible apply Mem.alloc | with_reducible apply Mem.set | with_reducible exact Sto.row | ((with_reducible refine Sto.rowEq2 ?_ ?_); omega; rfl) | ((with_reducible refine Sto.rowEq ?_); omega) | with_reducible apply Sto.int | with_reducible apply Sto.there | with_reducible assumption | (unfold I64; omega) | (with_reducible (have hMx := Mem.undrew hM; exact hMx)) | (with_reducible (have hMx := Mem.undrew hMp; exact hMx))))
    clear hM
    intro hM
    (try simp only [World.size_alloc, World.size_setCell, World.heap_drewN, heapDrew, Nat.add_assoc, Nat.reduceAdd, List.setIfInBounds_toArray, List.set_cons_zero, List.set_cons_succ, List.cons_append, List.nil_append] at hM)
    refine AtT.startA hM hM 10 (by kernel_rfl) ?_
    clear hM
    intro wd hM
    have hS := hM
    refine AtT.taked (i := 0) (v := ?_) (some 22) rfl rfl (by kernel_rfl) (by kernel_rfl) (by kernel_rfl) (by kernel_rfl) (fun _ _ _ h => h) (Or.inl ⟨by kernel_rfl, ?_⟩) hS ?_
    rotate_left
    · (intro wS hSw; (try dsimp only at hSw); have kr0 := (Mem.row hSw .here).cell; have kr1 := (Mem.row hSw (.there .here)).cell; go_simp; try with_reducible rfl)
    simp only [Act.put, List.setIfInBounds_toArray, List.set_cons_zero, List.set_cons_succ]
    refine AtT.taked (i := 2) (v := ?_) (some 24) rfl rfl (by kernel_rfl) (by kernel_rfl) (by kernel_rfl) (by kernel_rfl) (fun _ _ _ h => h) (Or.inl ⟨by kernel_rfl, ?_⟩) hS ?_
    rotate_left
    · (intro wS hSw; (try dsimp only at hSw); have kr0 := (Mem.row hSw .here).cell; have kr1 := (Mem.row hSw (.there .here)).cell; go_simp; try with_reducible rfl)
    simp only [Act.put, List.setIfInBounds_toArray, List.set_cons_zero, List.set_cons_succ]
    refine AtT.two (i := 1) (j := 8) (by kernel_rfl) rfl rfl rfl rfl ?_ ?_
    · skip
      intro K hK
      go_simp
      refine (toIncident_any _ _ _ _ _ xs0_2 _ _ _ xs0_3 _ _ _ xs0_4 _ _ (I0_2.ext hM.below) (I0_3.ext hM.below) (I0_4.ext hM.below)).mono ?_
      rintro e w3 ⟨bw0t_2, dw0t_2, bw0t_3, dw0t_3, bw0t_4, dw0t_4, rfl, hm⟩
      replace hM := hM.join hm
      clear hm
      (try simp only [World.size_alloc, World.size_setCell, World.heap_drewN, heapDrew, Nat.add_assoc, Nat.reduceAdd, List.setIfInBounds_toArray, List.set_cons_zero, List.set_cons_succ, List.cons_append, List.nil_append] at hM)
      try dsimp only
      refine hK.out _ _ (hM.tail.tail.tail) ?_
      clear hK K hS
      have hS := hM.tail.tail.tail
      refine AtT.two (i := 3) (j := 8) (by kernel_rfl) rfl rfl rfl rfl ?_ ?_
      · skip
        intro K hK
        go_simp
        refine (toAction_any _ _ _ ).mono ?_
        rintro e w4 ⟨rfl, hb⟩
        replace hM := hM.ext hb
        clear hb
        try dsimp only
        refine hK.out _ _ (hM.tail.tail.tail) ?_
        clear hK K hS
        have hS := hM.tail.tail.tail
        refine AtT.two (i := 4) (j := 8) (by kernel_rfl) rfl rfl rfl rfl ?_ ?_
        · skip
          intro K hK
          go_simp
          refine (specAct_any _ _ _ _ _ xs0_2 _ _ _ xs0_3 _ _ _ xs0_4 _ _ _ _ ((hM.ints .here).ints) ((hM.ints (.there .here)).ints) ((hM.ints (.there (.there .here))).ints)).mono ?_
          rw [HQ0.out]
          rintro e w5 ⟨aw0_2, nw0_2, cw0_2, aw0_3, nw0_3, cw0_3, aw0_4, nw0_4, cw0_4, rfl, hm⟩
          replace hM := hM.join hm
          clear hm
          (try simp only [World.size_alloc, World.size_setCell, World.heap_drewN, heapDrew, Nat.add_assoc, Nat.reduceAdd, List.setIfInBounds_toArray, List.set_cons_zero, List.set_cons_succ, List.cons_append, List.nil_append] at hM)
          try dsimp only
          refine hK.out _ _ (hM.tail.tail.tail.tail.tail.tail) ?_
          clear hK K hS
          have hS := hM.tail.tail.tail.tail.tail.tail
          refine AtT.taked (i := 5) (v := ?_) (some 21) rfl rfl (by kernel_rfl) (by kernel_rfl) (by kernel_rfl) (by kernel_rfl) (fun _ _ _ h => h) (Or.inl ⟨by kernel_rfl, ?_⟩) hS ?_
          rotate_left
          · (intro wS hSw; (try dsimp only at hSw); go_simp; try with_reducible rfl)
          simp only [Act.put, List.setIfInBounds_toArray, List.set_cons_zero, List.set_cons_succ]
          refine AtT.taked (i := 6) (v := ?_) (some 27) rfl rfl (by kernel_rfl) (by kernel_rfl) (by kernel_rfl) (by kernel_rfl) (fun _ _ _ h => h) (Or.inl ⟨by kernel_rfl, ?_⟩) hS ?_
          rotate_left
          · (intro wS hSw; (try dsimp only at hSw); go_simp; try with_reducible rfl)
          simp only [Act.put, List.setIfInBounds_toArray, List.set_cons_zero, List.set_cons_succ]
          refine AtT.taked (i := 7) (v := ?_) (some 28) rfl rfl (by kernel_rfl) (by kernel_rfl) (by kernel_rfl) (by kernel_rfl) (fun _ _ _ h => h) (Or.inl ⟨by kernel_rfl, ?_⟩) hS ?_
          rotate_left
          · (intro wS hSw; (try dsimp only at hSw); go_simp; try with_reducible rfl)
          simp only [Act.put, List.setIfInBounds_toArray, List.set_cons_zero, List.set_cons_succ]
          refine AtT.only (i := 8) (by kernel_rfl) rfl rfl ?_
          intro K hK
          go_simp
          refine hK.out _ _ (by apply Mem.tail; apply Mem.tail; apply Mem.tail; apply Mem.tail; apply Mem.tail; apply Mem.tail; apply Mem.tail; (repeat' (first | with_reducible exact hM | with_reducible exact hMp | with_reducible apply Mem.drew | with_reducible apply Mem.drewN | with_reducible apply Mem.alloc | with_reducible apply Mem.set | with_reducible exact Sto.row | ((with_reducible refine Sto.rowEq2 ?_ ?_); omega; rfl) | ((with_reducible refine Sto.rowEq ?_); omega) | with_reducible apply Sto.int | with_reducible apply Sto.there | with_reducible assumption | (unfold I64; omega) | (with_reducible (have hMx := Mem.undrew hM; exact hMx)) | (with_reducible (have hMx := Mem.undrew hMp; exact hMx))))) ?_
          clear hK K hS
          have hMp := hM
          apply Mem.atT
          · (repeat' (first | with_reducible exact hM | with_reducible exact hMp | with_reducible apply Mem.drew | with_reducible apply Mem.drewN | with_reducible apply Mem.alloc | with_reducible apply Mem.set | with_reducible exact Sto.row | ((with_reducible refine Sto.rowEq2 ?_ ?_); omega; rfl) | ((with_reducible refine Sto.rowEq ?_); omega) | with_reducible apply Sto.int | with_reducible apply Sto.there | with_reducible assumption | (unfold I64; omega) | (with_reducible (have hMx := Mem.undrew hM; exact hMx)) | (with_reducible (have hMx := Mem.undrew hMp; exact hMx))))
          clear hM
          intro hM
          (try simp only [World.size_alloc, World.size_setCell, World.heap_drewN, heapDrew, Nat.add_assoc, Nat.reduceAdd, List.setIfInBounds_toArray, List.set_cons_zero, List.set_cons_succ, List.cons_append, List.nil_append] at hM)
          have hS := hM.tail.tail.tail.tail.tail.tail.tail
          refine AtT.only (i := 9) (by kernel_rfl) rfl rfl ?_
          intro K hK
          have kk0 := (hM.row .here).cell
          have ff0 := (hM.row .here).free
          have ll0 := (hM.row .here).lt
          have kk7 := (hM.row (.there (.there (.there (.there (.there (.there (.there .here)))))))).cell
          have ff7 := (hM.row (.there (.there (.there (.there (.there (.there (.there .here)))))))).free
          have ll7 := (hM.row (.there (.there (.there (.there (.there (.there (.there .here)))))))).lt
          have kk8 := (hM.row (.there (.there (.there (.there (.there (.there (.there (.there .here))))))))).cell
          have ff8 := (hM.row (.there (.there (.there (.there (.there (.there (.there (.there .here))))))))).free
          have ll8 := (hM.row (.there (.there (.there (.there (.there (.there (.there (.there .here))))))))).lt
          go_simp
          clear kk0 ff0 ll0 kk7 ff7 ll7 kk8 ff8 ll8
          refine hK.out _ _ (by apply Mem.tail; apply Mem.tail; apply Mem.tail; apply Mem.tail; apply Mem.tail; apply Mem.tail; apply Mem.tail; (repeat' (first | with_reducible exact hM | with_reducible exact hMp | with_reducible apply Mem.drew | with_reducible apply Mem.drewN | with_reducible apply Mem.alloc | with_reducible apply Mem.set | with_reducible exact Sto.row | ((with_reducible refine Sto.rowEq2 ?_ ?_); omega; rfl) | ((with_reducible refine Sto.rowEq ?_); omega) | with_reducible apply Sto.int | with_reducible apply Sto.there | with_reducible assumption | (unfold I64; omega) | (with_reducible (have hMx := Mem.undrew hM; exact hMx)) | (with_reducible (have hMx := Mem.undrew hMp; exact hMx))))) ?_
          clear hK K hS
          apply Mem.atT
          · (repeat' (first | with_reducible exact hM | with_reducible exact hMp | with_reducible apply Mem.drew | with_reducible apply Mem.drewN | with_reducible apply Mem.alloc | with_reducible apply Mem.set | with_reducible exact Sto.row | ((with_reducible refine Sto.rowEq2 ?_ ?_); omega; rfl) | ((with_reducible refine Sto.rowEq ?_); omega) | with_reducible apply Sto.int | with_reducible apply Sto.there | with_reducible assumption | (unfold I64; omega) | (with_reducible (have hMx := Mem.undrew hM; exact hMx)) | (with_reducible (have hMx := Mem.undrew hMp; exact hMx))))
          clear hM
          intro hM
          (try simp only [World.size_alloc, World.size_setCell, World.heap_drewN, heapDrew, Nat.add_assoc, Nat.reduceAdd, List.setIfInBounds_toArray, List.set_cons_zero, List.set_cons_succ, List.cons_append, List.nil_append] at hM)
          have hS := hM.tail.tail.tail.tail.tail.tail.tail
          refine AtT.last (by kernel_rfl) rfl (by kernel_rfl) ?_
          intro K hK
          clear hS
          go_simp
          refine hK.out _ _ ?_
          clear hK K
          go_wp2_with fail
          go_meet
          refine ⟨_, aw0_2, nw0_2, cw0_2, aw0_3, nw0_3, cw0_3, aw0_4, nw0_4, cw0_4, rfl, rfl, ?_⟩
          apply Mem.pick (is := [0, 1, 2, 3, 7, 8])
          · (repeat' (first | with_reducible exact hM | with_reducible exact hMp | with_reducible apply Mem.drew | with_reducible apply Mem.drewN | with_reducible apply Mem.alloc | with_reducible apply Mem.set | with_reducible exact Sto.row | ((with_reducible refine Sto.rowEq2 ?_ ?_); omega; rfl) | ((with_reducible refine Sto.rowEq ?_); omega) | with_reducible apply Sto.int | with_reducible apply Sto.there | with_reducible assumption | (unfold I64; omega) | (with_reducible (have hMx := Mem.undrew hM; exact hMx)) | (with_reducible (have hMx := Mem.undrew hMp; exact hMx))))
          · decide
          · rfl
        · skip
          intro K hK
          go_simp
          refine hK.out _ _ (by apply Mem.tail; apply Mem.tail; apply Mem.tail; apply Mem.tail; (repeat' (first | with_reducible exact hM | with_reducible exact hMp | with_reducible apply Mem.drew | with_reducible apply Mem.drewN | with_reducible apply Mem.alloc | with_reducible apply Mem.set | with_reducible exact Sto.row | ((with_reducible refine Sto.rowEq2 ?_ ?_); omega; rfl) | ((with_reducible refine Sto.rowEq ?_); omega) | with_reducible apply Sto.int | with_reducible apply Sto.there | with_reducible assumption | (unfold I64; omega) | (with_reducible (have hMx := Mem.undrew hM; exact hMx)) | (with_reducible (have hMx := Mem.undrew hMp; exact hMx))))) ?_
          clear hK K hS
          have hMp := hM
          apply Mem.atT
          · (repeat' (first | with_reducible exact hM | with_reducible exact hMp | with_reducible apply Mem.drew | with_reducible apply Mem.drewN | with_reducible apply Mem.alloc | with_reducible apply Mem.set | with_reducible exact Sto.row | ((with_reducible refine Sto.rowEq2 ?_ ?_); omega; rfl) | ((with_reducible refine Sto.rowEq ?_); omega) | with_reducible apply Sto.int | with_reducible apply Sto.there | with_reducible assumption | (unfold I64; omega) | (with_reducible (have hMx := Mem.undrew hM; exact hMx)) | (with_reducible (have hMx := Mem.undrew hMp; exact hMx))))
          clear hM
          intro hM
          (try simp only [World.size_alloc, World.size_setCell, World.heap_drewN, heapDrew, Nat.add_assoc, Nat.reduceAdd, List.setIfInBounds_toArray, List.set_cons_zero, List.set_cons_succ, List.cons_append, List.nil_append] at hM)
          have hS := hM.tail.tail.tail.tail
          refine AtT.only (i := 4) (by kernel_rfl) rfl rfl ?_
          intro K hK
          go_simp
          refine (specAct_any _ _ _ _ _ xs0_2 _ _ _ xs0_3 _ _ _ xs0_4 _ _ _ _ ((hM.ints (.there .here)).ints) ((hM.ints (.there (.there .here))).ints) ((hM.ints (.there (.there (.there .here)))).ints)).mono ?_
          rw [HQ0.out]
          rintro e w5 ⟨aw0_2, nw0_2, cw0_2, aw0_3, nw0_3, cw0_3, aw0_4, nw0_4, cw0_4, rfl, hm⟩
          replace hM := hM.join hm
          clear hm
          (try simp only [World.size_alloc, World.size_setCell, World.heap_drewN, heapDrew, Nat.add_assoc, Nat.reduceAdd, List.setIfInBounds_toArray, List.set_cons_zero, List.set_cons_succ, List.cons_append, List.nil_append] at hM)
          try dsimp only
          refine hK.out _ _ (hM.tail.tail.tail.tail.tail.tail.tail) ?_
          clear hK K hS
          have hS := hM.tail.tail.tail.tail.tail.tail.tail
          refine AtT.taked (i := 5) (v := ?_) (some 21) rfl rfl (by kernel_rfl) (by kernel_rfl) (by kernel_rfl) (by kernel_rfl) (fun _ _ _ h => h) (Or.inl ⟨by kernel_rfl, ?_⟩) hS ?_
          rotate_left
          · (intro wS hSw; (try dsimp only at hSw); go_simp; try with_reducible rfl)
          simp only [Act.put, List.setIfInBounds_toArray, List.set_cons_zero, List.set_cons_succ]
          refine AtT.taked (i := 6) (v := ?_) (some 27) rfl rfl (by kernel_rfl) (by kernel_rfl) (by kernel_rfl) (by kernel_rfl) (fun _ _ _ h => h) (Or.inl ⟨by kernel_rfl, ?_⟩) hS ?_
          rotate_left
          · (intro wS hSw; (try dsimp only at hSw); go_simp; try with_reducible rfl)
          simp only [Act.put, List.setIfInBounds_toArray, List.set_cons_zero, List.set_cons_succ]
          refine AtT.taked (i := 7) (v := ?_) (some 28) rfl rfl (by kernel_rfl) (by kernel_rfl) (by kernel_rfl) (by kernel_rfl) (fun _ _ _ h => h) (Or.inl ⟨by kernel_rfl, ?_⟩) hS ?_
          rotate_left
          · (intro wS hSw; (try dsimp only at hSw); go_simp; try with_reducible rfl)
          simp only [Act.put, List.setIfInBounds_toArray, List.set_cons_zero, List.set_cons_succ]
          refine AtT.only (i := 9) (by kernel_rfl) rfl rfl ?_
          intro K hK
          have kk3 := (hM.row (.there (.there (.there .here)))).cell
          have ff3 := (hM.row (.there (.there (.there .here)))).free
          have ll3 := (hM.row (.there (.there (.there .here)))).lt
          have kk7 := (hM.row (.there (.there (.there (.there (.there (.there (.there .here)))))))).cell
          have ff7 := (hM.row (.there (.there (.there (.there (.there (.there (.there .here)))))))).free
          have ll7 := (hM.row (.there (.there (.there (.there (.there (.there (.there .here)))))))).lt
          have kk8 := (hM.row (.there (.there (.there (.there (.there (.there (.there (.there .here))))))))).cell
          have ff8 := (hM.row (.there (.there (.there (.there (.there (.there (.there (.there .here))))))))).free
          have ll8 := (hM.row (.there (.there (.there (.there (.there (.there (.there (.there .here))))))))).lt
          go_simp
          clear kk3 ff3 ll3 kk7 ff7 ll7 kk8 ff8 ll8
          refine hK.out _ _ (by apply Mem.tail; apply Mem.tail; apply Mem.tail; apply Mem.tail; apply Mem.tail; apply Mem.tail; apply Mem.tail; (repeat' (first | with_reducible exact hM | with_reducible exact hMp | with_reducible apply Mem.drew | with_reducible apply Mem.drewN | with_reducible apply Mem.alloc | with_reducible apply Mem.set | with_reducible exact Sto.row | ((with_reducible refine Sto.rowEq2 ?_ ?_); omega; rfl) | ((with_reducible refine Sto.rowEq ?_); omega) | with_reducible apply Sto.int | with_reducible apply Sto.there | with_reducible assumption | (unfold I64; omega) | (with_reducible (have hMx := Mem.undrew hM; exact hMx)) | (with_reducible (have hMx := Mem.undrew hMp; exact hMx))))) ?_
          clear hK K hS
          apply Mem.atT
          · (repeat' (first | with_reducible exact hM | with_reducible exact hMp | with_reducible apply Mem.drew | with_reducible apply Mem.drewN | with_reducible apply Mem.alloc | with_reducible apply Mem.set | with_reducible exact Sto.row | ((with_reducible refine Sto.rowEq2 ?_ ?_); omega; rfl) | ((with_reducible refine Sto.rowEq ?_); omega) | with_reducible apply Sto.int | with_reducible apply Sto.there | with_reducible assumption | (unfold I64; omega) | (with_reducible (have hMx := Mem.undrew hM; exact hMx)) | (with_reducible (have hMx := Mem.undrew hMp; exact hMx))))
          clear hM
          intro hM
          (try simp only [World.size_alloc, World.size_setCell, World.heap_drewN, heapDrew, Nat.add_assoc, Nat.reduceAdd, List.setIfInBounds_toArray, List.set_cons_zero, List.set_cons_succ, List.cons_append, List.nil_append] at hM)
          have hS := hM.tail.tail.tail.tail.tail.tail.tail
          refine AtT.last (by kernel_rfl) rfl (by kernel_rfl) ?_
          intro K hK
          clear hS
          go_simp
          refine hK.out _ _ ?_
          clear hK K
          go_wp2_with fail
          go_meet
          refine ⟨_, aw0_2, nw0_2, cw0_2, aw0_3, nw0_3, cw0_3, aw0_4, nw0_4, cw0_4, rfl, rfl, ?_⟩
          apply Mem.pick (is := [3, 0, 1, 2, 7, 8])
          · (repeat' (first | with_reducible exact hM | with_reducible exact hMp | with_reducible apply Mem.drew | with_reducible apply Mem.drewN | with_reducible apply Mem.alloc | with_reducible apply Mem.set | with_reducible exact Sto.row | ((with_reducible refine Sto.rowEq2 ?_ ?_); omega; rfl) | ((with_reducible refine Sto.rowEq ?_); omega) | with_reducible apply Sto.int | with_reducible apply Sto.there | with_reducible assumption | (unfold I64; omega) | (with_reducible (have hMx := Mem.undrew hM; exact hMx)) | (with_reducible (have hMx := Mem.undrew hMp; exact hMx))))
          · decide
          · rfl
      · skip
        intro K hK
        go_simp
        refine hK.out _ _ (by apply Mem.tail; apply Mem.tail; apply Mem.tail; apply Mem.tail; (repeat' (first | with_reducible exact hM | with_reducible exact hMp | with_reducible apply Mem.drew | with_reducible apply Mem.drewN | with_reducible apply Mem.alloc | with_reducible apply Mem.set | with_reducible exact Sto.row | ((with_reducible refine Sto.rowEq2 ?_ ?_); omega; rfl) | ((with_reducible refine Sto.rowEq ?_); omega) | with_reducible apply Sto.int | with_reducible apply Sto.there | with_reducible assumption | (unfold I64; omega) | (with_reducible (have hMx := Mem.undrew hM; exact hMx)) | (with_reducible (have hMx := Mem.undrew hMp; exact hMx))))) ?_
        clear hK K hS
        have hMp := hM
        apply Mem.atT
        · (repeat' (first | with_reducible exact hM | with_reducible exact hMp | with_reducible apply Mem.drew | with_reducible apply Mem.drewN | with_reducible apply Mem.alloc | with_reducible apply Mem.set | with_reducible exact Sto.row | ((with_reducible refine Sto.rowEq2 ?_ ?_); omega; rfl) | ((with_reducible refine Sto.rowEq ?_); omega) | with_reducible apply Sto.int | with_reducible apply Sto.there | with_reducible assumption | (unfold I64; omega) | (with_reducible (have hMx := Mem.undrew hM; exact hMx)) | (with_reducible (have hMx := Mem.undrew hMp; exact hMx))))
        clear hM
        intro hM
        (try simp only [World.size_alloc, World.size_setCell, World.heap_drewN, heapDrew, Nat.add_assoc, Nat.reduceAdd, List.setIfInBounds_toArray, List.set_cons_zero, List.set_cons_succ, List.cons_append, List.nil_append] at hM)
        have hS := hM.tail.tail.tail.tail
        refine AtT.only (i := 3) (by kernel_rfl) rfl rfl ?_
        intro K hK
        go_simp
        refine (toAction_any _ _ _ ).mono ?_
        rintro e w4 ⟨rfl, hb⟩
        replace hM := hM.ext hb
        clear hb
        try dsimp only
        refine hK.out _ _ (hM.tail.tail.tail.tail) ?_
        clear hK K hS
        have hS := hM.tail.tail.tail.tail
        refine AtT.only (i := 4) (by kernel_rfl) rfl rfl ?_
        intro K hK
        go_simp
        refine (specAct_any _ _ _ _ _ xs0_2 _ _ _ xs0_3 _ _ _ xs0_4 _ _ _ _ ((hM.ints (.there .here)).ints) ((hM.ints (.there (.there .here))).ints) ((hM.ints (.there (.there (.there .here)))).ints)).mono ?_
        rw [HQ0.out]
        rintro e w5 ⟨aw0_2, nw0_2, cw0_2, aw0_3, nw0_3, cw0_3, aw0_4, nw0_4, cw0_4, rfl, hm⟩
        replace hM := hM.join hm
        clear hm
        (try simp only [World.size_alloc, World.size_setCell, World.heap_drewN, heapDrew, Nat.add_assoc, Nat.reduceAdd, List.setIfInBounds_toArray, List.set_cons_zero, List.set_cons_succ, List.cons_append, List.nil_append] at hM)
        try dsimp only
        refine hK.out _ _ (hM.tail.tail.tail.tail.tail.tail.tail) ?_
        clear hK K hS
        have hS := hM.tail.tail.tail.tail.tail.tail.tail
        refine AtT.taked (i := 5) (v := ?_) (some 21) rfl rfl (by kernel_rfl) (by kernel_rfl) (by kernel_rfl) (by kernel_rfl) (fun _ _ _ h => h) (Or.inl ⟨by kernel_rfl, ?_⟩) hS ?_
        rotate_left
        · (intro wS hSw; (try dsimp only at hSw); go_simp; try with_reducible rfl)
        simp only [Act.put, List.setIfInBounds_toArray, List.set_cons_zero, List.set_cons_succ]
        refine AtT.taked (i := 6) (v := ?_) (some 27) rfl rfl (by kernel_rfl) (by kernel_rfl) (by kernel_rfl) (by kernel_rfl) (fun _ _ _ h => h) (Or.inl ⟨by kernel_rfl, ?_⟩) hS ?_
        rotate_left
        · (intro wS hSw; (try dsimp only at hSw); go_simp; try with_reducible rfl)
        simp only [Act.put, List.setIfInBounds_toArray, List.set_cons_zero, List.set_cons_succ]
        refine AtT.taked (i := 7) (v := ?_) (some 28) rfl rfl (by kernel_rfl) (by kernel_rfl) (by kernel_rfl) (by kernel_rfl) (fun _ _ _ h => h) (Or.inl ⟨by kernel_rfl, ?_⟩) hS ?_
        rotate_left
        · (intro wS hSw; (try dsimp only at hSw); go_simp; try with_reducible rfl)
        simp only [Act.put, List.setIfInBounds_toArray, List.set_cons_zero, List.set_cons_succ]
        refine AtT.only (i := 9) (by kernel_rfl) rfl rfl ?_
        intro K hK
        have kk3 := (hM.row (.there (.there (.there .here)))).cell
        have ff3 := (hM.row (.there (.there (.there .here)))).free
        have ll3 := (hM.row (.there (.there (.there .here)))).lt
        have kk7 := (hM.row (.there (.there (.there (.there (.there (.there (.there .here)))))))).cell
        have ff7 := (hM.row (.there (.there (.there (.there (.there (.there (.there .here)))))))).free
        have ll7 := (hM.row (.there (.there (.there (.there (.there (.there (.there .here)))))))).lt
        have kk8 := (hM.row (.there (.there (.there (.there (.there (.there (.there (.there .here))))))))).cell
        have ff8 := (hM.row (.there (.there (.there (.there (.there (.there (.there (.there .here))))))))).free
        have ll8 := (hM.row (.there (.there (.there (.there (.there (.there (.there (.there .here))))))))).lt
        go_simp
        clear kk3 ff3 ll3 kk7 ff7 ll7 kk8 ff8 ll8
        refine hK.out _ _ (by apply Mem.tail; apply Mem.tail; apply Mem.tail; apply Mem.tail; apply Mem.tail; apply Mem.tail; apply Mem.tail; (repeat' (first | with_reducible exact hM | with_reducible exact hMp | with_reducible apply Mem.drew | with_reducible apply Mem.drewN | with_reducible apply Mem.alloc | with_reducible apply Mem.set | with_reducible exact Sto.row | ((with_reducible refine Sto.rowEq2 ?_ ?_); omega; rfl) | ((with_reducible refine Sto.rowEq ?_); omega) | with_reducible apply Sto.int | with_reducible apply Sto.there | with_reducible assumption | (unfold I64; omega) | (with_reducible (have hMx := Mem.undrew hM; exact hMx)) | (with_reducible (have hMx := Mem.undrew hMp; exact hMx))))) ?_
        clear hK K hS
        apply Mem.atT
        · (repeat' (first | with_reducible exact hM | with_reducible exact hMp | with_reducible apply Mem.drew | with_reducible apply Mem.drewN | with_reducible apply Mem.alloc | with_reducible apply Mem.set | with_reducible exact Sto.row | ((with_reducible refine Sto.rowEq2 ?_ ?_); omega; rfl) | ((with_reducible refine Sto.rowEq ?_); omega) | with_reducible apply Sto.int | with_reducible apply Sto.there | with_reducible assumption | (unfold I64; omega) | (with_reducible (have hMx := Mem.undrew hM; exact hMx)) | (with_reducible (have hMx := Mem.undrew hMp; exact hMx))))
        clear hM
        intro hM
        (try simp only [World.size_alloc, World.size_setCell, World.heap_drewN, heapDrew, Nat.add_assoc, Nat.reduceAdd, List.setIfInBounds_toArray, List.set_cons_zero, List.set_cons_succ, List.cons_append, List.nil_append] at hM)
        have hS := hM.tail.tail.tail.tail.tail.tail.tail
        refine AtT.last (by kernel_rfl) rfl (by kernel_rfl) ?_
        intro K hK
        clear hS
        go_simp
        refine hK.out _ _ ?_
        clear hK K
        go_wp2_with fail
        go_meet
        refine ⟨_, aw0_2, nw0_2, cw0_2, aw0_3, nw0_3, cw0_3, aw0_4, nw0_4, cw0_4, rfl, rfl, ?_⟩
        apply Mem.pick (is := [3, 0, 1, 2, 7, 8])
        · (repeat' (first | with_reducible exact hM | with_reducible exact hMp | with_reducible apply Mem.drew | with_reducible apply Mem.drewN | with_reducible apply Mem.alloc | with_reducible apply Mem.set | with_reducible exact Sto.row | ((with_reducible refine Sto.rowEq2 ?_ ?_); omega; rfl) | ((with_reducible refine Sto.rowEq ?_); omega) | with_reducible apply Sto.int | with_reducible apply Sto.there | with_reducible assumption | (unfold I64; omega) | (with_reducible (have hMx := Mem.undrew hM; exact hMx)) | (with_reducible (have hMx := Mem.undrew hMp; exact hMx))))
        · decide
        · rfl
    · skip
      intro K hK
      go_simp
      refine hK.out _ _ (by apply Mem.tail; (repeat' (first | with_reducible exact hM | with_reducible exact hMp | with_reducible apply Mem.drew | with_reducible apply Mem.drewN | with_reducible apply Mem.alloc | with_reducible apply Mem.set | with_reducible exact Sto.row | ((with_reducible refine Sto.rowEq2 ?_ ?_); omega; rfl) | ((with_reducible refine Sto.rowEq ?_); omega) | with_reducible apply Sto.int | with_reducible apply Sto.there | with_reducible assumption | (unfold I64; omega) | (with_reducible (have hMx := Mem.undrew hM; exact hMx)) | (with_reducible (have hMx := Mem.undrew hMp; exact hMx))))) ?_
      clear hK K hS
      have hMp := hM
      apply Mem.atT
      · (repeat' (first | with_reducible exact hM | with_reducible exact hMp | with_reducible apply Mem.drew | with_reducible apply Mem.drewN | with_reducible apply Mem.alloc | with_reducible apply Mem.set | with_reducible exact Sto.row | ((with_reducible refine Sto.rowEq2 ?_ ?_); omega; rfl) | ((with_reducible refine Sto.rowEq ?_); omega) | with_reducible apply Sto.int | with_reducible apply Sto.there | with_reducible assumption | (unfold I64; omega) | (with_reducible (have hMx := Mem.undrew hM; exact hMx)) | (with_reducible (have hMx := Mem.undrew hMp; exact hMx))))
      clear hM
      intro hM
      (try simp only [World.size_alloc, World.size_setCell, World.heap_drewN, heapDrew, Nat.add_assoc, Nat.reduceAdd, List.setIfInBounds_toArray, List.set_cons_zero, List.set_cons_succ, List.cons_append, List.nil_append] at hM)
      have hS := hM.tail
      refine AtT.only (i := 1) (by kernel_rfl) rfl rfl ?_
      intro K hK
      go_simp
      refine (toIncident_any _ _ _ _ _ xs0_2 _ _ _ xs0_3 _ _ _ xs0_4 _ _ (I0_2.ext hM.below) (I0_3.ext hM.below) (I0_4.ext hM.below)).mono ?_
      rintro e w3 ⟨bw0t_2, dw0t_2, bw0t_3, dw0t_3, bw0t_4, dw0t_4, rfl, hm⟩
      replace hM := hM.join hm
      clear hm
      (try simp only [World.size_alloc, World.size_setCell, World.heap_drewN, heapDrew, Nat.add_assoc, Nat.reduceAdd, List.setIfInBounds_toArray, List.set_cons_zero, List.set_cons_succ, List.cons_append, List.nil_append] at hM)
      try dsimp only
      refine hK.out _ _ (hM.tail.tail.tail.tail) ?_
      clear hK K hS
      have hS := hM.tail.tail.tail.tail
      refine AtT.only (i := 3) (by kernel_rfl) rfl rfl ?_
      intro K hK
      go_simp
      refine (toAction_any _ _ _ ).mono ?_
      rintro e w4 ⟨rfl, hb⟩
      replace hM := hM.ext hb
      clear hb
      try dsimp only
      refine hK.out _ _ (hM.tail.tail.tail.tail) ?_
      clear hK K hS
      have hS := hM.tail.tail.tail.tail
      refine AtT.only (i := 4) (by kernel_rfl) rfl rfl ?_
      intro K hK
      go_simp
      refine (specAct_any _ _ _ _ _ xs0_2 _ _ _ xs0_3 _ _ _ xs0_4 _ _ _ _ ((hM.ints .here).ints) ((hM.ints (.there .here)).ints) ((hM.ints (.there (.there .here))).ints)).mono ?_
      rw [HQ0.out]
      rintro e w5 ⟨aw0_2, nw0_2, cw0_2, aw0_3, nw0_3, cw0_3, aw0_4, nw0_4, cw0_4, rfl, hm⟩
      replace hM := hM.join hm
      clear hm
      (try simp only [World.size_alloc, World.size_setCell, World.heap_drewN, heapDrew, Nat.add_assoc, Nat.reduceAdd, List.setIfInBounds_toArray, List.set_cons_zero, List.set_cons_succ, List.cons_append, List.nil_append] at hM)
      try dsimp only
      refine hK.out _ _ (hM.tail.tail.tail.tail.tail.tail.tail) ?_
      clear hK K hS
      have hS := hM.tail.tail.tail.tail.tail.tail.tail
      refine AtT.taked (i := 5) (v := ?_) (some 21) rfl rfl (by kernel_rfl) (by kernel_rfl) (by kernel_rfl) (by kernel_rfl) (fun _ _ _ h => h) (Or.inl ⟨by kernel_rfl, ?_⟩) hS ?_
      rotate_left
      · (intro wS hSw; (try dsimp only at hSw); go_simp; try with_reducible rfl)
      simp only [Act.put, List.setIfInBounds_toArray, List.set_cons_zero, List.set_cons_succ]
      refine AtT.taked (i := 6) (v := ?_) (some 27) rfl rfl (by kernel_rfl) (by kernel_rfl) (by kernel_rfl) (by kernel_rfl) (fun _ _ _ h => h) (Or.inl ⟨by kernel_rfl, ?_⟩) hS ?_
      rotate_left
      · (intro wS hSw; (try dsimp only at hSw); go_simp; try with_reducible rfl)
      simp only [Act.put, List.setIfInBounds_toArray, List.set_cons_zero, List.set_cons_succ]
      refine AtT.taked (i := 7) (v := ?_) (some 28) rfl rfl (by kernel_rfl) (by kernel_rfl) (by kernel_rfl) (by kernel_rfl) (fun _ _ _ h => h) (Or.inl ⟨by kernel_rfl, ?_⟩) hS ?_
      rotate_left
      · (intro wS hSw; (try dsimp only at hSw); go_simp; try with_reducible rfl)
      simp only [Act.put, List.setIfInBounds_toArray, List.set_cons_zero, List.set_cons_succ]
      refine AtT.only (i := 9) (by kernel_rfl) rfl rfl ?_
      intro K hK
      have kk6 := (hM.row (.there (.there (.there (.there (.there (.there .here))))))).cell
      have ff6 := (hM.row (.there (.there (.there (.there (.there (.there .here))))))).free
      have ll6 := (hM.row (.there (.there (.there (.there (.there (.there .here))))))).lt
      have kk7 := (hM.row (.there (.there (.there (.there (.there (.there (.there .here)))))))).cell
      have ff7 := (hM.row (.there (.there (.there (.there (.there (.there (.there .here)))))))).free
      have ll7 := (hM.row (.there (.there (.there (.there (.there (.there (.there .here)))))))).lt
      have kk8 := (hM.row (.there (.there (.there (.there (.there (.there (.there (.there .here))))))))).cell
      have ff8 := (hM.row (.there (.there (.there (.there (.there (.there (.there (.there .here))))))))).free
      have ll8 := (hM.row (.there (.there (.there (.there (.there (.there (.there (.there .here))))))))).lt
      go_simp
      clear kk6 ff6 ll6 kk7 ff7 ll7 kk8 ff8 ll8
      refine hK.out _ _ (by apply Mem.tail; apply Mem.tail; apply Mem.tail; apply Mem.tail; apply Mem.tail; apply Mem.tail; apply Mem.tail; (repeat' (first | with_reducible exact hM | with_reducible exact hMp | with_reducible apply Mem.drew | with_reducible apply Mem.drewN | with_reducible apply Mem.alloc | with_reducible apply Mem.set | with_reducible exact Sto.row | ((with_reducible refine Sto.rowEq2 ?_ ?_); omega; rfl) | ((with_reducible refine Sto.rowEq ?_); omega) | with_reducible apply Sto.int | with_reducible apply Sto.there | with_reducible assumption | (unfold I64; omega) | (with_reducible (have hMx := Mem.undrew hM; exact hMx)) | (with_reducible (have hMx := Mem.undrew hMp; exact hMx))))) ?_
      clear hK K hS
      apply Mem.atT
      · (repeat' (first | with_reducible exact hM | with_reducible exact hMp | with_reducible apply Mem.drew | with_reducible apply Mem.drewN | with_reducible apply Mem.alloc | with_reducible apply Mem.set | with_reducible exact Sto.row | ((with_reducible refine Sto.rowEq2 ?_ ?_); omega; rfl) | ((with_reducible refine Sto.rowEq ?_); omega) | with_reducible apply Sto.int | with_reducible apply Sto.there | with_reducible assumption | (unfold I64; omega) | (with_reducible (have hMx := Mem.undrew hM; exact hMx)) | (with_reducible (have hMx := Mem.undrew hMp; exact hMx))))
      clear hM
      intro hM
      (try simp only [World.size_alloc, World.size_setCell, World.heap_drewN, heapDrew, Nat.add_assoc, Nat.reduceAdd, List.setIfInBounds_toArray, List.set_cons_zero, List.set_cons_succ, List.cons_append, List.nil_append] at hM)
      have hS := hM.tail.tail.tail.tail.tail.tail.tail
      refine AtT.last (by kernel_rfl) rfl (by kernel_rfl) ?_
      intro K hK
      clear hS
      go_simp
      refine hK.out _ _ ?_
      clear hK K
      go_wp2_with fail
      go_meet
      refine ⟨_, aw0_2, nw0_2, cw0_2, aw0_3, nw0_3, cw0_3, aw0_4, nw0_4, cw0_4, rfl, rfl, ?_⟩
      apply Mem.pick (is := [6, 0, 1, 2, 7, 8])
      · (repeat' (first | with_reducible exact hM | with_reducible exact hMp | with_reducible apply Mem.drew | with_reducible apply Mem.drewN | with_reducible apply Mem.alloc | with_reducible apply Mem.set | with_reducible exact Sto.row | ((with_reducible refine Sto.rowEq2 ?_ ?_); omega; rfl) | ((with_reducible refine Sto.rowEq ?_); omega) | with_reducible apply Sto.int | with_reducible apply Sto.there | with_reducible assumption | (unfold I64; omega) | (with_reducible (have hMx := Mem.undrew hM; exact hMx)) | (with_reducible (have hMx := Mem.undrew hMp; exact hMx))))
      · decide
      · rfl
  case rest =>
    clear hM
    obtain ⟨bbw0, aw0_2, nw0_2, cw0_2, aw0_3, nw0_3, cw0_3, aw0_4, nw0_4, cw0_4, rfl, rfl, hM⟩ := hcut
    obtain ⟨k5, f5, l5⟩ := hM.row (.there (.there (.there (.there (.there .here)))))
    go_wp2_with fail
    clear k5 f5 l5
    apply Mem.at
    · (repeat' (first | with_reducible exact hM | with_reducible exact hMp | with_reducible apply Mem.drew | with_reducible apply Mem.drewN | with_reducible apply Mem.alloc | with_reducible apply Mem.set | with_reducible exact Sto.row | ((with_reducible refine Sto.rowEq2 ?_ ?_); omega; rfl) | ((with_reducible refine Sto.rowEq ?_); omega) | with_reducible apply Sto.int | with_reducible apply Sto.there | with_reducible assumption | (unfold I64; omega) | (with_reducible (have hMx := Mem.undrew hM; exact hMx)) | (with_reducible (have hMx := Mem.undrew hMp; exact hMx))))
    clear hM
    intro hM
    (try simp only [World.size_alloc, World.size_setCell, World.heap_drewN, heapDrew, Nat.add_assoc, Nat.reduceAdd, List.setIfInBounds_toArray, List.set_cons_zero, List.set_cons_succ, List.cons_append, List.nil_append] at hM)
    refine (toIncident_any _ _ _ _ _ xs0_2 _ _ _ xs0_3 _ _ _ xs0_4 _ _ (I0_2.ext hM.below) (I0_3.ext hM.below) (I0_4.ext hM.below)).mono ?_
    rintro e w6 ⟨bx0_2, dx0_2, bx0_3, dx0_3, bx0_4, dx0_4, rfl, hm⟩
    replace hM := hM.join hm
    clear hm
    (try simp only [World.size_alloc, World.size_setCell, World.heap_drewN, heapDrew, Nat.add_assoc, Nat.reduceAdd, List.setIfInBounds_toArray, List.set_cons_zero, List.set_cons_succ, List.cons_append, List.nil_append] at hM)
    dsimp only
    go_wp2_with fail
    go_cut [9, 10] (fun s9 s10 wx => ∃ bbg0 ag0_2 ng0_2 cg0_2 ag0_3 ng0_3 cg0_3 ag0_4 ng0_4 cg0_4, s9 = .pointer (some ⟨bbg0, 0, none⟩) ∧ s10 = .bool v1 ∧ Mem w.heap.size w wx [rowE bbg0 28 #[.int .i64 Wr, .int .i64 Hr, .slice ag0_2 ng0_2 cg0_2, .slice ag0_3 ng0_3 cg0_3, .slice ag0_4 ng0_4 cg0_4, .int .i64 tr], intE ag0_2 ng0_2 cg0_2 zs0_2, intE ag0_3 ng0_3 cg0_3 zs0_3, intE ag0_4 ng0_4 cg0_4 zs0_4, rowE w6.heap.size 28 #[.int .i64 p0_0, .int .i64 p0_1, .slice bx0_2 n0_2 dx0_2, .slice bx0_3 n0_3 dx0_3, .slice bx0_4 n0_4 dx0_4, .int .i64 p0_5], intE bx0_2 n0_2 dx0_2 xs0_2, intE bx0_3 n0_3 dx0_3 xs0_3, intE bx0_4 n0_4 dx0_4 xs0_4, rowE bbw0 28 #[.int .i64 Wr, .int .i64 Hr, .slice aw0_2 nw0_2 cw0_2, .slice aw0_3 nw0_3 cw0_3, .slice aw0_4 nw0_4 cw0_4, .int .i64 tr], intE aw0_2 nw0_2 cw0_2 zs0_2, intE aw0_3 nw0_3 cw0_3 zs0_3, intE aw0_4 nw0_4 cw0_4 zs0_4, rowE (w.heap.size + 1) 56 #[.int .i64 p1_0, .int .i64 p1_1], rowE w.heap.size 47 #[.int .i64 p0_0, .int .i64 p0_1, .slice a0_2 n0_2 c0_2, .slice a0_3 n0_3 c0_3, .slice a0_4 n0_4 c0_4, .int .i64 p0_5]])
    case first =>
      apply Mem.atWp
      · (repeat' (first | with_reducible exact hM | with_reducible exact hMp | with_reducible apply Mem.drew | with_reducible apply Mem.drewN | with_reducible apply Mem.alloc | with_reducible apply Mem.set | with_reducible exact Sto.row | ((with_reducible refine Sto.rowEq2 ?_ ?_); omega; rfl) | ((with_reducible refine Sto.rowEq ?_); omega) | with_reducible apply Sto.int | with_reducible apply Sto.there | with_reducible assumption | (unfold I64; omega) | (with_reducible (have hMx := Mem.undrew hM; exact hMx)) | (with_reducible (have hMx := Mem.undrew hMp; exact hMx))))
      clear hM
      intro hM
      (try simp only [World.size_alloc, World.size_setCell, World.heap_drewN, heapDrew, Nat.add_assoc, Nat.reduceAdd, List.setIfInBounds_toArray, List.set_cons_zero, List.set_cons_succ, List.cons_append, List.nil_append] at hM)
      refine AtT.startA hM hM 9 (by kernel_rfl) ?_
      clear hM
      intro wd hM
      have hS := hM
      refine AtT.taked (i := 0) (v := ?_) (some 32) rfl rfl (by kernel_rfl) (by kernel_rfl) (by kernel_rfl) (by kernel_rfl) (fun _ _ _ h => h) (Or.inl ⟨by kernel_rfl, ?_⟩) hS ?_
      rotate_left
      · (intro wS hSw; (try dsimp only at hSw); have kr0 := (Mem.row hSw .here).cell; have kr1 := (Mem.row hSw (.there (.there (.there (.there .here))))).cell; have kr2 := (Mem.row hSw (.there (.there (.there (.there (.there (.there (.there (.there .here))))))))).cell; have kr3 := (Mem.row hSw (.there (.there (.there (.there (.there (.there (.there (.there (.there .here)))))))))).cell; go_simp; try with_reducible rfl)
      simp only [Act.put, List.setIfInBounds_toArray, List.set_cons_zero, List.set_cons_succ]
      refine AtT.taked (i := 1) (v := ?_) (some 33) rfl rfl (by kernel_rfl) (by kernel_rfl) (by kernel_rfl) (by kernel_rfl) (fun _ _ _ h => h) (Or.inl ⟨by kernel_rfl, ?_⟩) hS ?_
      rotate_left
      · (intro wS hSw; (try dsimp only at hSw); have kr0 := (Mem.row hSw .here).cell; have kr1 := (Mem.row hSw (.there (.there (.there (.there .here))))).cell; have kr2 := (Mem.row hSw (.there (.there (.there (.there (.there (.there (.there (.there .here))))))))).cell; have kr3 := (Mem.row hSw (.there (.there (.there (.there (.there (.there (.there (.there (.there .here)))))))))).cell; go_simp; try with_reducible rfl)
      simp only [Act.put, List.setIfInBounds_toArray, List.set_cons_zero, List.set_cons_succ]
      refine AtT.two (i := 2) (j := 7) (by kernel_rfl) rfl rfl rfl rfl ?_ ?_
      · skip
        intro K hK
        go_simp
        refine (toAction_any _ _ _ ).mono ?_
        rintro e w8 ⟨rfl, hb⟩
        replace hM := hM.ext hb
        clear hb
        try dsimp only
        refine hK.out _ _ (hM) ?_
        clear hK K hS
        have hS := hM
        refine AtT.two (i := 3) (j := 7) (by kernel_rfl) rfl rfl rfl rfl ?_ ?_
        · skip
          intro K hK
          go_simp
          refine (implAct_any _ _ _ _ _ xs0_2 _ _ _ xs0_3 _ _ _ xs0_4 _ _ _ _ ((hM.ints (.there .here)).ints) ((hM.ints (.there (.there .here))).ints) ((hM.ints (.there (.there (.there .here)))).ints)).mono ?_
          rw [HQ0.out]
          rintro e w9 ⟨ag0_2, ng0_2, cg0_2, ag0_3, ng0_3, cg0_3, ag0_4, ng0_4, cg0_4, rfl, hm⟩
          replace hM := hM.join hm
          clear hm
          (try simp only [World.size_alloc, World.size_setCell, World.heap_drewN, heapDrew, Nat.add_assoc, Nat.reduceAdd, List.setIfInBounds_toArray, List.set_cons_zero, List.set_cons_succ, List.cons_append, List.nil_append] at hM)
          try dsimp only
          refine hK.out _ _ (hM.tail.tail.tail) ?_
          clear hK K hS
          have hS := hM.tail.tail.tail
          refine AtT.taked (i := 4) (v := ?_) (some 31) rfl rfl (by kernel_rfl) (by kernel_rfl) (by kernel_rfl) (by kernel_rfl) (fun _ _ _ h => h) (Or.inl ⟨by kernel_rfl, ?_⟩) hS ?_
          rotate_left
          · (intro wS hSw; (try dsimp only at hSw); go_simp; try with_reducible rfl)
          simp only [Act.put, List.setIfInBounds_toArray, List.set_cons_zero, List.set_cons_succ]
          refine AtT.taked (i := 5) (v := ?_) (some 36) rfl rfl (by kernel_rfl) (by kernel_rfl) (by kernel_rfl) (by kernel_rfl) (fun _ _ _ h => h) (Or.inl ⟨by kernel_rfl, ?_⟩) hS ?_
          rotate_left
          · (intro wS hSw; (try dsimp only at hSw); go_simp; try with_reducible rfl)
          simp only [Act.put, List.setIfInBounds_toArray, List.set_cons_zero, List.set_cons_succ]
          refine AtT.taked (i := 6) (v := ?_) (some 37) rfl rfl (by kernel_rfl) (by kernel_rfl) (by kernel_rfl) (by kernel_rfl) (fun _ _ _ h => h) (Or.inl ⟨by kernel_rfl, ?_⟩) hS ?_
          rotate_left
          · (intro wS hSw; (try dsimp only at hSw); go_simp; try with_reducible rfl)
          simp only [Act.put, List.setIfInBounds_toArray, List.set_cons_zero, List.set_cons_succ]
          refine AtT.only (i := 7) (by kernel_rfl) rfl rfl ?_
          intro K hK
          go_simp
          refine hK.out _ _ (by apply Mem.tail; apply Mem.tail; apply Mem.tail; apply Mem.tail; (repeat' (first | with_reducible exact hM | with_reducible exact hMp | with_reducible apply Mem.drew | with_reducible apply Mem.drewN | with_reducible apply Mem.alloc | with_reducible apply Mem.set | with_reducible exact Sto.row | ((with_reducible refine Sto.rowEq2 ?_ ?_); omega; rfl) | ((with_reducible refine Sto.rowEq ?_); omega) | with_reducible apply Sto.int | with_reducible apply Sto.there | with_reducible assumption | (unfold I64; omega) | (with_reducible (have hMx := Mem.undrew hM; exact hMx)) | (with_reducible (have hMx := Mem.undrew hMp; exact hMx))))) ?_
          clear hK K hS
          have hMp := hM
          apply Mem.atT
          · (repeat' (first | with_reducible exact hM | with_reducible exact hMp | with_reducible apply Mem.drew | with_reducible apply Mem.drewN | with_reducible apply Mem.alloc | with_reducible apply Mem.set | with_reducible exact Sto.row | ((with_reducible refine Sto.rowEq2 ?_ ?_); omega; rfl) | ((with_reducible refine Sto.rowEq ?_); omega) | with_reducible apply Sto.int | with_reducible apply Sto.there | with_reducible assumption | (unfold I64; omega) | (with_reducible (have hMx := Mem.undrew hM; exact hMx)) | (with_reducible (have hMx := Mem.undrew hMp; exact hMx))))
          clear hM
          intro hM
          (try simp only [World.size_alloc, World.size_setCell, World.heap_drewN, heapDrew, Nat.add_assoc, Nat.reduceAdd, List.setIfInBounds_toArray, List.set_cons_zero, List.set_cons_succ, List.cons_append, List.nil_append] at hM)
          have hS := hM.tail.tail.tail.tail
          refine AtT.only (i := 8) (by kernel_rfl) rfl rfl ?_
          intro K hK
          have kk0 := (hM.row .here).cell
          have ff0 := (hM.row .here).free
          have ll0 := (hM.row .here).lt
          have kk4 := (hM.row (.there (.there (.there (.there .here))))).cell
          have ff4 := (hM.row (.there (.there (.there (.there .here))))).free
          have ll4 := (hM.row (.there (.there (.there (.there .here))))).lt
          have kk8 := (hM.row (.there (.there (.there (.there (.there (.there (.there (.there .here))))))))).cell
          have ff8 := (hM.row (.there (.there (.there (.there (.there (.there (.there (.there .here))))))))).free
          have ll8 := (hM.row (.there (.there (.there (.there (.there (.there (.there (.there .here))))))))).lt
          have kk12 := (hM.row (.there (.there (.there (.there (.there (.there (.there (.there (.there (.there (.there (.there .here))))))))))))).cell
          have ff12 := (hM.row (.there (.there (.there (.there (.there (.there (.there (.there (.there (.there (.there (.there .here))))))))))))).free
          have ll12 := (hM.row (.there (.there (.there (.there (.there (.there (.there (.there (.there (.there (.there (.there .here))))))))))))).lt
          have kk13 := (hM.row (.there (.there (.there (.there (.there (.there (.there (.there (.there (.there (.there (.there (.there .here)))))))))))))).cell
          have ff13 := (hM.row (.there (.there (.there (.there (.there (.there (.there (.there (.there (.there (.there (.there (.there .here)))))))))))))).free
          have ll13 := (hM.row (.there (.there (.there (.there (.there (.there (.there (.there (.there (.there (.there (.there (.there .here)))))))))))))).lt
          go_simp
          clear kk0 ff0 ll0 kk4 ff4 ll4 kk8 ff8 ll8 kk12 ff12 ll12 kk13 ff13 ll13
          refine hK.out _ _ (by apply Mem.tail; apply Mem.tail; apply Mem.tail; apply Mem.tail; (repeat' (first | with_reducible exact hM | with_reducible exact hMp | with_reducible apply Mem.drew | with_reducible apply Mem.drewN | with_reducible apply Mem.alloc | with_reducible apply Mem.set | with_reducible exact Sto.row | ((with_reducible refine Sto.rowEq2 ?_ ?_); omega; rfl) | ((with_reducible refine Sto.rowEq ?_); omega) | with_reducible apply Sto.int | with_reducible apply Sto.there | with_reducible assumption | (unfold I64; omega) | (with_reducible (have hMx := Mem.undrew hM; exact hMx)) | (with_reducible (have hMx := Mem.undrew hMp; exact hMx))))) ?_
          clear hK K hS
          apply Mem.atT
          · (repeat' (first | with_reducible exact hM | with_reducible exact hMp | with_reducible apply Mem.drew | with_reducible apply Mem.drewN | with_reducible apply Mem.alloc | with_reducible apply Mem.set | with_reducible exact Sto.row | ((with_reducible refine Sto.rowEq2 ?_ ?_); omega; rfl) | ((with_reducible refine Sto.rowEq ?_); omega) | with_reducible apply Sto.int | with_reducible apply Sto.there | with_reducible assumption | (unfold I64; omega) | (with_reducible (have hMx := Mem.undrew hM; exact hMx)) | (with_reducible (have hMx := Mem.undrew hMp; exact hMx))))
          clear hM
          intro hM
          (try simp only [World.size_alloc, World.size_setCell, World.heap_drewN, heapDrew, Nat.add_assoc, Nat.reduceAdd, List.setIfInBounds_toArray, List.set_cons_zero, List.set_cons_succ, List.cons_append, List.nil_append] at hM)
          have hS := hM.tail.tail.tail.tail
          refine AtT.last (by kernel_rfl) rfl (by kernel_rfl) ?_
          intro K hK
          clear hS
          go_simp
          refine hK.out _ _ ?_
          clear hK K
          go_wp2_with fail
          go_meet
          refine ⟨_, ag0_2, ng0_2, cg0_2, ag0_3, ng0_3, cg0_3, ag0_4, ng0_4, cg0_4, rfl, rfl, ?_⟩
          apply Mem.pick (is := [0, 1, 2, 3, 4, 5, 6, 7, 8, 9, 10, 11, 12, 13])
          · (repeat' (first | with_reducible exact hM | with_reducible exact hMp | with_reducible apply Mem.drew | with_reducible apply Mem.drewN | with_reducible apply Mem.alloc | with_reducible apply Mem.set | with_reducible exact Sto.row | ((with_reducible refine Sto.rowEq2 ?_ ?_); omega; rfl) | ((with_reducible refine Sto.rowEq ?_); omega) | with_reducible apply Sto.int | with_reducible apply Sto.there | with_reducible assumption | (unfold I64; omega) | (with_reducible (have hMx := Mem.undrew hM; exact hMx)) | (with_reducible (have hMx := Mem.undrew hMp; exact hMx))))
          · decide
          · rfl
        · skip
          intro K hK
          go_simp
          refine hK.out _ _ (by apply Mem.tail; (repeat' (first | with_reducible exact hM | with_reducible exact hMp | with_reducible apply Mem.drew | with_reducible apply Mem.drewN | with_reducible apply Mem.alloc | with_reducible apply Mem.set | with_reducible exact Sto.row | ((with_reducible refine Sto.rowEq2 ?_ ?_); omega; rfl) | ((with_reducible refine Sto.rowEq ?_); omega) | with_reducible apply Sto.int | with_reducible apply Sto.there | with_reducible assumption | (unfold I64; omega) | (with_reducible (have hMx := Mem.undrew hM; exact hMx)) | (with_reducible (have hMx := Mem.undrew hMp; exact hMx))))) ?_
          clear hK K hS
          have hMp := hM
          apply Mem.atT
          · (repeat' (first | with_reducible exact hM | with_reducible exact hMp | with_reducible apply Mem.drew | with_reducible apply Mem.drewN | with_reducible apply Mem.alloc | with_reducible apply Mem.set | with_reducible exact Sto.row | ((with_reducible refine Sto.rowEq2 ?_ ?_); omega; rfl) | ((with_reducible refine Sto.rowEq ?_); omega) | with_reducible apply Sto.int | with_reducible apply Sto.there | with_reducible assumption | (unfold I64; omega) | (with_reducible (have hMx := Mem.undrew hM; exact hMx)) | (with_reducible (have hMx := Mem.undrew hMp; exact hMx))))
          clear hM
          intro hM
          (try simp only [World.size_alloc, World.size_setCell, World.heap_drewN, heapDrew, Nat.add_assoc, Nat.reduceAdd, List.setIfInBounds_toArray, List.set_cons_zero, List.set_cons_succ, List.cons_append, List.nil_append] at hM)
          have hS := hM.tail
          refine AtT.only (i := 3) (by kernel_rfl) rfl rfl ?_
          intro K hK
          go_simp
          refine (implAct_any _ _ _ _ _ xs0_2 _ _ _ xs0_3 _ _ _ xs0_4 _ _ _ _ ((hM.ints (.there (.there .here))).ints) ((hM.ints (.there (.there (.there .here)))).ints) ((hM.ints (.there (.there (.there (.there .here))))).ints)).mono ?_
          rw [HQ0.out]
          rintro e w9 ⟨ag0_2, ng0_2, cg0_2, ag0_3, ng0_3, cg0_3, ag0_4, ng0_4, cg0_4, rfl, hm⟩
          replace hM := hM.join hm
          clear hm
          (try simp only [World.size_alloc, World.size_setCell, World.heap_drewN, heapDrew, Nat.add_assoc, Nat.reduceAdd, List.setIfInBounds_toArray, List.set_cons_zero, List.set_cons_succ, List.cons_append, List.nil_append] at hM)
          try dsimp only
          refine hK.out _ _ (hM.tail.tail.tail.tail) ?_
          clear hK K hS
          have hS := hM.tail.tail.tail.tail
          refine AtT.taked (i := 4) (v := ?_) (some 31) rfl rfl (by kernel_rfl) (by kernel_rfl) (by kernel_rfl) (by kernel_rfl) (fun _ _ _ h => h) (Or.inl ⟨by kernel_rfl, ?_⟩) hS ?_
          rotate_left
          · (intro wS hSw; (try dsimp only at hSw); go_simp; try with_reducible rfl)
          simp only [Act.put, List.setIfInBounds_toArray, List.set_cons_zero, List.set_cons_succ]
          refine AtT.taked (i := 5) (v := ?_) (some 36) rfl rfl (by kernel_rfl) (by kernel_rfl) (by kernel_rfl) (by kernel_rfl) (fun _ _ _ h => h) (Or.inl ⟨by kernel_rfl, ?_⟩) hS ?_
          rotate_left
          · (intro wS hSw; (try dsimp only at hSw); go_simp; try with_reducible rfl)
          simp only [Act.put, List.setIfInBounds_toArray, List.set_cons_zero, List.set_cons_succ]
          refine AtT.taked (i := 6) (v := ?_) (some 37) rfl rfl (by kernel_rfl) (by kernel_rfl) (by kernel_rfl) (by kernel_rfl) (fun _ _ _ h => h) (Or.inl ⟨by kernel_rfl, ?_⟩) hS ?_
          rotate_left
          · (intro wS hSw; (try dsimp only at hSw); go_simp; try with_reducible rfl)
          simp only [Act.put, List.setIfInBounds_toArray, List.set_cons_zero, List.set_cons_succ]
          refine AtT.only (i := 8) (by kernel_rfl) rfl rfl ?_
          intro K hK
          have kk3 := (hM.row (.there (.there (.there .here)))).cell
          have ff3 := (hM.row (.there (.there (.there .here)))).free
          have ll3 := (hM.row (.there (.there (.there .here)))).lt
          have kk4 := (hM.row (.there (.there (.there (.there .here))))).cell
          have ff4 := (hM.row (.there (.there (.there (.there .here))))).free
          have ll4 := (hM.row (.there (.there (.there (.there .here))))).lt
          have kk8 := (hM.row (.there (.there (.there (.there (.there (.there (.there (.there .here))))))))).cell
          have ff8 := (hM.row (.there (.there (.there (.there (.there (.there (.there (.there .here))))))))).free
          have ll8 := (hM.row (.there (.there (.there (.there (.there (.there (.there (.there .here))))))))).lt
          have kk12 := (hM.row (.there (.there (.there (.there (.there (.there (.there (.there (.there (.there (.there (.there .here))))))))))))).cell
          have ff12 := (hM.row (.there (.there (.there (.there (.there (.there (.there (.there (.there (.there (.there (.there .here))))))))))))).free
          have ll12 := (hM.row (.there (.there (.there (.there (.there (.there (.there (.there (.there (.there (.there (.there .here))))))))))))).lt
          have kk13 := (hM.row (.there (.there (.there (.there (.there (.there (.there (.there (.there (.there (.there (.there (.there .here)))))))))))))).cell
          have ff13 := (hM.row (.there (.there (.there (.there (.there (.there (.there (.there (.there (.there (.there (.there (.there .here)))))))))))))).free
          have ll13 := (hM.row (.there (.there (.there (.there (.there (.there (.there (.there (.there (.there (.there (.there (.there .here)))))))))))))).lt
          go_simp
          clear kk3 ff3 ll3 kk4 ff4 ll4 kk8 ff8 ll8 kk12 ff12 ll12 kk13 ff13 ll13
          refine hK.out _ _ (by apply Mem.tail; apply Mem.tail; apply Mem.tail; apply Mem.tail; (repeat' (first | with_reducible exact hM | with_reducible exact hMp | with_reducible apply Mem.drew | with_reducible apply Mem.drewN | with_reducible apply Mem.alloc | with_reducible apply Mem.set | with_reducible exact Sto.row | ((with_reducible refine Sto.rowEq2 ?_ ?_); omega; rfl) | ((with_reducible refine Sto.rowEq ?_); omega) | with_reducible apply Sto.int | with_reducible apply Sto.there | with_reducible assumption | (unfold I64; omega) | (with_reducible (have hMx := Mem.undrew hM; exact hMx)) | (with_reducible (have hMx := Mem.undrew hMp; exact hMx))))) ?_
          clear hK K hS
          apply Mem.atT
          · (repeat' (first | with_reducible exact hM | with_reducible exact hMp | with_reducible apply Mem.drew | with_reducible apply Mem.drewN | with_reducible apply Mem.alloc | with_reducible apply Mem.set | with_reducible exact Sto.row | ((with_reducible refine Sto.rowEq2 ?_ ?_); omega; rfl) | ((with_reducible refine Sto.rowEq ?_); omega) | with_reducible apply Sto.int | with_reducible apply Sto.there | with_reducible assumption | (unfold I64; omega) | (with_reducible (have hMx := Mem.undrew hM; exact hMx)) | (with_reducible (have hMx := Mem.undrew hMp; exact hMx))))
          clear hM
          intro hM
          (try simp only [World.size_alloc, World.size_setCell, World.heap_drewN, heapDrew, Nat.add_assoc, Nat.reduceAdd, List.setIfInBounds_toArray, List.set_cons_zero, List.set_cons_succ, List.cons_append, List.nil_append] at hM)
          have hS := hM.tail.tail.tail.tail
          refine AtT.last (by kernel_rfl) rfl (by kernel_rfl) ?_
          intro K hK
          clear hS
          go_simp
          refine hK.out _ _ ?_
          clear hK K
          go_wp2_with fail
          go_meet
          refine ⟨_, ag0_2, ng0_2, cg0_2, ag0_3, ng0_3, cg0_3, ag0_4, ng0_4, cg0_4, rfl, rfl, ?_⟩
          apply Mem.pick (is := [3, 0, 1, 2, 4, 5, 6, 7, 8, 9, 10, 11, 12, 13])
          · (repeat' (first | with_reducible exact hM | with_reducible exact hMp | with_reducible apply Mem.drew | with_reducible apply Mem.drewN | with_reducible apply Mem.alloc | with_reducible apply Mem.set | with_reducible exact Sto.row | ((with_reducible refine Sto.rowEq2 ?_ ?_); omega; rfl) | ((with_reducible refine Sto.rowEq ?_); omega) | with_reducible apply Sto.int | with_reducible apply Sto.there | with_reducible assumption | (unfold I64; omega) | (with_reducible (have hMx := Mem.undrew hM; exact hMx)) | (with_reducible (have hMx := Mem.undrew hMp; exact hMx))))
          · decide
          · rfl
      · skip
        intro K hK
        go_simp
        refine hK.out _ _ (by apply Mem.tail; (repeat' (first | with_reducible exact hM | with_reducible exact hMp | with_reducible apply Mem.drew | with_reducible apply Mem.drewN | with_reducible apply Mem.alloc | with_reducible apply Mem.set | with_reducible exact Sto.row | ((with_reducible refine Sto.rowEq2 ?_ ?_); omega; rfl) | ((with_reducible refine Sto.rowEq ?_); omega) | with_reducible apply Sto.int | with_reducible apply Sto.there | with_reducible assumption | (unfold I64; omega) | (with_reducible (have hMx := Mem.undrew hM; exact hMx)) | (with_reducible (have hMx := Mem.undrew hMp; exact hMx))))) ?_
        clear hK K hS
        have hMp := hM
        apply Mem.atT
        · (repeat' (first | with_reducible exact hM | with_reducible exact hMp | with_reducible apply Mem.drew | with_reducible apply Mem.drewN | with_reducible apply Mem.alloc | with_reducible apply Mem.set | with_reducible exact Sto.row | ((with_reducible refine Sto.rowEq2 ?_ ?_); omega; rfl) | ((with_reducible refine Sto.rowEq ?_); omega) | with_reducible apply Sto.int | with_reducible apply Sto.there | with_reducible assumption | (unfold I64; omega) | (with_reducible (have hMx := Mem.undrew hM; exact hMx)) | (with_reducible (have hMx := Mem.undrew hMp; exact hMx))))
        clear hM
        intro hM
        (try simp only [World.size_alloc, World.size_setCell, World.heap_drewN, heapDrew, Nat.add_assoc, Nat.reduceAdd, List.setIfInBounds_toArray, List.set_cons_zero, List.set_cons_succ, List.cons_append, List.nil_append] at hM)
        have hS := hM.tail
        refine AtT.only (i := 2) (by kernel_rfl) rfl rfl ?_
        intro K hK
        go_simp
        refine (toAction_any _ _ _ ).mono ?_
        rintro e w8 ⟨rfl, hb⟩
        replace hM := hM.ext hb
        clear hb
        try dsimp only
        refine hK.out _ _ (hM.tail) ?_
        clear hK K hS
        have hS := hM.tail
        refine AtT.only (i := 3) (by kernel_rfl) rfl rfl ?_
        intro K hK
        go_simp
        refine (implAct_any _ _ _ _ _ xs0_2 _ _ _ xs0_3 _ _ _ xs0_4 _ _ _ _ ((hM.ints (.there (.there .here))).ints) ((hM.ints (.there (.there (.there .here)))).ints) ((hM.ints (.there (.there (.there (.there .here))))).ints)).mono ?_
        rw [HQ0.out]
        rintro e w9 ⟨ag0_2, ng0_2, cg0_2, ag0_3, ng0_3, cg0_3, ag0_4, ng0_4, cg0_4, rfl, hm⟩
        replace hM := hM.join hm
        clear hm
        (try simp only [World.size_alloc, World.size_setCell, World.heap_drewN, heapDrew, Nat.add_assoc, Nat.reduceAdd, List.setIfInBounds_toArray, List.set_cons_zero, List.set_cons_succ, List.cons_append, List.nil_append] at hM)
        try dsimp only
        refine hK.out _ _ (hM.tail.tail.tail.tail) ?_
        clear hK K hS
        have hS := hM.tail.tail.tail.tail
        refine AtT.taked (i := 4) (v := ?_) (some 31) rfl rfl (by kernel_rfl) (by kernel_rfl) (by kernel_rfl) (by kernel_rfl) (fun _ _ _ h => h) (Or.inl ⟨by kernel_rfl, ?_⟩) hS ?_
        rotate_left
        · (intro wS hSw; (try dsimp only at hSw); go_simp; try with_reducible rfl)
        simp only [Act.put, List.setIfInBounds_toArray, List.set_cons_zero, List.set_cons_succ]
        refine AtT.taked (i := 5) (v := ?_) (some 36) rfl rfl (by kernel_rfl) (by kernel_rfl) (by kernel_rfl) (by kernel_rfl) (fun _ _ _ h => h) (Or.inl ⟨by kernel_rfl, ?_⟩) hS ?_
        rotate_left
        · (intro wS hSw; (try dsimp only at hSw); go_simp; try with_reducible rfl)
        simp only [Act.put, List.setIfInBounds_toArray, List.set_cons_zero, List.set_cons_succ]
        refine AtT.taked (i := 6) (v := ?_) (some 37) rfl rfl (by kernel_rfl) (by kernel_rfl) (by kernel_rfl) (by kernel_rfl) (fun _ _ _ h => h) (Or.inl ⟨by kernel_rfl, ?_⟩) hS ?_
        rotate_left
        · (intro wS hSw; (try dsimp only at hSw); go_simp; try with_reducible rfl)
        simp only [Act.put, List.setIfInBounds_toArray, List.set_cons_zero, List.set_cons_succ]
        refine AtT.only (i := 8) (by kernel_rfl) rfl rfl ?_
        intro K hK
        have kk3 := (hM.row (.there (.there (.there .here)))).cell
        have ff3 := (hM.row (.there (.there (.there .here)))).free
        have ll3 := (hM.row (.there (.there (.there .here)))).lt
        have kk4 := (hM.row (.there (.there (.there (.there .here))))).cell
        have ff4 := (hM.row (.there (.there (.there (.there .here))))).free
        have ll4 := (hM.row (.there (.there (.there (.there .here))))).lt
        have kk8 := (hM.row (.there (.there (.there (.there (.there (.there (.there (.there .here))))))))).cell
        have ff8 := (hM.row (.there (.there (.there (.there (.there (.there (.there (.there .here))))))))).free
        have ll8 := (hM.row (.there (.there (.there (.there (.there (.there (.there (.there .here))))))))).lt
        have kk12 := (hM.row (.there (.there (.there (.there (.there (.there (.there (.there (.there (.there (.there (.there .here))))))))))))).cell
        have ff12 := (hM.row (.there (.there (.there (.there (.there (.there (.there (.there (.there (.there (.there (.there .here))))))))))))).free
        have ll12 := (hM.row (.there (.there (.there (.there (.there (.there (.there (.there (.there (.there (.there (.there .here))))))))))))).lt
        have kk13 := (hM.row (.there (.there (.there (.there (.there (.there (.there (.there (.there (.there (.there (.there (.there .here)))))))))))))).cell
        have ff13 := (hM.row (.there (.there (.there (.there (.there (.there (.there (.there (.there (.there (.there (.there (.there .here)))))))))))))).free
        have ll13 := (hM.row (.there (.there (.there (.there (.there (.there (.there (.there (.there (.there (.there (.there (.there .here)))))))))))))).lt
        go_simp
        clear kk3 ff3 ll3 kk4 ff4 ll4 kk8 ff8 ll8 kk12 ff12 ll12 kk13 ff13 ll13
        refine hK.out _ _ (by apply Mem.tail; apply Mem.tail; apply Mem.tail; apply Mem.tail; (repeat' (first | with_reducible exact hM | with_reducible exact hMp | with_reducible apply Mem.drew | with_reducible apply Mem.drewN | with_reducible apply Mem.alloc | with_reducible apply Mem.set | with_reducible exact Sto.row | ((with_reducible refine Sto.rowEq2 ?_ ?_); omega; rfl) | ((with_reducible refine Sto.rowEq ?_); omega) | with_reducible apply Sto.int | with_reducible apply Sto.there | with_reducible assumption | (unfold I64; omega) | (with_reducible (have hMx := Mem.undrew hM; exact hMx)) | (with_reducible (have hMx := Mem.undrew hMp; exact hMx))))) ?_
        clear hK K hS
        apply Mem.atT
        · (repeat' (first | with_reducible exact hM | with_reducible exact hMp | with_reducible apply Mem.drew | with_reducible apply Mem.drewN | with_reducible apply Mem.alloc | with_reducible apply Mem.set | with_reducible exact Sto.row | ((with_reducible refine Sto.rowEq2 ?_ ?_); omega; rfl) | ((with_reducible refine Sto.rowEq ?_); omega) | with_reducible apply Sto.int | with_reducible apply Sto.there | with_reducible assumption | (unfold I64; omega) | (with_reducible (have hMx := Mem.undrew hM; exact hMx)) | (with_reducible (have hMx := Mem.undrew hMp; exact hMx))))
        clear hM
        intro hM
        (try simp only [World.size_alloc, World.size_setCell, World.heap_drewN, heapDrew, Nat.add_assoc, Nat.reduceAdd, List.setIfInBounds_toArray, List.set_cons_zero, List.set_cons_succ, List.cons_append, List.nil_append] at hM)
        have hS := hM.tail.tail.tail.tail
        refine AtT.last (by kernel_rfl) rfl (by kernel_rfl) ?_
        intro K hK
        clear hS
        go_simp
        refine hK.out _ _ ?_
        clear hK K
        go_wp2_with fail
        go_meet
        refine ⟨_, ag0_2, ng0_2, cg0_2, ag0_3, ng0_3, cg0_3, ag0_4, ng0_4, cg0_4, rfl, rfl, ?_⟩
        apply Mem.pick (is := [3, 0, 1, 2, 4, 5, 6, 7, 8, 9, 10, 11, 12, 13])
        · (repeat' (first | with_reducible exact hM | with_reducible exact hMp | with_reducible apply Mem.drew | with_reducible apply Mem.drewN | with_reducible apply Mem.alloc | with_reducible apply Mem.set | with_reducible exact Sto.row | ((with_reducible refine Sto.rowEq2 ?_ ?_); omega; rfl) | ((with_reducible refine Sto.rowEq ?_); omega) | with_reducible apply Sto.int | with_reducible apply Sto.there | with_reducible assumption | (unfold I64; omega) | (with_reducible (have hMx := Mem.undrew hM; exact hMx)) | (with_reducible (have hMx := Mem.undrew hMp; exact hMx))))
        · decide
        · rfl
    case rest =>
      clear hM
      obtain ⟨bbg0, ag0_2, ng0_2, cg0_2, ag0_3, ng0_3, cg0_3, ag0_4, ng0_4, cg0_4, rfl, rfl, hM⟩ := hcut
      have hbb1 : (v1 != v1) = false := by cases v1 <;> rfl
      obtain ⟨k0, f0, l0⟩ := hM.row .here
      obtain ⟨k8, f8, l8⟩ := hM.row (.there (.there (.there (.there (.there (.there (.there (.there .here))))))))
      go_wp2_with fail
      clear k0 f0 l0 k8 f8 l8
      apply Mem.at
      · (repeat' (first | with_reducible exact hM | with_reducible exact hMp | with_reducible apply Mem.drew | with_reducible apply Mem.drewN | with_reducible apply Mem.alloc | with_reducible apply Mem.set | with_reducible exact Sto.row | ((with_reducible refine Sto.rowEq2 ?_ ?_); omega; rfl) | ((with_reducible refine Sto.rowEq ?_); omega) | with_reducible apply Sto.int | with_reducible apply Sto.there | with_reducible assumption | (unfold I64; omega) | (with_reducible (have hMx := Mem.undrew hM; exact hMx)) | (with_reducible (have hMx := Mem.undrew hMp; exact hMx))))
      clear hM
      intro hM
      (try simp only [World.size_alloc, World.size_setCell, World.heap_drewN, heapDrew, Nat.add_assoc, Nat.reduceAdd, List.setIfInBounds_toArray, List.set_cons_zero, List.set_cons_succ, List.cons_append, List.nil_append] at hM)
      refine (eqIncident_any _ _ _ _ _ zs0_2 _ _ _ zs0_3 _ _ _ zs0_4 _ _ _ _ _ _ zs0_2 _ _ _ zs0_3 _ _ _ zs0_4 _ _ ((hM.ints (.there .here)).ints) ((hM.ints (.there (.there .here))).ints) ((hM.ints (.there (.there (.there .here)))).ints) ((hM.ints (.there (.there (.there (.there (.there (.there (.there (.there (.there .here)))))))))).ints) ((hM.ints (.there (.there (.there (.there (.there (.there (.there (.there (.there (.there .here))))))))))).ints) ((hM.ints (.there (.there (.there (.there (.there (.there (.there (.there (.there (.there (.there .here)))))))))))).ints)).mono ?_
      rw [eqInc_refl]
      rintro e w10 ⟨rfl, hb⟩
      replace hM := hM.ext hb
      clear hb
      obtain ⟨k4, f4, l4⟩ := hM.row (.there (.there (.there (.there .here))))
      obtain ⟨k13, f13, l13⟩ := hM.row (.there (.there (.there (.there (.there (.there (.there (.there (.there (.there (.there (.there (.there .here)))))))))))))
      go_wp2_with fail
      clear k4 f4 l4 k13 f13 l13
      apply Mem.atWp
      · (repeat' (first | with_reducible exact hM | with_reducible exact hMp | with_reducible apply Mem.drew | with_reducible apply Mem.drewN | with_reducible apply Mem.alloc | with_reducible apply Mem.set | with_reducible exact Sto.row | ((with_reducible refine Sto.rowEq2 ?_ ?_); omega; rfl) | ((with_reducible refine Sto.rowEq ?_); omega) | with_reducible apply Sto.int | with_reducible apply Sto.there | with_reducible assumption | (unfold I64; omega) | (with_reducible (have hMx := Mem.undrew hM; exact hMx)) | (with_reducible (have hMx := Mem.undrew hMp; exact hMx))))
      clear hM
      intro hM
      (try simp only [World.size_alloc, World.size_setCell, World.heap_drewN, heapDrew, Nat.add_assoc, Nat.reduceAdd, List.setIfInBounds_toArray, List.set_cons_zero, List.set_cons_succ, List.cons_append, List.nil_append] at hM)
      refine AtT.startA hM hM 4 (by kernel_rfl) ?_
      clear hM
      intro wd hM
      have hS := hM
      refine AtT.taked (i := 0) (v := ?_) (some 47) rfl rfl (by kernel_rfl) (by kernel_rfl) (by kernel_rfl) (by kernel_rfl) (fun _ _ _ h => h) (Or.inl ⟨by kernel_rfl, ?_⟩) hS ?_
      rotate_left
      · (intro wS hSw; (try dsimp only at hSw); have kr0 := (Mem.row hSw (.there (.there (.there (.there (.there (.there (.there (.there (.there (.there (.there (.there (.there .here)))))))))))))).cell; have kr1 := (Mem.row hSw (.there (.there (.there (.there .here))))).cell; go_simp; try with_reducible rfl)
      simp only [Act.put, List.setIfInBounds_toArray, List.set_cons_zero, List.set_cons_succ]
      refine AtT.taked (i := 1) (v := ?_) (some 48) rfl rfl (by kernel_rfl) (by kernel_rfl) (by kernel_rfl) (by kernel_rfl) (fun _ _ _ h => h) (Or.inl ⟨by kernel_rfl, ?_⟩) hS ?_
      rotate_left
      · (intro wS hSw; (try dsimp only at hSw); have kr0 := (Mem.row hSw (.there (.there (.there (.there (.there (.there (.there (.there (.there (.there (.there (.there (.there .here)))))))))))))).cell; have kr1 := (Mem.row hSw (.there (.there (.there (.there .here))))).cell; go_simp; try with_reducible rfl)
      simp only [Act.put, List.setIfInBounds_toArray, List.set_cons_zero, List.set_cons_succ]
      refine AtT.only (i := 2) (by kernel_rfl) rfl rfl ?_
      intro K hK
      go_simp
      refine (toIncident_any _ _ _ _ _ xs0_2 _ _ _ xs0_3 _ _ _ xs0_4 _ _ (I0_2.ext hM.below) (I0_3.ext hM.below) (I0_4.ext hM.below)).mono ?_
      rintro e w11 ⟨bq11_2, dq11_2, bq11_3, dq11_3, bq11_4, dq11_4, rfl, hm⟩
      replace hM := hM.join hm
      clear hm
      (try simp only [World.size_alloc, World.size_setCell, World.heap_drewN, heapDrew, Nat.add_assoc, Nat.reduceAdd, List.setIfInBounds_toArray, List.set_cons_zero, List.set_cons_succ, List.cons_append, List.nil_append] at hM)
      try dsimp only
      refine hK.out _ _ (hM.tail.tail.tail) ?_
      clear hK K hS
      have hS := hM.tail.tail.tail
      refine AtT.only (i := 3) (by kernel_rfl) rfl rfl ?_
      intro K hK
      go_simp
      refine (eqIncident_any _ _ _ _ _ xs0_2 _ _ _ xs0_3 _ _ _ xs0_4 _ _ _ _ _ _ xs0_2 _ _ _ xs0_3 _ _ _ xs0_4 _ _ ((hM.ints (.there (.there (.there (.there (.there (.there (.there (.there .here))))))))).ints) ((hM.ints (.there (.there (.there (.there (.there (.there (.there (.there (.there .here)))))))))).ints) ((hM.ints (.there (.there (.there (.there (.there (.there (.there (.there (.there (.there .here))))))))))).ints) ((hM.ints .here).ints) ((hM.ints (.there .here)).ints) ((hM.ints (.there (.there .here))).ints)).mono ?_
      rw [eqInc_refl]
      rintro e w12 ⟨rfl, hb⟩
      replace hM := hM.ext hb
      clear hb
      try dsimp only
      refine hK.out _ _ (hM.tail.tail.tail) ?_
      clear hK K hS
      have hS := hM.tail.tail.tail
      refine AtT.last (by kernel_rfl) rfl (by kernel_rfl) ?_
      intro K hK
      clear hS
      go_simp
      refine hK.out _ _ ?_
      clear hK K
      obtain ⟨k7, f7, l7⟩ := hM.row (.there (.there (.there (.there (.there (.there (.there .here)))))))
      go_wp2_with fail
      clear k7 f7 l7
      apply Mem.at
      · (repeat' (first | with_reducible exact hM | with_reducible exact hMp | with_reducible apply Mem.drew | with_reducible apply Mem.drewN | with_reducible apply Mem.alloc | with_reducible apply Mem.set | with_reducible exact Sto.row | ((with_reducible refine Sto.rowEq2 ?_ ?_); omega; rfl) | ((with_reducible refine Sto.rowEq ?_); omega) | with_reducible apply Sto.int | with_reducible apply Sto.there | with_reducible assumption | (unfold I64; omega) | (with_reducible (have hMx := Mem.undrew hM; exact hMx)) | (with_reducible (have hMx := Mem.undrew hMp; exact hMx))))
      clear hM
      intro hM
      (try simp only [World.size_alloc, World.size_setCell, World.heap_drewN, heapDrew, Nat.add_assoc, Nat.reduceAdd, List.setIfInBounds_toArray, List.set_cons_zero, List.set_cons_succ, List.cons_append, List.nil_append] at hM)
      replace hM := hM.pick (is := [8, 9, 10, 0, 1, 2, 3, 4, 5, 6, 7, 11, 12, 13, 14, 15, 16]) (by decide) rfl
      refine (markIncident_any _ _ _ _ _ _ _ _ _ _ _ _ _ _ _ _ _ _ 1 _ hM (by omega)).mono ?_
      clear hM
      rintro e w13 ⟨rfl, hM⟩
      obtain ⟨k6, f6, l6⟩ := hM.row (.there (.there (.there (.there (.there (.there .here))))))
      obtain ⟨k11, f11, l11⟩ := hM.row (.there (.there (.there (.there (.there (.there (.there (.there (.there (.there (.there .here)))))))))))
      go_wp2_with fail
      clear k6 f6 l6 k11 f11 l11
      apply Mem.at
      · (repeat' (first | with_reducible exact hM | with_reducible exact hMp | with_reducible apply Mem.drew | with_reducible apply Mem.drewN | with_reducible apply Mem.alloc | with_reducible apply Mem.set | with_reducible exact Sto.row | ((with_reducible refine Sto.rowEq2 ?_ ?_); omega; rfl) | ((with_reducible refine Sto.rowEq ?_); omega) | with_reducible apply Sto.int | with_reducible apply Sto.there | with_reducible assumption | (unfold I64; omega) | (with_reducible (have hMx := Mem.undrew hM; exact hMx)) | (with_reducible (have hMx := Mem.undrew hMp; exact hMx))))
      clear hM
      intro hM
      (try simp only [World.size_alloc, World.size_setCell, World.heap_drewN, heapDrew, Nat.add_assoc, Nat.reduceAdd, List.setIfInBounds_toArray, List.set_cons_zero, List.set_cons_succ, List.cons_append, List.nil_append] at hM)
      refine (eqIncident_any _ _ _ _ _ zs0_2 _ _ _ zs0_3 _ _ _ zs0_4 _ _ _ _ _ _ zs0_2 _ _ _ zs0_3 _ _ _ zs0_4 _ _ ((hM.ints (.there (.there (.there (.there (.there (.there (.there .here)))))))).ints) ((hM.ints (.there (.there (.there (.there (.there (.there (.there (.there .here))))))))).ints) ((hM.ints (.there (.there (.there (.there (.there (.there (.there (.there (.there .here)))))))))).ints) ((hM.ints (.there (.there (.there (.there (.there (.there (.there (.there (.there (.there (.there (.there .here))))))))))))).ints) ((hM.ints (.there (.there (.there (.there (.there (.there (.there (.there (.there (.there (.there (.there (.there .here)))))))))))))).ints) ((hM.ints (.there (.there (.there (.there (.there (.there (.there (.there (.there (.there (.there (.there (.there (.there .here))))))))))))))).ints)).mono ?_
      rw [eqInc_refl]
      rintro e w14 ⟨rfl, hb⟩
      replace hM := hM.ext hb
      clear hb
      obtain ⟨k6, f6, l6⟩ := hM.row (.there (.there (.there (.there (.there (.there .here))))))
      go_wp2_with fail
      clear k6 f6 l6
      apply Mem.at
      · (repeat' (first | with_reducible exact hM | with_reducible exact hMp | with_reducible apply Mem.drew | with_reducible apply Mem.drewN | with_reducible apply Mem.alloc | with_reducible apply Mem.set | with_reducible exact Sto.row | ((with_reducible refine Sto.rowEq2 ?_ ?_); omega; rfl) | ((with_reducible refine Sto.rowEq ?_); omega) | with_reducible apply Sto.int | with_reducible apply Sto.there | with_reducible assumption | (unfold I64; omega) | (with_reducible (have hMx := Mem.undrew hM; exact hMx)) | (with_reducible (have hMx := Mem.undrew hMp; exact hMx))))
      clear hM
      intro hM
      (try simp only [World.size_alloc, World.size_setCell, World.heap_drewN, heapDrew, Nat.add_assoc, Nat.reduceAdd, List.setIfInBounds_toArray, List.set_cons_zero, List.set_cons_succ, List.cons_append, List.nil_append] at hM)
      replace hM := hM.pick (is := [7, 8, 9, 0, 1, 2, 3, 4, 5, 6, 10, 11, 12, 13, 14, 15, 16]) (by decide) rfl
      refine (markIncident_any _ _ _ _ _ _ _ _ _ _ _ _ _ _ _ _ _ _ 1 _ hM (by omega)).mono ?_
      clear hM
      rintro e w15 ⟨rfl, hM⟩
      obtain ⟨k9, f9, l9⟩ := hM.row (.there (.there (.there (.there (.there (.there (.there (.there (.there .here)))))))))
      go_wp2_with fail
      clear k9 f9 l9
      apply Mem.at
      · (repeat' (first | with_reducible exact hM | with_reducible exact hMp | with_reducible apply Mem.drew | with_reducible apply Mem.drewN | with_reducible apply Mem.alloc | with_reducible apply Mem.set | with_reducible exact Sto.row | ((with_reducible refine Sto.rowEq2 ?_ ?_); omega; rfl) | ((with_reducible refine Sto.rowEq ?_); omega) | with_reducible apply Sto.int | with_reducible apply Sto.there | with_reducible assumption | (unfold I64; omega) | (with_reducible (have hMx := Mem.undrew hM; exact hMx)) | (with_reducible (have hMx := Mem.undrew hMp; exact hMx))))
      clear hM
      intro hM
      (try simp only [World.size_alloc, World.size_setCell, World.heap_drewN, heapDrew, Nat.add_assoc, Nat.reduceAdd, List.setIfInBounds_toArray, List.set_cons_zero, List.set_cons_succ, List.cons_append, List.nil_append] at hM)
      have hmm16_0 := (hM.ints .here).room
      have hmm16_1 := (hM.ints (.there .here)).room
      have hmm16_2 := (hM.ints (.there (.there .here))).room
      refine (heldIncident_any _ _ _ _ _ _ _ _ _ _ _ _ 1 _ ((hM.ints .here).ints) ((hM.ints (.there .here)).ints) ((hM.ints (.there (.there .here))).ints) (by omega)).mono ?_
      rintro e w16 ⟨rfl, hb⟩
      replace hM := hM.ext hb
      clear hb
      have hmn16 : ((1 + (ng0_2 : Int) + (ng0_3 : Int) + (ng0_4 : Int)) != (1 + (ng0_2 : Int) + (ng0_3 : Int) + (ng0_4 : Int))) = false := by simp
      have hmp16 : 0 ≤ (1 + (ng0_2 : Int) + (ng0_3 : Int) + (ng0_4 : Int)) := by omega
      go_wp2_with fail
      go_cut [14, 15] (fun s14 s15 wx => ∃ bbh0 ah0_2 nh0_2 ch0_2 ah0_3 nh0_3 ch0_3 ah0_4 nh0_4 ch0_4, s14 = .pointer (some ⟨bbh0, 0, none⟩) ∧ s15 = .bool v1 ∧ Mem w.heap.size w wx [rowE bbh0 28 #[.int .i64 Wr, .int .i64 Hr, .slice ah0_2 nh0_2 ch0_2, .slice ah0_3 nh0_3 ch0_3, .slice ah0_4 nh0_4 ch0_4, .int .i64 tr], intE ah0_2 nh0_2 ch0_2 zs0_2, intE ah0_3 nh0_3 ch0_3 zs0_3, intE ah0_4 nh0_4 ch0_4 zs0_4, intE ag0_2 ng0_2 cg0_2 (fromI 1 ng0_2), intE ag0_3 ng0_3 cg0_3 (fromI (1 + ng0_2) ng0_3), intE ag0_4 ng0_4 cg0_4 (fromI (1 + ng0_2 + ng0_3) ng0_4), rowE bbg0 28 #[.int .i64 Wr, .int .i64 Hr, .slice ag0_2 ng0_2 cg0_2, .slice ag0_3 ng0_3 cg0_3, .slice ag0_4 ng0_4 cg0_4, .int .i64 tr], rowE bbw0 28 #[.int .i64 Wr, .int .i64 Hr, .slice aw0_2 nw0_2 cw0_2, .slice aw0_3 nw0_3 cw0_3, .slice aw0_4 nw0_4 cw0_4, .int .i64 tr], intE aw0_2 nw0_2 cw0_2 zs0_2, intE aw0_3 nw0_3 cw0_3 zs0_3, intE aw0_4 nw0_4 cw0_4 zs0_4, rowE (w.heap.size + 1) 56 #[.int .i64 p1_0, .int .i64 p1_1], rowE w.heap.size 47 #[.int .i64 p0_0, .int .i64 p0_1, .slice a0_2 n0_2 c0_2, .slice a0_3 n0_3 c0_3, .slice a0_4 n0_4 c0_4, .int .i64 p0_5]])
      case first =>
        apply Mem.atWp
        · (repeat' (first | with_reducible exact hM | with_reducible exact hMp | with_reducible apply Mem.drew | with_reducible apply Mem.drewN | with_reducible apply Mem.alloc | with_reducible apply Mem.set | with_reducible exact Sto.row | ((with_reducible refine Sto.rowEq2 ?_ ?_); omega; rfl) | ((with_reducible refine Sto.rowEq ?_); omega) | with_reducible apply Sto.int | with_reducible apply Sto.there | with_reducible assumption | (unfold I64; omega) | (with_reducible (have hMx := Mem.undrew hM; exact hMx)) | (with_reducible (have hMx := Mem.undrew hMp; exact hMx))))
        clear hM
        intro hM
        (try simp only [World.size_alloc, World.size_setCell, World.heap_drewN, heapDrew, Nat.add_assoc, Nat.reduceAdd, List.setIfInBounds_toArray, List.set_cons_zero, List.set_cons_succ, List.cons_append, List.nil_append] at hM)
        refine AtT.startA hM hM 10 (by kernel_rfl) ?_
        clear hM
        intro wd hM
        have hS := hM
        refine AtT.taked (i := 0) (v := ?_) (some 80) rfl rfl (by kernel_rfl) (by kernel_rfl) (by kernel_rfl) (by kernel_rfl) (fun _ _ _ h => h) (Or.inl ⟨by kernel_rfl, ?_⟩) hS ?_
        rotate_left
        · (intro wS hSw; (try dsimp only at hSw); have kr0 := (Mem.row hSw (.there (.there (.there (.there (.there (.there (.there (.there (.there .here)))))))))).cell; have kr1 := (Mem.row hSw (.there (.there (.there (.there (.there (.there (.there (.there (.there (.there .here))))))))))).cell; have kr2 := (Mem.row hSw (.there (.there (.there (.there (.there (.there (.there (.there (.there (.there (.there .here)))))))))))).cell; have kr3 := (Mem.row hSw (.there (.there (.there (.there (.there (.there (.there (.there (.there (.there (.there (.there (.there (.there (.there .here)))))))))))))))).cell; have kr4 := (Mem.row hSw (.there (.there (.there (.there (.there (.there (.there (.there (.there (.there (.there (.there (.there (.there (.there (.there .here))))))))))))))))).cell; go_simp; try with_reducible rfl)
        simp only [Act.put, List.setIfInBounds_toArray, List.set_cons_zero, List.set_cons_succ]
        refine AtT.taked (i := 2) (v := ?_) (some 82) rfl rfl (by kernel_rfl) (by kernel_rfl) (by kernel_rfl) (by kernel_rfl) (fun _ _ _ h => h) (Or.inl ⟨by kernel_rfl, ?_⟩) hS ?_
        rotate_left
        · (intro wS hSw; (try dsimp only at hSw); have kr0 := (Mem.row hSw (.there (.there (.there (.there (.there (.there (.there (.there (.there .here)))))))))).cell; have kr1 := (Mem.row hSw (.there (.there (.there (.there (.there (.there (.there (.there (.there (.there .here))))))))))).cell; have kr2 := (Mem.row hSw (.there (.there (.there (.there (.there (.there (.there (.there (.there (.there (.there .here)))))))))))).cell; have kr3 := (Mem.row hSw (.there (.there (.there (.there (.there (.there (.there (.there (.there (.there (.there (.there (.there (.there (.there .here)))))))))))))))).cell; have kr4 := (Mem.row hSw (.there (.there (.there (.there (.there (.there (.there (.there (.there (.there (.there (.there (.there (.there (.there (.there .here))))))))))))))))).cell; go_simp; try with_reducible rfl)
        simp only [Act.put, List.setIfInBounds_toArray, List.set_cons_zero, List.set_cons_succ]
        refine AtT.two (i := 1) (j := 8) (by kernel_rfl) rfl rfl rfl rfl ?_ ?_
        · skip
          intro K hK
          go_simp
          refine (toIncident_any _ _ _ _ _ xs0_2 _ _ _ xs0_3 _ _ _ xs0_4 _ _ (I0_2.ext hM.below) (I0_3.ext hM.below) (I0_4.ext hM.below)).mono ?_
          rintro e w18 ⟨bh0t_2, dh0t_2, bh0t_3, dh0t_3, bh0t_4, dh0t_4, rfl, hm⟩
          replace hM := hM.join hm
          clear hm
          (try simp only [World.size_alloc, World.size_setCell, World.heap_drewN, heapDrew, Nat.add_assoc, Nat.reduceAdd, List.setIfInBounds_toArray, List.set_cons_zero, List.set_cons_succ, List.cons_append, List.nil_append] at hM)
          try dsimp only
          refine hK.out _ _ (hM.tail.tail.tail) ?_
          clear hK K hS
          have hS := hM.tail.tail.tail
          refine AtT.two (i := 3) (j := 8) (by kernel_rfl) rfl rfl rfl rfl ?_ ?_
          · skip
            intro K hK
            go_simp
            refine (toAction_any _ _ _ ).mono ?_
            rintro e w19 ⟨rfl, hb⟩
            replace hM := hM.ext hb
            clear hb
            try dsimp only
            refine hK.out _ _ (hM.tail.tail.tail) ?_
            clear hK K hS
            have hS := hM.tail.tail.tail
            refine AtT.two (i := 4) (j := 8) (by kernel_rfl) rfl rfl rfl rfl ?_ ?_
            · skip
              intro K hK
              go_simp
              refine (implAct_any _ _ _ _ _ xs0_2 _ _ _ xs0_3 _ _ _ xs0_4 _ _ _ _ ((hM.ints .here).ints) ((hM.ints (.there .here)).ints) ((hM.ints (.there (.there .here))).ints)).mono ?_
              rw [HQ0.out]
              rintro e w20 ⟨ah0_2, nh0_2, ch0_2, ah0_3, nh0_3, ch0_3, ah0_4, nh0_4, ch0_4, rfl, hm⟩
              replace hM := hM.join hm
              clear hm
              (try simp only [World.size_alloc, World.size_setCell, World.heap_drewN, heapDrew, Nat.add_assoc, Nat.reduceAdd, List.setIfInBounds_toArray, List.set_cons_zero, List.set_cons_succ, List.cons_append, List.nil_append] at hM)
              try dsimp only
              refine hK.out _ _ (hM.tail.tail.tail.tail.tail.tail) ?_
              clear hK K hS
              have hS := hM.tail.tail.tail.tail.tail.tail
              refine AtT.taked (i := 5) (v := ?_) (some 79) rfl rfl (by kernel_rfl) (by kernel_rfl) (by kernel_rfl) (by kernel_rfl) (fun _ _ _ h => h) (Or.inl ⟨by kernel_rfl, ?_⟩) hS ?_
              rotate_left
              · (intro wS hSw; (try dsimp only at hSw); go_simp; try with_reducible rfl)
              simp only [Act.put, List.setIfInBounds_toArray, List.set_cons_zero, List.set_cons_succ]
              refine AtT.taked (i := 6) (v := ?_) (some 85) rfl rfl (by kernel_rfl) (by kernel_rfl) (by kernel_rfl) (by kernel_rfl) (fun _ _ _ h => h) (Or.inl ⟨by kernel_rfl, ?_⟩) hS ?_
              rotate_left
              · (intro wS hSw; (try dsimp only at hSw); go_simp; try with_reducible rfl)
              simp only [Act.put, List.setIfInBounds_toArray, List.set_cons_zero, List.set_cons_succ]
              refine AtT.taked (i := 7) (v := ?_) (some 86) rfl rfl (by kernel_rfl) (by kernel_rfl) (by kernel_rfl) (by kernel_rfl) (fun _ _ _ h => h) (Or.inl ⟨by kernel_rfl, ?_⟩) hS ?_
              rotate_left
              · (intro wS hSw; (try dsimp only at hSw); go_simp; try with_reducible rfl)
              simp only [Act.put, List.setIfInBounds_toArray, List.set_cons_zero, List.set_cons_succ]
              refine AtT.only (i := 8) (by kernel_rfl) rfl rfl ?_
              intro K hK
              go_simp
              refine hK.out _ _ (by apply Mem.tail; apply Mem.tail; apply Mem.tail; apply Mem.tail; apply Mem.tail; apply Mem.tail; apply Mem.tail; (repeat' (first | with_reducible exact hM | with_reducible exact hMp | with_reducible apply Mem.drew | with_reducible apply Mem.drewN | with_reducible apply Mem.alloc | with_reducible apply Mem.set | with_reducible exact Sto.row | ((with_reducible refine Sto.rowEq2 ?_ ?_); omega; rfl) | ((with_reducible refine Sto.rowEq ?_); omega) | with_reducible apply Sto.int | with_reducible apply Sto.there | with_reducible assumption | (unfold I64; omega) | (with_reducible (have hMx := Mem.undrew hM; exact hMx)) | (with_reducible (have hMx := Mem.undrew hMp; exact hMx))))) ?_
              clear hK K hS
              have hMp := hM
              apply Mem.atT
              · (repeat' (first | with_reducible exact hM | with_reducible exact hMp | with_reducible apply Mem.drew | with_reducible apply Mem.drewN | with_reducible apply Mem.alloc | with_reducible apply Mem.set | with_reducible exact Sto.row | ((with_reducible refine Sto.rowEq2 ?_ ?_); omega; rfl) | ((with_reducible refine Sto.rowEq ?_); omega) | with_reducible apply Sto.int | with_reducible apply Sto.there | with_reducible assumption | (unfold I64; omega) | (with_reducible (have hMx := Mem.undrew hM; exact hMx)) | (with_reducible (have hMx := Mem.undrew hMp; exact hMx))))
              clear hM
              intro hM
              (try simp only [World.size_alloc, World.size_setCell, World.heap_drewN, heapDrew, Nat.add_assoc, Nat.reduceAdd, List.setIfInBounds_toArray, List.set_cons_zero, List.set_cons_succ, List.cons_append, List.nil_append] at hM)
              have hS := hM.tail.tail.tail.tail.tail.tail.tail
              refine AtT.only (i := 9) (by kernel_rfl) rfl rfl ?_
              intro K hK
              have kk0 := (hM.row .here).cell
              have ff0 := (hM.row .here).free
              have ll0 := (hM.row .here).lt
              have kk16 := (hM.row (.there (.there (.there (.there (.there (.there (.there (.there (.there (.there (.there (.there (.there (.there (.there (.there .here))))))))))))))))).cell
              have ff16 := (hM.row (.there (.there (.there (.there (.there (.there (.there (.there (.there (.there (.there (.there (.there (.there (.there (.there .here))))))))))))))))).free
              have ll16 := (hM.row (.there (.there (.there (.there (.there (.there (.there (.there (.there (.there (.there (.there (.there (.there (.there (.there .here))))))))))))))))).lt
              have kk17 := (hM.row (.there (.there (.there (.there (.there (.there (.there (.there (.there (.there (.there (.there (.there (.there (.there (.there (.there .here)))))))))))))))))).cell
              have ff17 := (hM.row (.there (.there (.there (.there (.there (.there (.there (.there (.there (.there (.there (.there (.there (.there (.there (.there (.there .here)))))))))))))))))).free
              have ll17 := (hM.row (.there (.there (.there (.there (.there (.there (.there (.there (.there (.there (.there (.there (.there (.there (.there (.there (.there .here)))))))))))))))))).lt
              have kk18 := (hM.row (.there (.there (.there (.there (.there (.there (.there (.there (.there (.there (.there (.there (.there (.there (.there (.there (.there (.there .here))))))))))))))))))).cell
              have ff18 := (hM.row (.there (.there (.there (.there (.there (.there (.there (.there (.there (.there (.there (.there (.there (.there (.there (.there (.there (.there .here))))))))))))))))))).free
              have ll18 := (hM.row (.there (.there (.there (.there (.there (.there (.there (.there (.there (.there (.there (.there (.there (.there (.there (.there (.there (.there .here))))))))))))))))))).lt
              have kk22 := (hM.row (.there (.there (.there (.there (.there (.there (.there (.there (.there (.there (.there (.there (.there (.there (.there (.there (.there (.there (.there (.there (.there (.there .here))))))))))))))))))))))).cell
              have ff22 := (hM.row (.there (.there (.there (.there (.there (.there (.there (.there (.there (.there (.there (.there (.there (.there (.there (.there (.there (.there (.there (.there (.there (.there .here))))))))))))))))))))))).free
              have ll22 := (hM.row (.there (.there (.there (.there (.there (.there (.there (.there (.there (.there (.there (.there (.there (.there (.there (.there (.there (.there (.there (.there (.there (.there .here))))))))))))))))))))))).lt
              have kk23 := (hM.row (.there (.there (.there (.there (.there (.there (.there (.there (.there (.there (.there (.there (.there (.there (.there (.there (.there (.there (.there (.there (.there (.there (.there .here)))))))))))))))))))))))).cell
              have ff23 := (hM.row (.there (.there (.there (.there (.there (.there (.there (.there (.there (.there (.there (.there (.there (.there (.there (.there (.there (.there (.there (.there (.there (.there (.there .here)))))))))))))))))))))))).free
              have ll23 := (hM.row (.there (.there (.there (.there (.there (.there (.there (.there (.there (.there (.there (.there (.there (.there (.there (.there (.there (.there (.there (.there (.there (.there (.there .here)))))))))))))))))))))))).lt
              go_simp
              clear kk0 ff0 ll0 kk16 ff16 ll16 kk17 ff17 ll17 kk18 ff18 ll18 kk22 ff22 ll22 kk23 ff23 ll23
              refine hK.out _ _ (by apply Mem.tail; apply Mem.tail; apply Mem.tail; apply Mem.tail; apply Mem.tail; apply Mem.tail; apply Mem.tail; (repeat' (first | with_reducible exact hM | with_reducible exact hMp | with_reducible apply Mem.drew | with_reducible apply Mem.drewN | with_reducible apply Mem.alloc | with_reducible apply Mem.set | with_reducible exact Sto.row | ((with_reducible refine Sto.rowEq2 ?_ ?_); omega; rfl) | ((with_reducible refine Sto.rowEq ?_); omega) | with_reducible apply Sto.int | with_reducible apply Sto.there | with_reducible assumption | (unfold I64; omega) | (with_reducible (have hMx := Mem.undrew hM; exact hMx)) | (with_reducible (have hMx := Mem.undrew hMp; exact hMx))))) ?_
              clear hK K hS
              apply Mem.atT
              · (repeat' (first | with_reducible exact hM | with_reducible exact hMp | with_reducible apply Mem.drew | with_reducible apply Mem.drewN | with_reducible apply Mem.alloc | with_reducible apply Mem.set | with_reducible exact Sto.row | ((with_reducible refine Sto.rowEq2 ?_ ?_); omega; rfl) | ((with_reducible refine Sto.rowEq ?_); omega) | with_reducible apply Sto.int | with_reducible apply Sto.there | with_reducible assumption | (unfold I64; omega) | (with_reducible (have hMx := Mem.undrew hM; exact hMx)) | (with_reducible (have hMx := Mem.undrew hMp; exact hMx))))
              clear hM
              intro hM
              (try simp only [World.size_alloc, World.size_setCell, World.heap_drewN, heapDrew, Nat.add_assoc, Nat.reduceAdd, List.setIfInBounds_toArray, List.set_cons_zero, List.set_cons_succ, List.cons_append, List.nil_append] at hM)
              have hS := hM.tail.tail.tail.tail.tail.tail.tail
              refine AtT.last (by kernel_rfl) rfl (by kernel_rfl) ?_
              intro K hK
              clear hS
              go_simp
              refine hK.out _ _ ?_
              clear hK K
              go_wp2_with fail
              go_meet
              refine ⟨_, ah0_2, nh0_2, ch0_2, ah0_3, nh0_3, ch0_3, ah0_4, nh0_4, ch0_4, rfl, rfl, ?_⟩
              apply Mem.pick (is := [0, 1, 2, 3, 7, 8, 9, 16, 18, 19, 20, 21, 22, 23])
              · (repeat' (first | with_reducible exact hM | with_reducible exact hMp | with_reducible apply Mem.drew | with_reducible apply Mem.drewN | with_reducible apply Mem.alloc | with_reducible apply Mem.set | with_reducible exact Sto.row | ((with_reducible refine Sto.rowEq2 ?_ ?_); omega; rfl) | ((with_reducible refine Sto.rowEq ?_); omega) | with_reducible apply Sto.int | with_reducible apply Sto.there | with_reducible assumption | (unfold I64; omega) | (with_reducible (have hMx := Mem.undrew hM; exact hMx)) | (with_reducible (have hMx := Mem.undrew hMp; exact hMx))))
              · decide
              · rfl
            · skip
              intro K hK
              go_simp
              refine hK.out _ _ (by apply Mem.tail; apply Mem.tail; apply Mem.tail; apply Mem.tail; (repeat' (first | with_reducible exact hM | with_reducible exact hMp | with_reducible apply Mem.drew | with_reducible apply Mem.drewN | with_reducible apply Mem.alloc | with_reducible apply Mem.set | with_reducible exact Sto.row | ((with_reducible refine Sto.rowEq2 ?_ ?_); omega; rfl) | ((with_reducible refine Sto.rowEq ?_); omega) | with_reducible apply Sto.int | with_reducible apply Sto.there | with_reducible assumption | (unfold I64; omega) | (with_reducible (have hMx := Mem.undrew hM; exact hMx)) | (with_reducible (have hMx := Mem.undrew hMp; exact hMx))))) ?_
              clear hK K hS
              have hMp := hM
              apply Mem.atT
              · (repeat' (first | with_reducible exact hM | with_reducible exact hMp | with_reducible apply Mem.drew | with_reducible apply Mem.drewN | with_reducible apply Mem.alloc | with_reducible apply Mem.set | with_reducible exact Sto.row | ((with_reducible refine Sto.rowEq2 ?_ ?_); omega; rfl) | ((with_reducible refine Sto.rowEq ?_); omega) | with_reducible apply Sto.int | with_reducible apply Sto.there | with_reducible assumption | (unfold I64; omega) | (with_reducible (have hMx := Mem.undrew hM; exact hMx)) | (with_reducible (have hMx := Mem.undrew hMp; exact hMx))))
              clear hM
              intro hM
              (try simp only [World.size_alloc, World.size_setCell, World.heap_drewN, heapDrew, Nat.add_assoc, Nat.reduceAdd, List.setIfInBounds_toArray, List.set_cons_zero, List.set_cons_succ, List.cons_append, List.nil_append] at hM)
              have hS := hM.tail.tail.tail.tail
              refine AtT.only (i := 4) (by kernel_rfl) rfl rfl ?_
              intro K hK
              go_simp
              refine (implAct_any _ _ _ _ _ xs0_2 _ _ _ xs0_3 _ _ _ xs0_4 _ _ _ _ ((hM.ints (.there .here)).ints) ((hM.ints (.there (.there .here))).ints) ((hM.ints (.there (.there (.there .here)))).ints)).mono ?_
              rw [HQ0.out]
              rintro e w20 ⟨ah0_2, nh0_2, ch0_2, ah0_3, nh0_3, ch0_3, ah0_4, nh0_4, ch0_4, rfl, hm⟩
              replace hM := hM.join hm
              clear hm
              (try simp only [World.size_alloc, World.size_setCell, World.heap_drewN, heapDrew, Nat.add_assoc, Nat.reduceAdd, List.setIfInBounds_toArray, List.set_cons_zero, List.set_cons_succ, List.cons_append, List.nil_append] at hM)
              try dsimp only
              refine hK.out _ _ (hM.tail.tail.tail.tail.tail.tail.tail) ?_
              clear hK K hS
              have hS := hM.tail.tail.tail.tail.tail.tail.tail
              refine AtT.taked (i := 5) (v := ?_) (some 79) rfl rfl (by kernel_rfl) (by kernel_rfl) (by kernel_rfl) (by kernel_rfl) (fun _ _ _ h => h) (Or.inl ⟨by kernel_rfl, ?_⟩) hS ?_
              rotate_left
              · (intro wS hSw; (try dsimp only at hSw); go_simp; try with_reducible rfl)
              simp only [Act.put, List.setIfInBounds_toArray, List.set_cons_zero, List.set_cons_succ]
              refine AtT.taked (i := 6) (v := ?_) (some 85) rfl rfl (by kernel_rfl) (by kernel_rfl) (by kernel_rfl) (by kernel_rfl) (fun _ _ _ h => h) (Or.inl ⟨by kernel_rfl, ?_⟩) hS ?_
              rotate_left
              · (intro wS hSw; (try dsimp only at hSw); go_simp; try with_reducible rfl)
              simp only [Act.put, List.setIfInBounds_toArray, List.set_cons_zero, List.set_cons_succ]
              refine AtT.taked (i := 7) (v := ?_) (some 86) rfl rfl (by kernel_rfl) (by kernel_rfl) (by kernel_rfl) (by kernel_rfl) (fun _ _ _ h => h) (Or.inl ⟨by kernel_rfl, ?_⟩) hS ?_
              rotate_left
              · (intro wS hSw; (try dsimp only at hSw); go_simp; try with_reducible rfl)
              simp only [Act.put, List.setIfInBounds_toArray, List.set_cons_zero, List.set_cons_succ]
              refine AtT.only (i := 9) (by kernel_rfl) rfl rfl ?_
              intro K hK
              have kk3 := (hM.row (.there (.there (.there .here)))).cell
              have ff3 := (hM.row (.there (.there (.there .here)))).free
              have ll3 := (hM.row (.there (.there (.there .here)))).lt
              have kk16 := (hM.row (.there (.there (.there (.there (.there (.there (.there (.there (.there (.there (.there (.there (.there (.there (.there (.there .here))))))))))))))))).cell
              have ff16 := (hM.row (.there (.there (.there (.there (.there (.there (.there (.there (.there (.there (.there (.there (.there (.there (.there (.there .here))))))))))))))))).free
              have ll16 := (hM.row (.there (.there (.there (.there (.there (.there (.there (.there (.there (.there (.there (.there (.there (.there (.there (.there .here))))))))))))))))).lt
              have kk17 := (hM.row (.there (.there (.there (.there (.there (.there (.there (.there (.there (.there (.there (.there (.there (.there (.there (.there (.there .here)))))))))))))))))).cell
              have ff17 := (hM.row (.there (.there (.there (.there (.there (.there (.there (.there (.there (.there (.there (.there (.there (.there (.there (.there (.there .here)))))))))))))))))).free
              have ll17 := (hM.row (.there (.there (.there (.there (.there (.there (.there (.there (.there (.there (.there (.there (.there (.there (.there (.there (.there .here)))))))))))))))))).lt
              have kk18 := (hM.row (.there (.there (.there (.there (.there (.there (.there (.there (.there (.there (.there (.there (.there (.there (.there (.there (.there (.there .here))))))))))))))))))).cell
              have ff18 := (hM.row (.there (.there (.there (.there (.there (.there (.there (.there (.there (.there (.there (.there (.there (.there (.there (.there (.there (.there .here))))))))))))))))))).free
              have ll18 := (hM.row (.there (.there (.there (.there (.there (.there (.there (.there (.there (.there (.there (.there (.there (.there (.there (.there (.there (.there .here))))))))))))))))))).lt
              have kk22 := (hM.row (.there (.there (.there (.there (.there (.there (.there (.there (.there (.there (.there (.there (.there (.there (.there (.there (.there (.there (.there (.there (.there (.there .here))))))))))))))))))))))).cell
              have ff22 := (hM.row (.there (.there (.there (.there (.there (.there (.there (.there (.there (.there (.there (.there (.there (.there (.there (.there (.there (.there (.there (.there (.there (.there .here))))))))))))))))))))))).free
              have ll22 := (hM.row (.there (.there (.there (.there (.there (.there (.there (.there (.there (.there (.there (.there (.there (.there (.there (.there (.there (.there (.there (.there (.there (.there .here))))))))))))))))))))))).lt
              have kk23 := (hM.row (.there (.there (.there (.there (.there (.there (.there (.there (.there (.there (.there (.there (.there (.there (.there (.there (.there (.there (.there (.there (.there (.there (.there .here)))))))))))))))))))))))).cell
              have ff23 := (hM.row (.there (.there (.there (.there (.there (.there (.there (.there (.there (.there (.there (.there (.there (.there (.there (.there (.there (.there (.there (.there (.there (.there (.there .here)))))))))))))))))))))))).free
              have ll23 := (hM.row (.there (.there (.there (.there (.there (.there (.there (.there (.there (.there (.there (.there (.there (.there (.there (.there (.there (.there (.there (.there (.there (.there (.there .here)))))))))))))))))))))))).lt
              go_simp
              clear kk3 ff3 ll3 kk16 ff16 ll16 kk17 ff17 ll17 kk18 ff18 ll18 kk22 ff22 ll22 kk23 ff23 ll23
              refine hK.out _ _ (by apply Mem.tail; apply Mem.tail; apply Mem.tail; apply Mem.tail; apply Mem.tail; apply Mem.tail; apply Mem.tail; (repeat' (first | with_reducible exact hM | with_reducible exact hMp | with_reducible apply Mem.drew | with_reducible apply Mem.drewN | with_reducible apply Mem.alloc | with_reducible apply Mem.set | with_reducible exact Sto.row | ((with_reducible refine Sto.rowEq2 ?_ ?_); omega; rfl) | ((with_reducible refine Sto.rowEq ?_); omega) | with_reducible apply Sto.int | with_reducible apply Sto.there | with_reducible assumption | (unfold I64; omega) | (with_reducible (have hMx := Mem.undrew hM; exact hMx)) | (with_reducible (have hMx := Mem.undrew hMp; exact hMx))))) ?_
              clear hK K hS
              apply Mem.atT
              · (repeat' (first | with_reducible exact hM | with_reducible exact hMp | with_reducible apply Mem.drew | with_reducible apply Mem.drewN | with_reducible apply Mem.alloc | with_reducible apply Mem.set | with_reducible exact Sto.row | ((with_reducible refine Sto.rowEq2 ?_ ?_); omega; rfl) | ((with_reducible refine Sto.rowEq ?_); omega) | with_reducible apply Sto.int | with_reducible apply Sto.there | with_reducible assumption | (unfold I64; omega) | (with_reducible (have hMx := Mem.undrew hM; exact hMx)) | (with_reducible (have hMx := Mem.undrew hMp; exact hMx))))
              clear hM
              intro hM
              (try simp only [World.size_alloc, World.size_setCell, World.heap_drewN, heapDrew, Nat.add_assoc, Nat.reduceAdd, List.setIfInBounds_toArray, List.set_cons_zero, List.set_cons_succ, List.cons_append, List.nil_append] at hM)
              have hS := hM.tail.tail.tail.tail.tail.tail.tail
              refine AtT.last (by kernel_rfl) rfl (by kernel_rfl) ?_
              intro K hK
              clear hS
              go_simp
              refine hK.out _ _ ?_
              clear hK K
              go_wp2_with fail
              go_meet
              refine ⟨_, ah0_2, nh0_2, ch0_2, ah0_3, nh0_3, ch0_3, ah0_4, nh0_4, ch0_4, rfl, rfl, ?_⟩
              apply Mem.pick (is := [3, 0, 1, 2, 7, 8, 9, 16, 18, 19, 20, 21, 22, 23])
              · (repeat' (first | with_reducible exact hM | with_reducible exact hMp | with_reducible apply Mem.drew | with_reducible apply Mem.drewN | with_reducible apply Mem.alloc | with_reducible apply Mem.set | with_reducible exact Sto.row | ((with_reducible refine Sto.rowEq2 ?_ ?_); omega; rfl) | ((with_reducible refine Sto.rowEq ?_); omega) | with_reducible apply Sto.int | with_reducible apply Sto.there | with_reducible assumption | (unfold I64; omega) | (with_reducible (have hMx := Mem.undrew hM; exact hMx)) | (with_reducible (have hMx := Mem.undrew hMp; exact hMx))))
              · decide
              · rfl
          · skip
            intro K hK
            go_simp
            refine hK.out _ _ (by apply Mem.tail; apply Mem.tail; apply Mem.tail; apply Mem.tail; (repeat' (first | with_reducible exact hM | with_reducible exact hMp | with_reducible apply Mem.drew | with_reducible apply Mem.drewN | with_reducible apply Mem.alloc | with_reducible apply Mem.set | with_reducible exact Sto.row | ((with_reducible refine Sto.rowEq2 ?_ ?_); omega; rfl) | ((with_reducible refine Sto.rowEq ?_); omega) | with_reducible apply Sto.int | with_reducible apply Sto.there | with_reducible assumption | (unfold I64; omega) | (with_reducible (have hMx := Mem.undrew hM; exact hMx)) | (with_reducible (have hMx := Mem.undrew hMp; exact hMx))))) ?_
            clear hK K hS
            have hMp := hM
            apply Mem.atT
            · (repeat' (first | with_reducible exact hM | with_reducible exact hMp | with_reducible apply Mem.drew | with_reducible apply Mem.drewN | with_reducible apply Mem.alloc | with_reducible apply Mem.set | with_reducible exact Sto.row | ((with_reducible refine Sto.rowEq2 ?_ ?_); omega; rfl) | ((with_reducible refine Sto.rowEq ?_); omega) | with_reducible apply Sto.int | with_reducible apply Sto.there | with_reducible assumption | (unfold I64; omega) | (with_reducible (have hMx := Mem.undrew hM; exact hMx)) | (with_reducible (have hMx := Mem.undrew hMp; exact hMx))))
            clear hM
            intro hM
            (try simp only [World.size_alloc, World.size_setCell, World.heap_drewN, heapDrew, Nat.add_assoc, Nat.reduceAdd, List.setIfInBounds_toArray, List.set_cons_zero, List.set_cons_succ, List.cons_append, List.nil_append] at hM)
            have hS := hM.tail.tail.tail.tail
            refine AtT.only (i := 3) (by kernel_rfl) rfl rfl ?_
            intro K hK
            go_simp
            refine (toAction_any _ _ _ ).mono ?_
            rintro e w19 ⟨rfl, hb⟩
            replace hM := hM.ext hb
            clear hb
            try dsimp only
            refine hK.out _ _ (hM.tail.tail.tail.tail) ?_
            clear hK K hS
            have hS := hM.tail.tail.tail.tail
            refine AtT.only (i := 4) (by kernel_rfl) rfl rfl ?_
            intro K hK
            go_simp
            refine (implAct_any _ _ _ _ _ xs0_2 _ _ _ xs0_3 _ _ _ xs0_4 _ _ _ _ ((hM.ints (.there .here)).ints) ((hM.ints (.there (.there .here))).ints) ((hM.ints (.there (.there (.there .here)))).ints)).mono ?_
            rw [HQ0.out]
            rintro e w20 ⟨ah0_2, nh0_2, ch0_2, ah0_3, nh0_3, ch0_3, ah0_4, nh0_4, ch0_4, rfl, hm⟩
            replace hM := hM.join hm
            clear hm
            (try simp only [World.size_alloc, World.size_setCell, World.heap_drewN, heapDrew, Nat.add_assoc, Nat.reduceAdd, List.setIfInBounds_toArray, List.set_cons_zero, List.set_cons_succ, List.cons_append, List.nil_append] at hM)
            try dsimp only
            refine hK.out _ _ (hM.tail.tail.tail.tail.tail.tail.tail) ?_
            clear hK K hS
            have hS := hM.tail.tail.tail.tail.tail.tail.tail
            refine AtT.taked (i := 5) (v := ?_) (some 79) rfl rfl (by kernel_rfl) (by kernel_rfl) (by kernel_rfl) (by kernel_rfl) (fun _ _ _ h => h) (Or.inl ⟨by kernel_rfl, ?_⟩) hS ?_
            rotate_left
            · (intro wS hSw; (try dsimp only at hSw); go_simp; try with_reducible rfl)
            simp only [Act.put, List.setIfInBounds_toArray, List.set_cons_zero, List.set_cons_succ]
            refine AtT.taked (i := 6) (v := ?_) (some 85) rfl rfl (by kernel_rfl) (by kernel_rfl) (by kernel_rfl) (by kernel_rfl) (fun _ _ _ h => h) (Or.inl ⟨by kernel_rfl, ?_⟩) hS ?_
            rotate_left
            · (intro wS hSw; (try dsimp only at hSw); go_simp; try with_reducible rfl)
            simp only [Act.put, List.setIfInBounds_toArray, List.set_cons_zero, List.set_cons_succ]
            refine AtT.taked (i := 7) (v := ?_) (some 86) rfl rfl (by kernel_rfl) (by kernel_rfl) (by kernel_rfl) (by kernel_rfl) (fun _ _ _ h => h) (Or.inl ⟨by kernel_rfl, ?_⟩) hS ?_
            rotate_left
            · (intro wS hSw; (try dsimp only at hSw); go_simp; try with_reducible rfl)
            simp only [Act.put, List.setIfInBounds_toArray, List.set_cons_zero, List.set_cons_succ]
            refine AtT.only (i := 9) (by kernel_rfl) rfl rfl ?_
            intro K hK
            have kk3 := (hM.row (.there (.there (.there .here)))).cell
            have ff3 := (hM.row (.there (.there (.there .here)))).free
            have ll3 := (hM.row (.there (.there (.there .here)))).lt
            have kk16 := (hM.row (.there (.there (.there (.there (.there (.there (.there (.there (.there (.there (.there (.there (.there (.there (.there (.there .here))))))))))))))))).cell
            have ff16 := (hM.row (.there (.there (.there (.there (.there (.there (.there (.there (.there (.there (.there (.there (.there (.there (.there (.there .here))))))))))))))))).free
            have ll16 := (hM.row (.there (.there (.there (.there (.there (.there (.there (.there (.there (.there (.there (.there (.there (.there (.there (.there .here))))))))))))))))).lt
            have kk17 := (hM.row (.there (.there (.there (.there (.there (.there (.there (.there (.there (.there (.there (.there (.there (.there (.there (.there (.there .here)))))))))))))))))).cell
            have ff17 := (hM.row (.there (.there (.there (.there (.there (.there (.there (.there (.there (.there (.there (.there (.there (.there (.there (.there (.there .here)))))))))))))))))).free
            have ll17 := (hM.row (.there (.there (.there (.there (.there (.there (.there (.there (.there (.there (.there (.there (.there (.there (.there (.there (.there .here)))))))))))))))))).lt
            have kk18 := (hM.row (.there (.there (.there (.there (.there (.there (.there (.there (.there (.there (.there (.there (.there (.there (.there (.there (.there (.there .here))))))))))))))))))).cell
            have ff18 := (hM.row (.there (.there (.there (.there (.there (.there (.there (.there (.there (.there (.there (.there (.there (.there (.there (.there (.there (.there .here))))))))))))))))))).free
            have ll18 := (hM.row (.there (.there (.there (.there (.there (.there (.there (.there (.there (.there (.there (.there (.there (.there (.there (.there (.there (.there .here))))))))))))))))))).lt
            have kk22 := (hM.row (.there (.there (.there (.there (.there (.there (.there (.there (.there (.there (.there (.there (.there (.there (.there (.there (.there (.there (.there (.there (.there (.there .here))))))))))))))))))))))).cell
            have ff22 := (hM.row (.there (.there (.there (.there (.there (.there (.there (.there (.there (.there (.there (.there (.there (.there (.there (.there (.there (.there (.there (.there (.there (.there .here))))))))))))))))))))))).free
            have ll22 := (hM.row (.there (.there (.there (.there (.there (.there (.there (.there (.there (.there (.there (.there (.there (.there (.there (.there (.there (.there (.there (.there (.there (.there .here))))))))))))))))))))))).lt
            have kk23 := (hM.row (.there (.there (.there (.there (.there (.there (.there (.there (.there (.there (.there (.there (.there (.there (.there (.there (.there (.there (.there (.there (.there (.there (.there .here)))))))))))))))))))))))).cell
            have ff23 := (hM.row (.there (.there (.there (.there (.there (.there (.there (.there (.there (.there (.there (.there (.there (.there (.there (.there (.there (.there (.there (.there (.there (.there (.there .here)))))))))))))))))))))))).free
            have ll23 := (hM.row (.there (.there (.there (.there (.there (.there (.there (.there (.there (.there (.there (.there (.there (.there (.there (.there (.there (.there (.there (.there (.there (.there (.there .here)))))))))))))))))))))))).lt
            go_simp
            clear kk3 ff3 ll3 kk16 ff16 ll16 kk17 ff17 ll17 kk18 ff18 ll18 kk22 ff22 ll22 kk23 ff23 ll23
            refine hK.out _ _ (by apply Mem.tail; apply Mem.tail; apply Mem.tail; apply Mem.tail; apply Mem.tail; apply Mem.tail; apply Mem.tail; (repeat' (first | with_reducible exact hM | with_reducible exact hMp | with_reducible apply Mem.drew | with_reducible apply Mem.drewN | with_reducible apply Mem.alloc | with_reducible apply Mem.set | with_reducible exact Sto.row | ((with_reducible refine Sto.rowEq2 ?_ ?_); omega; rfl) | ((with_reducible refine Sto.rowEq ?_); omega) | with_reducible apply Sto.int | with_reducible apply Sto.there | with_reducible assumption | (unfold I64; omega) | (with_reducible (have hMx := Mem.undrew hM; exact hMx)) | (with_reducible (have hMx := Mem.undrew hMp; exact hMx))))) ?_
            clear hK K hS
            apply Mem.atT
            · (repeat' (first | with_reducible exact hM | with_reducible exact hMp | with_reducible apply Mem.drew | with_reducible apply Mem.drewN | with_reducible apply Mem.alloc | with_reducible apply Mem.set | with_reducible exact Sto.row | ((with_reducible refine Sto.rowEq2 ?_ ?_); omega; rfl) | ((with_reducible refine Sto.rowEq ?_); omega) | with_reducible apply Sto.int | with_reducible apply Sto.there | with_reducible assumption | (unfold I64; omega) | (with_reducible (have hMx := Mem.undrew hM; exact hMx)) | (with_reducible (have hMx := Mem.undrew hMp; exact hMx))))
            clear hM
            intro hM
            (try simp only [World.size_alloc, World.size_setCell, World.heap_drewN, heapDrew, Nat.add_assoc, Nat.reduceAdd, List.setIfInBounds_toArray, List.set_cons_zero, List.set_cons_succ, List.cons_append, List.nil_append] at hM)
            have hS := hM.tail.tail.tail.tail.tail.tail.tail
            refine AtT.last (by kernel_rfl) rfl (by kernel_rfl) ?_
            intro K hK
            clear hS
            go_simp
            refine hK.out _ _ ?_
            clear hK K
            go_wp2_with fail
            go_meet
            refine ⟨_, ah0_2, nh0_2, ch0_2, ah0_3, nh0_3, ch0_3, ah0_4, nh0_4, ch0_4, rfl, rfl, ?_⟩
            apply Mem.pick (is := [3, 0, 1, 2, 7, 8, 9, 16, 18, 19, 20, 21, 22, 23])
            · (repeat' (first | with_reducible exact hM | with_reducible exact hMp | with_reducible apply Mem.drew | with_reducible apply Mem.drewN | with_reducible apply Mem.alloc | with_reducible apply Mem.set | with_reducible exact Sto.row | ((with_reducible refine Sto.rowEq2 ?_ ?_); omega; rfl) | ((with_reducible refine Sto.rowEq ?_); omega) | with_reducible apply Sto.int | with_reducible apply Sto.there | with_reducible assumption | (unfold I64; omega) | (with_reducible (have hMx := Mem.undrew hM; exact hMx)) | (with_reducible (have hMx := Mem.undrew hMp; exact hMx))))
            · decide
            · rfl
        · skip
          intro K hK
          go_simp
          refine hK.out _ _ (by apply Mem.tail; (repeat' (first | with_reducible exact hM | with_reducible exact hMp | with_reducible apply Mem.drew | with_reducible apply Mem.drewN | with_reducible apply Mem.alloc | with_reducible apply Mem.set | with_reducible exact Sto.row | ((with_reducible refine Sto.rowEq2 ?_ ?_); omega; rfl) | ((with_reducible refine Sto.rowEq ?_); omega) | with_reducible apply Sto.int | with_reducible apply Sto.there | with_reducible assumption | (unfold I64; omega) | (with_reducible (have hMx := Mem.undrew hM; exact hMx)) | (with_reducible (have hMx := Mem.undrew hMp; exact hMx))))) ?_
          clear hK K hS
          have hMp := hM
          apply Mem.atT
          · (repeat' (first | with_reducible exact hM | with_reducible exact hMp | with_reducible apply Mem.drew | with_reducible apply Mem.drewN | with_reducible apply Mem.alloc | with_reducible apply Mem.set | with_reducible exact Sto.row | ((with_reducible refine Sto.rowEq2 ?_ ?_); omega; rfl) | ((with_reducible refine Sto.rowEq ?_); omega) | with_reducible apply Sto.int | with_reducible apply Sto.there | with_reducible assumption | (unfold I64; omega) | (with_reducible (have hMx := Mem.undrew hM; exact hMx)) | (with_reducible (have hMx := Mem.undrew hMp; exact hMx))))
          clear hM
          intro hM
          (try simp only [World.size_alloc, World.size_setCell, World.heap_drewN, heapDrew, Nat.add_assoc, Nat.reduceAdd, List.setIfInBounds_toArray, List.set_cons_zero, List.set_cons_succ, List.cons_append, List.nil_append] at hM)
          have hS := hM.tail
          refine AtT.only (i := 1) (by kernel_rfl) rfl rfl ?_
          intro K hK
          go_simp
          refine (toIncident_any _ _ _ _ _ xs0_2 _ _ _ xs0_3 _ _ _ xs0_4 _ _ (I0_2.ext hM.below) (I0_3.ext hM.below) (I0_4.ext hM.below)).mono ?_
          rintro e w18 ⟨bh0t_2, dh0t_2, bh0t_3, dh0t_3, bh0t_4, dh0t_4, rfl, hm⟩
          replace hM := hM.join hm
          clear hm
          (try simp only [World.size_alloc, World.size_setCell, World.heap_drewN, heapDrew, Nat.add_assoc, Nat.reduceAdd, List.setIfInBounds_toArray, List.set_cons_zero, List.set_cons_succ, List.cons_append, List.nil_append] at hM)
          try dsimp only
          refine hK.out _ _ (hM.tail.tail.tail.tail) ?_
          clear hK K hS
          have hS := hM.tail.tail.tail.tail
          refine AtT.only (i := 3) (by kernel_rfl) rfl rfl ?_
          intro K hK
          go_simp
          refine (toAction_any _ _ _ ).mono ?_
          rintro e w19 ⟨rfl, hb⟩
          replace hM := hM.ext hb
          clear hb
          try dsimp only
          refine hK.out _ _ (hM.tail.tail.tail.tail) ?_
          clear hK K hS
          have hS := hM.tail.tail.tail.tail
          refine AtT.only (i := 4) (by kernel_rfl) rfl rfl ?_
          intro K hK
          go_simp
          refine (implAct_any _ _ _ _ _ xs0_2 _ _ _ xs0_3 _ _ _ xs0_4 _ _ _ _ ((hM.ints .here).ints) ((hM.ints (.there .here)).ints) ((hM.ints (.there (.there .here))).ints)).mono ?_
          rw [HQ0.out]
          rintro e w20 ⟨ah0_2, nh0_2, ch0_2, ah0_3, nh0_3, ch0_3, ah0_4, nh0_4, ch0_4, rfl, hm⟩
          replace hM := hM.join hm
          clear hm
          (try simp only [World.size_alloc, World.size_setCell, World.heap_drewN, heapDrew, Nat.add_assoc, Nat.reduceAdd, List.setIfInBounds_toArray, List.set_cons_zero, List.set_cons_succ, List.cons_append, List.nil_append] at hM)
          try dsimp only
          refine hK.out _ _ (hM.tail.tail.tail.tail.tail.tail.tail) ?_
          clear hK K hS
          have hS := hM.tail.tail.tail.tail.tail.tail.tail
          refine AtT.taked (i := 5) (v := ?_) (some 79) rfl rfl (by kernel_rfl) (by kernel_rfl) (by kernel_rfl) (by kernel_rfl) (fun _ _ _ h => h) (Or.inl ⟨by kernel_rfl, ?_⟩) hS ?_
          rotate_left
          · (intro wS hSw; (try dsimp only at hSw); go_simp; try with_reducible rfl)
          simp only [Act.put, List.setIfInBounds_toArray, List.set_cons_zero, List.set_cons_succ]
          refine AtT.taked (i := 6) (v := ?_) (some 85) rfl rfl (by kernel_rfl) (by kernel_rfl) (by kernel_rfl) (by kernel_rfl) (fun _ _ _ h => h) (Or.inl ⟨by kernel_rfl, ?_⟩) hS ?_
          rotate_left
          · (intro wS hSw; (try dsimp only at hSw); go_simp; try with_reducible rfl)
          simp only [Act.put, List.setIfInBounds_toArray, List.set_cons_zero, List.set_cons_succ]
          refine AtT.taked (i := 7) (v := ?_) (some 86) rfl rfl (by kernel_rfl) (by kernel_rfl) (by kernel_rfl) (by kernel_rfl) (fun _ _ _ h => h) (Or.inl ⟨by kernel_rfl, ?_⟩) hS ?_
          rotate_left
          · (intro wS hSw; (try dsimp only at hSw); go_simp; try with_reducible rfl)
          simp only [Act.put, List.setIfInBounds_toArray, List.set_cons_zero, List.set_cons_succ]
          refine AtT.only (i := 9) (by kernel_rfl) rfl rfl ?_
          intro K hK
          have kk6 := (hM.row (.there (.there (.there (.there (.there (.there .here))))))).cell
          have ff6 := (hM.row (.there (.there (.there (.there (.there (.there .here))))))).free
          have ll6 := (hM.row (.there (.there (.there (.there (.there (.there .here))))))).lt
          have kk16 := (hM.row (.there (.there (.there (.there (.there (.there (.there (.there (.there (.there (.there (.there (.there (.there (.there (.there .here))))))))))))))))).cell
          have ff16 := (hM.row (.there (.there (.there (.there (.there (.there (.there (.there (.there (.there (.there (.there (.there (.there (.there (.there .here))))))))))))))))).free
          have ll16 := (hM.row (.there (.there (.there (.there (.there (.there (.there (.there (.there (.there (.there (.there (.there (.there (.there (.there .here))))))))))))))))).lt
          have kk17 := (hM.row (.there (.there (.there (.there (.there (.there (.there (.there (.there (.there (.there (.there (.there (.there (.there (.there (.there .here)))))))))))))))))).cell
          have ff17 := (hM.row (.there (.there (.there (.there (.there (.there (.there (.there (.there (.there (.there (.there (.there (.there (.there (.there (.there .here)))))))))))))))))).free
          have ll17 := (hM.row (.there (.there (.there (.there (.there (.there (.there (.there (.there (.there (.there (.there (.there (.there (.there (.there (.there .here)))))))))))))))))).lt
          have kk18 := (hM.row (.there (.there (.there (.there (.there (.there (.there (.there (.there (.there (.there (.there (.there (.there (.there (.there (.there (.there .here))))))))))))))))))).cell
          have ff18 := (hM.row (.there (.there (.there (.there (.there (.there (.there (.there (.there (.there (.there (.there (.there (.there (.there (.there (.there (.there .here))))))))))))))))))).free
          have ll18 := (hM.row (.there (.there (.there (.there (.there (.there (.there (.there (.there (.there (.there (.there (.there (.there (.there (.there (.there (.there .here))))))))))))))))))).lt
          have kk22 := (hM.row (.there (.there (.there (.there (.there (.there (.there (.there (.there (.there (.there (.there (.there (.there (.there (.there (.there (.there (.there (.there (.there (.there .here))))))))))))))))))))))).cell
          have ff22 := (hM.row (.there (.there (.there (.there (.there (.there (.there (.there (.there (.there (.there (.there (.there (.there (.there (.there (.there (.there (.there (.there (.there (.there .here))))))))))))))))))))))).free
          have ll22 := (hM.row (.there (.there (.there (.there (.there (.there (.there (.there (.there (.there (.there (.there (.there (.there (.there (.there (.there (.there (.there (.there (.there (.there .here))))))))))))))))))))))).lt
          have kk23 := (hM.row (.there (.there (.there (.there (.there (.there (.there (.there (.there (.there (.there (.there (.there (.there (.there (.there (.there (.there (.there (.there (.there (.there (.there .here)))))))))))))))))))))))).cell
          have ff23 := (hM.row (.there (.there (.there (.there (.there (.there (.there (.there (.there (.there (.there (.there (.there (.there (.there (.there (.there (.there (.there (.there (.there (.there (.there .here)))))))))))))))))))))))).free
          have ll23 := (hM.row (.there (.there (.there (.there (.there (.there (.there (.there (.there (.there (.there (.there (.there (.there (.there (.there (.there (.there (.there (.there (.there (.there (.there .here)))))))))))))))))))))))).lt
          go_simp
          clear kk6 ff6 ll6 kk16 ff16 ll16 kk17 ff17 ll17 kk18 ff18 ll18 kk22 ff22 ll22 kk23 ff23 ll23
          refine hK.out _ _ (by apply Mem.tail; apply Mem.tail; apply Mem.tail; apply Mem.tail; apply Mem.tail; apply Mem.tail; apply Mem.tail; (repeat' (first | with_reducible exact hM | with_reducible exact hMp | with_reducible apply Mem.drew | with_reducible apply Mem.drewN | with_reducible apply Mem.alloc | with_reducible apply Mem.set | with_reducible exact Sto.row | ((with_reducible refine Sto.rowEq2 ?_ ?_); omega; rfl) | ((with_reducible refine Sto.rowEq ?_); omega) | with_reducible apply Sto.int | with_reducible apply Sto.there | with_reducible assumption | (unfold I64; omega) | (with_reducible (have hMx := Mem.undrew hM; exact hMx)) | (with_reducible (have hMx := Mem.undrew hMp; exact hMx))))) ?_
          clear hK K hS
          apply Mem.atT
          · (repeat' (first | with_reducible exact hM | with_reducible exact hMp | with_reducible apply Mem.drew | with_reducible apply Mem.drewN | with_reducible apply Mem.alloc | with_reducible apply Mem.set | with_reducible exact Sto.row | ((with_reducible refine Sto.rowEq2 ?_ ?_); omega; rfl) | ((with_reducible refine Sto.rowEq ?_); omega) | with_reducible apply Sto.int | with_reducible apply Sto.there | with_reducible assumption | (unfold I64; omega) | (with_reducible (have hMx := Mem.undrew hM; exact hMx)) | (with_reducible (have hMx := Mem.undrew hMp; exact hMx))))
          clear hM
          intro hM
          (try simp only [World.size_alloc, World.size_setCell, World.heap_drewN, heapDrew, Nat.add_assoc, Nat.reduceAdd, List.setIfInBounds_toArray, List.set_cons_zero, List.set_cons_succ, List.cons_append, List.nil_append] at hM)
          have hS := hM.tail.tail.tail.tail.tail.tail.tail
          refine AtT.last (by kernel_rfl) rfl (by kernel_rfl) ?_
          intro K hK
          clear hS
          go_simp
          refine hK.out _ _ ?_
          clear hK K
          go_wp2_with fail
          go_meet
          refine ⟨_, ah0_2, nh0_2, ch0_2, ah0_3, nh0_3, ch0_3, ah0_4, nh0_4, ch0_4, rfl, rfl, ?_⟩
          apply Mem.pick (is := [6, 0, 1, 2, 7, 8, 9, 16, 18, 19, 20, 21, 22, 23])
          · (repeat' (first | with_reducible exact hM | with_reducible exact hMp | with_reducible apply Mem.drew | with_reducible apply Mem.drewN | with_reducible apply Mem.alloc | with_reducible apply Mem.set | with_reducible exact Sto.row | ((with_reducible refine Sto.rowEq2 ?_ ?_); omega; rfl) | ((with_reducible refine Sto.rowEq ?_); omega) | with_reducible apply Sto.int | with_reducible apply Sto.there | with_reducible assumption | (unfold I64; omega) | (with_reducible (have hMx := Mem.undrew hM; exact hMx)) | (with_reducible (have hMx := Mem.undrew hMp; exact hMx))))
          · decide
          · rfl
      case rest =>
        clear hM
        obtain ⟨bbh0, ah0_2, nh0_2, ch0_2, ah0_3, nh0_3, ch0_3, ah0_4, nh0_4, ch0_4, rfl, rfl, hM⟩ := hcut
        obtain ⟨k0, f0, l0⟩ := hM.row .here
        obtain ⟨k8, f8, l8⟩ := hM.row (.there (.there (.there (.there (.there (.there (.there (.there .here))))))))
        go_wp2_with fail
        clear k0 f0 l0 k8 f8 l8
        apply Mem.at
        · (repeat' (first | with_reducible exact hM | with_reducible exact hMp | with_reducible apply Mem.drew | with_reducible apply Mem.drewN | with_reducible apply Mem.alloc | with_reducible apply Mem.set | with_reducible exact Sto.row | ((with_reducible refine Sto.rowEq2 ?_ ?_); omega; rfl) | ((with_reducible refine Sto.rowEq ?_); omega) | with_reducible apply Sto.int | with_reducible apply Sto.there | with_reducible assumption | (unfold I64; omega) | (with_reducible (have hMx := Mem.undrew hM; exact hMx)) | (with_reducible (have hMx := Mem.undrew hMp; exact hMx))))
        clear hM
        intro hM
        (try simp only [World.size_alloc, World.size_setCell, World.heap_drewN, heapDrew, Nat.add_assoc, Nat.reduceAdd, List.setIfInBounds_toArray, List.set_cons_zero, List.set_cons_succ, List.cons_append, List.nil_append] at hM)
        refine (eqIncident_any _ _ _ _ _ zs0_2 _ _ _ zs0_3 _ _ _ zs0_4 _ _ _ _ _ _ zs0_2 _ _ _ zs0_3 _ _ _ zs0_4 _ _ ((hM.ints (.there .here)).ints) ((hM.ints (.there (.there .here))).ints) ((hM.ints (.there (.there (.there .here)))).ints) ((hM.ints (.there (.there (.there (.there (.there (.there (.there (.there (.there .here)))))))))).ints) ((hM.ints (.there (.there (.there (.there (.there (.there (.there (.there (.there (.there .here))))))))))).ints) ((hM.ints (.there (.there (.there (.there (.there (.there (.there (.there (.there (.there (.there .here)))))))))))).ints)).mono ?_
        rw [eqInc_refl]
        rintro e w21 ⟨rfl, hb⟩
        replace hM := hM.ext hb
        clear hb
        obtain ⟨k7, f7, l7⟩ := hM.row (.there (.there (.there (.there (.there (.there (.there .here)))))))
        go_wp2_with fail
        clear k7 f7 l7
        apply Mem.at
        · (repeat' (first | with_reducible exact hM | with_reducible exact hMp | with_reducible apply Mem.drew | with_reducible apply Mem.drewN | with_reducible apply Mem.alloc | with_reducible apply Mem.set | with_reducible exact Sto.row | ((with_reducible refine Sto.rowEq2 ?_ ?_); omega; rfl) | ((with_reducible refine Sto.rowEq ?_); omega) | with_reducible apply Sto.int | with_reducible apply Sto.there | with_reducible assumption | (unfold I64; omega) | (with_reducible (have hMx := Mem.undrew hM; exact hMx)) | (with_reducible (have hMx := Mem.undrew hMp; exact hMx))))
        clear hM
        intro hM
        (try simp only [World.size_alloc, World.size_setCell, World.heap_drewN, heapDrew, Nat.add_assoc, Nat.reduceAdd, List.setIfInBounds_toArray, List.set_cons_zero, List.set_cons_succ, List.cons_append, List.nil_append] at hM)
        have hmm22_0 := (hM.ints (.there (.there (.there (.there .here))))).room
        have hmm22_1 := (hM.ints (.there (.there (.there (.there (.there .here)))))).room
        have hmm22_2 := (hM.ints (.there (.there (.there (.there (.there (.there .here))))))).room
        refine (heldIncident_any _ _ _ _ _ _ _ _ _ _ _ _ 1 _ ((hM.ints (.there (.there (.there (.there .here))))).ints) ((hM.ints (.there (.there (.there (.there (.there .here)))))).ints) ((hM.ints (.there (.there (.there (.there (.there (.there .here))))))).ints) (by omega)).mono ?_
        rintro e w22 ⟨rfl, hb⟩
        replace hM := hM.ext hb
        clear hb
        have hmn22 : ((1 + (ng0_2 : Int) + (ng0_3 : Int) + (ng0_4 : Int)) != (1 + (ng0_2 : Int) + (ng0_3 : Int) + (ng0_4 : Int))) = false := by simp
        have hmp22 : 0 ≤ (1 + (ng0_2 : Int) + (ng0_3 : Int) + (ng0_4 : Int)) := by omega
        go_wp2
        go_ret
        exact ⟨rfl, (by apply Mem.below; (repeat' (first | with_reducible exact hM | with_reducible exact hMp | with_reducible apply Mem.drew | with_reducible apply Mem.drewN | with_reducible apply Mem.alloc | with_reducible apply Mem.set | with_reducible exact Sto.row | ((with_reducible refine Sto.rowEq2 ?_ ?_); omega; rfl) | ((with_reducible refine Sto.rowEq ?_); omega) | with_reducible apply Sto.int | with_reducible apply Sto.there | with_reducible assumption | (unfold I64; omega) | (with_reducible (have hMx := Mem.undrew hM; exact hMx)) | (with_reducible (have hMx := Mem.undrew hMp; exact hMx)))))⟩
end Go.Proofs.Ytlmdckocjlogkaa
