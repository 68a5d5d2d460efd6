/-
  The law FnSmoke, walked.
-/
import Derived.Test.YtdhgkfmehegeoaaSmkT
import Derived.Test.YtdhgkfmehegeoaaDrawSmk2
import Derived.Test.YtdhgkfmehegeoaaRunW
import Derived.Test.YtdhgkfmehegeoaaBlowW
import Derived.Test.YtdhgkfmehegeoaaSettle2
import Derived.Test.YtdhgkfmehegeoaaSettle
namespace Go.Proofs.Ytdhgkfmehegeoaa
set_option linter.unusedSimpArgs false
set_option linter.unusedVariables false
open Go.RowKit

theorem good_all {m W H : Int} {xs : List Int} (h : goodB m W H xs = true) : ∀ x ∈ xs, 0 ≤ x ∧ x ≤ m := by
  obtain ⟨Wn, Hn, -, -, -, -, -, -, -, -, hall⟩ := goodB_true h
  exact hall
theorem good_len25 {m W H : Int} {xs : List Int} (h : goodB m W H xs = true) : xs.length ≤ 25 := by
  obtain ⟨Wn, Hn, -, -, -, -, -, -, -, h25, -⟩ := goodB_true h
  exact h25
theorem hl250 {S : Int} {n : Nat} (h : 0 ≤ S ∧ S ≤ 10000 * n) (hn : n ≤ 25) : 0 ≤ S ∧ S ≤ 250000 := by omega
theorem tot_le {W H : Int} {xs : List Int} {T : Int} (h : totR W H xs = (T, true)) : goodB 10000 W H xs = true ∧ T ≤ 250000 := by
  unfold totR at h
  split at h
  · rename_i hg
    injection h with h1 h2
    have := hl250 (sum_bound (good_all hg)) (good_len25 hg)
    exact ⟨hg, by omega⟩
  · cases h
theorem blowR_ok {W H e s q : Int} {xs : List Int} {g : Grid} {u : Int} (h : blowR W H xs e s q = ⟨g, u, true⟩) : ∃ Wn Hn : Nat, W = Wn ∧ H = Hn ∧ goodB 10000 Wn Hn xs = true ∧ windB e s q = true ∧ xs.length = Wn * Hn ∧ xs.length ≤ 25 ∧ (∀ x ∈ xs, 0 ≤ x ∧ x ≤ 10000) ∧ g.W = Wn ∧ g.H = Hn ∧ g.zs = blowK Wn Hn e s q xs xs.length := by
  unfold blowR at h
  split at h
  · rename_i hc
    simp only [Bool.and_eq_true] at hc
    obtain ⟨Wn, Hn, rfl, rfl, -, -, -, -, hl, h25, ha⟩ := goodB_true hc.1.1
    injection h with h1 h2 h3
    subst h1
    simp only [Int.toNat_natCast]
    exact ⟨Wn, Hn, rfl, rfl, hc.1.1, hc.1.2, hl, h25, ha, rfl, rfl, rfl⟩
  · cases h
theorem fromR_ok {Wn Hn : Nat} {e s q : Int} {xs : List Int} (hg : goodB 10000 Wn Hn xs = true) (hw : windB e s q = true) {k : Nat} (hk : k < xs.length) : fromR Wn Hn e s q xs k = (fromL Wn Hn e s q xs k, true) := by
  have : inB (k : Int) 0 ((xs.length : Int) - 1) = true := by unfold inB; exact decide_eq_true (by omega)
  rw [fromR, hg, hw, this]
  simp
theorem fromL_form (W H : Nat) (e s q : Int) (xs : List Int) (c : Nat) : fromL W H e s q xs c = [] ∨ ∃ f, fromL W H e s q xs c = [f] := by
  unfold fromL
  split
  · exact .inr ⟨_, rfl⟩
  · exact .inl rfl
set_option maxRecDepth 100000 in
set_option maxHeartbeats 8000000 in
theorem FnSmoke_walk (a : Option Addr) (n cc : Nat) (l : List UInt8) (w : World) (hI : n ≤ maxLen ∧ (n ≤ 65536 → Rd FByt w a n cc l)) :
    Calls Try.prog 3 #[.slice a n cc] w fun e w' => e = .returned (.bool true) ∧ Below w.heap.size w w' := by
  have hM := Mem.start w
  have HI := Lib.hid hI.2
  clear hI
  go_enter Try.func3, Try.ntmps3
  go_wp2_with fail
  apply Mem.atA
  · (repeat' (first | with_reducible exact hM | with_reducible exact hMp | with_reducible apply Mem.drew | with_reducible apply Mem.drewN | with_reducible apply Mem.alloc | with_reducible apply Mem.set | with_reducible exact Sto.row | ((with_reducible refine Sto.rowEq2 ?_ ?_); omega; rfl) | ((with_reducible refine Sto.rowEq ?_); omega) | with_reducible apply Sto.int | with_reducible apply Sto.there | with_reducible assumption | (unfold I64; omega) | (with_reducible (have hMx := Mem.undrew hM; exact hMx)) | (with_reducible (have hMx := Mem.undrew hMp; exact hMx))))
  clear hM
  intro wst hM
  (try simp only [World.size_alloc, World.size_setCell, World.heap_drewN, heapDrew, Nat.add_assoc, Nat.reduceAdd, List.setIfInBounds_toArray, List.set_cons_zero, List.set_cons_succ, List.cons_append, List.nil_append] at hM)
  refine (vBig_any a n cc _).mono ?_
  rintro e wc1 ⟨rfl, hb⟩
  replace hM := hM.ext hb
  clear hb
  by_cases hb : 65536 < n
  · go_wp2
    go_ret
    exact ⟨rfl, (by apply Mem.below; (repeat' (first | with_reducible exact hM | with_reducible exact hMp | with_reducible apply Mem.drew | with_reducible apply Mem.drewN | with_reducible apply Mem.alloc | with_reducible apply Mem.set | with_reducible exact Sto.row | ((with_reducible refine Sto.rowEq2 ?_ ?_); omega; rfl) | ((with_reducible refine Sto.rowEq ?_); omega) | with_reducible apply Sto.int | with_reducible apply Sto.there | with_reducible assumption | (unfold I64; omega) | (with_reducible (have hMx := Mem.undrew hM; exact hMx)) | (with_reducible (have hMx := Mem.undrew hMp; exact hMx)))))⟩
  have HC := Lib.hid (HI.out (by omega))
  clear HI
  go_wp2_with fail
  apply Mem.atA
  · (repeat' (first | with_reducible exact hM | with_reducible exact hMp | with_reducible apply Mem.drew | with_reducible apply Mem.drewN | with_reducible apply Mem.alloc | with_reducible apply Mem.set | with_reducible exact Sto.row | ((with_reducible refine Sto.rowEq2 ?_ ?_); omega; rfl) | ((with_reducible refine Sto.rowEq ?_); omega) | with_reducible apply Sto.int | with_reducible apply Sto.there | with_reducible assumption | (unfold I64; omega) | (with_reducible (have hMx := Mem.undrew hM; exact hMx)) | (with_reducible (have hMx := Mem.undrew hMp; exact hMx))))
  clear hM
  intro wst hM
  (try simp only [World.size_alloc, World.size_setCell, World.heap_drewN, heapDrew, Nat.add_assoc, Nat.reduceAdd, List.setIfInBounds_toArray, List.set_cons_zero, List.set_cons_succ, List.cons_append, List.nil_append] at hM)
  refine (drawSmk_run (HC.out.ext hM.below)).mono ?_
  rintro e w1 ⟨W, H, a1, c1, xs, a2, c2, ws, hS, hl, hW, rfl, hm⟩
  replace hM := hM.join hm
  clear hm
  (try simp only [World.size_alloc, World.size_setCell, World.heap_drewN, heapDrew, Nat.add_assoc, Nat.reduceAdd, List.setIfInBounds_toArray, List.set_cons_zero, List.set_cons_succ, List.cons_append, List.nil_append] at hM)
  clear hS hW
  obtain ⟨⟨⟨gW, gH, zs⟩, u, v1⟩, hq0⟩ : ∃ r, runR W H xs ws = r := ⟨_, rfl⟩
  have HQ0 := Lib.hid hq0; clear hq0
  have hbb1 : (v1 != v1) = false := by cases v1 <;> rfl
  have hbu : (u != u) = false := by simp
  go_wp2_with fail
  apply Mem.atA
  · (repeat' (first | with_reducible exact hM | with_reducible exact hMp | with_reducible apply Mem.drew | with_reducible apply Mem.drewN | with_reducible apply Mem.alloc | with_reducible apply Mem.set | with_reducible exact Sto.row | ((with_reducible refine Sto.rowEq2 ?_ ?_); omega; rfl) | ((with_reducible refine Sto.rowEq ?_); omega) | with_reducible apply Sto.int | with_reducible apply Sto.there | with_reducible assumption | (unfold I64; omega) | (with_reducible (have hMx := Mem.undrew hM; exact hMx)) | (with_reducible (have hMx := Mem.undrew hMp; exact hMx))))
  clear hM
  intro wst hM
  (try simp only [World.size_alloc, World.size_setCell, World.heap_drewN, heapDrew, Nat.add_assoc, Nat.reduceAdd, List.setIfInBounds_toArray, List.set_cons_zero, List.set_cons_succ, List.cons_append, List.nil_append] at hM)
  refine (implRun_any W H _ _ _ xs _ _ _ ws _ (hM.intsR (.there (.there .here))) (windsOf (hM.ow (.there .here)).rd)).mono ?_
  rw [HQ0.out]
  rintro e w3 ⟨a3, n3, c3, rfl, hO, hb⟩
  replace hM := hM.own hb hO
  clear hb hO
  dsimp only at hM ⊢
  obtain ⟨k1, f1, l1⟩ := hM.row (.there .here)
  go_wp2_with fail
  clear k1 f1 l1
  apply Mem.atA
  · (repeat' (first | with_reducible exact hM | with_reducible exact hMp | with_reducible apply Mem.drew | with_reducible apply Mem.drewN | with_reducible apply Mem.alloc | with_reducible apply Mem.set | with_reducible exact Sto.row | ((with_reducible refine Sto.rowEq2 ?_ ?_); omega; rfl) | ((with_reducible refine Sto.rowEq ?_); omega) | with_reducible apply Sto.int | with_reducible apply Sto.there | with_reducible assumption | (unfold I64; omega) | (with_reducible (have hMx := Mem.undrew hM; exact hMx)) | (with_reducible (have hMx := Mem.undrew hMp; exact hMx))))
  clear hM
  intro wst hM
  (try simp only [World.size_alloc, World.size_setCell, World.heap_drewN, heapDrew, Nat.add_assoc, Nat.reduceAdd, List.setIfInBounds_toArray, List.set_cons_zero, List.set_cons_succ, List.cons_append, List.nil_append] at hM)
  refine (specRun_any W H _ _ _ xs _ _ _ ws _ (hM.intsR (.there (.there (.there (.there .here))))) (windsOf (hM.ow (.there (.there (.there .here)))).rd)).mono ?_
  rw [HQ0.out]
  rintro e w4 ⟨a4, n4, c4, rfl, hO, hb⟩
  replace hM := hM.own hb hO
  clear hb hO
  dsimp only at hM ⊢
  go_upto_region 6 with fail
  apply Mem.atWpA
  · (repeat' (first | with_reducible exact hM | with_reducible exact hMp | with_reducible apply Mem.drew | with_reducible apply Mem.drewN | with_reducible apply Mem.alloc | with_reducible apply Mem.set | with_reducible exact Sto.row | ((with_reducible refine Sto.rowEq2 ?_ ?_); omega; rfl) | ((with_reducible refine Sto.rowEq ?_); omega) | with_reducible apply Sto.int | with_reducible apply Sto.there | with_reducible assumption | (unfold I64; omega) | (with_reducible (have hMx := Mem.undrew hM; exact hMx)) | (with_reducible (have hMx := Mem.undrew hMp; exact hMx))))
  clear hM
  intro wst hM
  (try simp only [World.size_alloc, World.size_setCell, World.heap_drewN, heapDrew, Nat.add_assoc, Nat.reduceAdd, List.setIfInBounds_toArray, List.set_cons_zero, List.set_cons_succ, List.cons_append, List.nil_append] at hM)
  obtain ⟨g0, hg0⟩ : ∃ g0, goodB 10000 W H xs = g0 := ⟨_, rfl⟩
  have HG0 := Lib.hid hg0; clear hg0
  have hbg : (g0 != g0) = false := by cases g0 <;> rfl
  go_cut [84] (fun s84 wx => s84 = .bool false ∧ Mem w.heap.size w wx [rowE w3.heap.size 26 #[.int .i64 gW, .int .i64 gH, .slice a3 n3 c3], intE a3 n3 c3 zs, rowE w1.heap.size 26 #[.int .i64 W, .int .i64 H, .slice a1 xs.length c1], intE a1 xs.length c1 xs])
  case first =>
    as_aux_lemma =>
      refine AtT.startA hM hM 20 (by kernel_rfl) ?_
      clear hM
      intro wd hM
      have hS := hM
      refine AtT.taked (i := 0) (v := ?_) (some 64) rfl rfl (by kernel_rfl) (by kernel_rfl) (by kernel_rfl) (by kernel_rfl) (fun _ _ _ h => h) (Or.inl ⟨by kernel_rfl, ?_⟩) hS ?_
      rotate_left
      · (intro wS hSw; (try dsimp only at hSw); go_simp; (try rw [if_neg (by omega)]); try with_reducible rfl)
      simp only [Act.put, List.setIfInBounds_toArray, List.set_cons_zero, List.set_cons_succ]
      refine AtT.taked (i := 1) (v := ?_) (some 65) rfl rfl (by kernel_rfl) (by kernel_rfl) (by kernel_rfl) (by kernel_rfl) (fun _ _ _ h => h) (Or.inl ⟨by kernel_rfl, ?_⟩) hS ?_
      rotate_left
      · (intro wS hSw; (try dsimp only at hSw); go_simp; (try rw [if_neg (by omega)]); try with_reducible rfl)
      simp only [Act.put, List.setIfInBounds_toArray, List.set_cons_zero, List.set_cons_succ]
      refine AtT.taked (i := 2) (v := ?_) (some 66) rfl rfl (by kernel_rfl) (by kernel_rfl) (by kernel_rfl) (by kernel_rfl) (fun _ _ _ h => h) (Or.inl ⟨by kernel_rfl, ?_⟩) hS ?_
      rotate_left
      · (intro wS hSw; (try dsimp only at hSw); go_simp; (try rw [if_neg (by omega)]); try with_reducible rfl)
      simp only [Act.put, List.setIfInBounds_toArray, List.set_cons_zero, List.set_cons_succ]
      refine AtT.taked (i := 3) (v := ?_) (some 67) rfl rfl (by kernel_rfl) (by kernel_rfl) (by kernel_rfl) (by kernel_rfl) (fun _ _ _ h => h) (Or.inl ⟨by kernel_rfl, ?_⟩) hS ?_
      rotate_left
      · (intro wS hSw; (try dsimp only at hSw); go_simp; (try rw [if_neg (by omega)]); try with_reducible rfl)
      simp only [Act.put, List.setIfInBounds_toArray, List.set_cons_zero, List.set_cons_succ]
      refine AtT.taked (i := 4) (v := ?_) (some 68) rfl rfl (by kernel_rfl) (by kernel_rfl) (by kernel_rfl) (by kernel_rfl) (fun _ _ _ h => h) (Or.inl ⟨by kernel_rfl, ?_⟩) hS ?_
      rotate_left
      · (intro wS hSw; (try dsimp only at hSw); go_simp; (try rw [if_neg (by omega)]); try with_reducible rfl)
      simp only [Act.put, List.setIfInBounds_toArray, List.set_cons_zero, List.set_cons_succ]
      refine AtT.taked (i := 5) (v := ?_) (some 69) rfl rfl (by kernel_rfl) (by kernel_rfl) (by kernel_rfl) (by kernel_rfl) (fun _ _ _ h => h) (Or.inl ⟨by kernel_rfl, ?_⟩) hS ?_
      rotate_left
      · (intro wS hSw; (try dsimp only at hSw); go_simp; (try rw [if_neg (by omega)]); try with_reducible rfl)
      simp only [Act.put, List.setIfInBounds_toArray, List.set_cons_zero, List.set_cons_succ]
      refine AtT.taked (i := 6) (v := ?_) (some 70) rfl rfl (by kernel_rfl) (by kernel_rfl) (by kernel_rfl) (by kernel_rfl) (fun _ _ _ h => h) (Or.inl ⟨by kernel_rfl, ?_⟩) hS ?_
      rotate_left
      · (intro wS hSw; (try dsimp only at hSw); go_simp; (try rw [if_neg (by omega)]); try with_reducible rfl)
      simp only [Act.put, List.setIfInBounds_toArray, List.set_cons_zero, List.set_cons_succ]
      refine AtT.taked (i := 7) (v := ?_) (some 71) rfl rfl (by kernel_rfl) (by kernel_rfl) (by kernel_rfl) (by kernel_rfl) (fun _ _ _ h => h) (Or.inl ⟨by kernel_rfl, ?_⟩) hS ?_
      rotate_left
      · (intro wS hSw; (try dsimp only at hSw); go_simp; (try rw [if_neg (by omega)]); try with_reducible rfl)
      simp only [Act.put, List.setIfInBounds_toArray, List.set_cons_zero, List.set_cons_succ]
      refine AtT.taked (i := 8) (v := ?_) (some 72) rfl rfl (by kernel_rfl) (by kernel_rfl) (by kernel_rfl) (by kernel_rfl) (fun _ _ _ h => h) (Or.inl ⟨by kernel_rfl, ?_⟩) hS ?_
      rotate_left
      · (intro wS hSw; (try dsimp only at hSw); go_simp; (try rw [if_neg (by omega)]); try with_reducible rfl)
      simp only [Act.put, List.setIfInBounds_toArray, List.set_cons_zero, List.set_cons_succ]
      refine AtT.taked (i := 9) (v := ?_) (some 73) rfl rfl (by kernel_rfl) (by kernel_rfl) (by kernel_rfl) (by kernel_rfl) (fun _ _ _ h => h) (Or.inl ⟨by kernel_rfl, ?_⟩) hS ?_
      rotate_left
      · (intro wS hSw; (try dsimp only at hSw); have kr0 := (Mem.row hSw .here).cell; have kr1 := (Mem.row hSw (.there (.there .here))).cell; have kr2 := (Mem.row hSw (.there (.there (.there (.there .here))))).cell; go_simp; (try rw [if_neg (by omega)]); try with_reducible rfl)
      simp only [Act.put, List.setIfInBounds_toArray, List.set_cons_zero, List.set_cons_succ]
      refine AtT.taked (i := 10) (v := ?_) (some 74) rfl rfl (by kernel_rfl) (by kernel_rfl) (by kernel_rfl) (by kernel_rfl) (fun _ _ _ h => h) (Or.inl ⟨by kernel_rfl, ?_⟩) hS ?_
      rotate_left
      · (intro wS hSw; (try dsimp only at hSw); have kr0 := (Mem.row hSw .here).cell; have kr1 := (Mem.row hSw (.there (.there .here))).cell; have kr2 := (Mem.row hSw (.there (.there (.there (.there .here))))).cell; go_simp; (try rw [if_neg (by omega)]); try with_reducible rfl)
      simp only [Act.put, List.setIfInBounds_toArray, List.set_cons_zero, List.set_cons_succ]
      refine AtT.only (i := 11) (by kernel_rfl) rfl rfl ?_
      intro K hK
      go_simp
      refine (vSmoke_same gW gH _ _ _ zs _ _ _ _ (hM.ints (.there (.there (.there .here)))).ints (hM.ints (.there .here)).ints).mono ?_
      rintro e w3 ⟨rfl, hb⟩
      replace hM := hM.ext hb
      clear hb
      try dsimp only
      refine hK.out _ _ (hM) ?_
      clear hK K hS
      have hS := hM
      refine AtT.taked (i := 12) (v := ?_) (some 76) rfl rfl (by kernel_rfl) (by kernel_rfl) (by kernel_rfl) (by kernel_rfl) (fun _ _ _ h => h) (Or.inl ⟨by kernel_rfl, ?_⟩) hS ?_
      rotate_left
      · (intro wS hSw; (try dsimp only at hSw); go_simp; (try rw [if_neg (by omega)]); try with_reducible rfl)
      simp only [Act.put, List.setIfInBounds_toArray, List.set_cons_zero, List.set_cons_succ]
      refine AtT.taked (i := 13) (v := ?_) (some 77) rfl rfl (by kernel_rfl) (by kernel_rfl) (by kernel_rfl) (by kernel_rfl) (fun _ _ _ h => h) (Or.inl ⟨by kernel_rfl, ?_⟩) hS ?_
      rotate_left
      · (intro wS hSw; (try dsimp only at hSw); go_simp; (try rw [if_neg (by omega)]); try with_reducible rfl)
      simp only [Act.put, List.setIfInBounds_toArray, List.set_cons_zero, List.set_cons_succ]
      refine AtT.taked (i := 14) (v := ?_) (some 78) rfl rfl (by kernel_rfl) (by kernel_rfl) (by kernel_rfl) (by kernel_rfl) (fun _ _ _ h => h) (Or.inl ⟨by kernel_rfl, ?_⟩) hS ?_
      rotate_left
      · (intro wS hSw; (try dsimp only at hSw); go_simp; (try rw [if_neg (by omega)]); try with_reducible rfl)
      simp only [Act.put, List.setIfInBounds_toArray, List.set_cons_zero, List.set_cons_succ]
      refine AtT.taked (i := 15) (v := ?_) (some 79) rfl rfl (by kernel_rfl) (by kernel_rfl) (by kernel_rfl) (by kernel_rfl) (fun _ _ _ h => h) (Or.inl ⟨by kernel_rfl, ?_⟩) hS ?_
      rotate_left
      · (intro wS hSw; (try dsimp only at hSw); have kr0 := (Mem.row hSw .here).cell; have kr1 := (Mem.row hSw (.there (.there .here))).cell; have kr2 := (Mem.row hSw (.there (.there (.there (.there .here))))).cell; go_simp; (try rw [if_neg (by omega)]); try with_reducible rfl)
      simp only [Act.put, List.setIfInBounds_toArray, List.set_cons_zero, List.set_cons_succ]
      refine AtT.taked (i := 17) (v := ?_) (some 81) rfl rfl (by kernel_rfl) (by kernel_rfl) (by kernel_rfl) (by kernel_rfl) (fun _ _ _ h => h) (Or.inl ⟨by kernel_rfl, ?_⟩) hS ?_
      rotate_left
      · (intro wS hSw; (try dsimp only at hSw); have kr0 := (Mem.row hSw .here).cell; have kr1 := (Mem.row hSw (.there (.there .here))).cell; have kr2 := (Mem.row hSw (.there (.there (.there (.there .here))))).cell; go_simp; (try rw [if_neg (by omega)]); try with_reducible rfl)
      simp only [Act.put, List.setIfInBounds_toArray, List.set_cons_zero, List.set_cons_succ]
      refine AtT.only (i := 16) (by kernel_rfl) rfl rfl ?_
      intro K hK
      go_simp
      refine (IsSmoke_any W H _ _ _ xs _ (hM.ints (.there (.there (.there (.there (.there (.there .here))))))).ints).mono ?_
      rw [HG0.out]
      rintro e w3 ⟨rfl, hb⟩
      replace hM := hM.ext hb
      clear hb
      try dsimp only
      refine hK.out _ _ (hM) ?_
      clear hK K hS
      have hS := hM
      refine AtT.only (i := 18) (by kernel_rfl) rfl rfl ?_
      intro K hK
      go_simp
      refine (sIsSmoke_any W H _ _ _ xs _ (hM.ints (.there (.there (.there (.there (.there (.there .here))))))).ints).mono ?_
      rw [HG0.out]
      rintro e w3 ⟨rfl, hb⟩
      replace hM := hM.ext hb
      clear hb
      try dsimp only
      refine hK.out _ _ (hM) ?_
      clear hK K hS
      have hS := hM
      refine AtT.taked (i := 19) (v := ?_) (some 83) rfl rfl (by kernel_rfl) (by kernel_rfl) (by kernel_rfl) (by kernel_rfl) (fun _ _ _ h => h) (Or.inl ⟨by kernel_rfl, ?_⟩) hS ?_
      rotate_left
      · (intro wS hSw; (try dsimp only at hSw); go_simp; (try rw [if_neg (by omega)]); try with_reducible rfl)
      simp only [Act.put, List.setIfInBounds_toArray, List.set_cons_zero, List.set_cons_succ]
      refine AtT.last (by kernel_rfl) rfl (by kernel_rfl) ?_
      intro K hK
      clear hS
      go_simp
      refine hK.out _ _ ?_
      clear hK K
      go_wp2_with fail
      go_meet
      exact ⟨rfl, hM.sub (by simp)⟩
  case rest =>
  clear hM
  obtain ⟨rfl, hM⟩ := hcut
  clear HG0 hbg
  go_upto_if 85 with fail
  go_cut [] (fun wx => Mem w.heap.size w wx [])
  case first =>
    as_aux_lemma =>
      cases v1
      · go_wp2_with fail
        go_meet
        exact hM.sub (by simp)
      obtain ⟨hg1, e1, e2, hg2, hsum, hu0⟩ := runR_ok HQ0.out
      dsimp only at e1 e2 hg2 hsum
      subst e1 e2
      have hb1 := sum_bound (good_all hg2)
      have hl1 := good_len25 hg2
      have HT1 := Lib.hid (show totR gW gH xs = (xs.sum, true) by rw [totR, hg1]; rfl)
      have HT2 := Lib.hid (show totR gW gH zs = (zs.sum, true) by rw [totR, hg2]; rfl)
      clear HQ0 hg1 hg2 hbb1
      have hb0 := hl250 hb1 hl1
      clear hb1 hl1
      have hb3 := (tot_le HT1.out).2
      generalize xs.sum = T at hsum HT1 hb3
      generalize zs.sum = S at hsum HT2 hb0
      have hwT : IntKind.i64.wrap (S + u) = T := by rw [wrap_in (by omega)]; omega
      have hTT : (T != T) = false := by simp
      have hu1 : ¬ u < 0 := by omega
      clear hsum
      obtain ⟨k2, f2, l2⟩ := hM.row (.there (.there .here))
      go_wp2_with fail
      clear k2 f2 l2
      apply Mem.atA
      · (repeat' (first | with_reducible exact hM | with_reducible exact hMp | with_reducible apply Mem.drew | with_reducible apply Mem.drewN | with_reducible apply Mem.alloc | with_reducible apply Mem.set | with_reducible exact Sto.row | ((with_reducible refine Sto.rowEq2 ?_ ?_); omega; rfl) | ((with_reducible refine Sto.rowEq ?_); omega) | with_reducible apply Sto.int | with_reducible apply Sto.there | with_reducible assumption | (unfold I64; omega) | (with_reducible (have hMx := Mem.undrew hM; exact hMx)) | (with_reducible (have hMx := Mem.undrew hMp; exact hMx))))
      clear hM
      intro wst hM
      (try simp only [World.size_alloc, World.size_setCell, World.heap_drewN, heapDrew, Nat.add_assoc, Nat.reduceAdd, List.setIfInBounds_toArray, List.set_cons_zero, List.set_cons_succ, List.cons_append, List.nil_append] at hM)
      refine (implTotal_any _ _ _ _ _ xs _ (hM.intsR (.there (.there (.there .here))))).mono ?_
      rw [HT1.out]
      rintro e wc5 ⟨rfl, hb⟩
      replace hM := hM.ext hb
      clear hb
      dsimp only
      obtain ⟨k0, f0, l0⟩ := hM.row .here
      go_wp2_with fail
      clear k0 f0 l0
      apply Mem.atA
      · (repeat' (first | with_reducible exact hM | with_reducible exact hMp | with_reducible apply Mem.drew | with_reducible apply Mem.drewN | with_reducible apply Mem.alloc | with_reducible apply Mem.set | with_reducible exact Sto.row | ((with_reducible refine Sto.rowEq2 ?_ ?_); omega; rfl) | ((with_reducible refine Sto.rowEq ?_); omega) | with_reducible apply Sto.int | with_reducible apply Sto.there | with_reducible assumption | (unfold I64; omega) | (with_reducible (have hMx := Mem.undrew hM; exact hMx)) | (with_reducible (have hMx := Mem.undrew hMp; exact hMx))))
      clear hM
      intro wst hM
      (try simp only [World.size_alloc, World.size_setCell, World.heap_drewN, heapDrew, Nat.add_assoc, Nat.reduceAdd, List.setIfInBounds_toArray, List.set_cons_zero, List.set_cons_succ, List.cons_append, List.nil_append] at hM)
      refine (implTotal_any _ _ _ _ _ zs _ (hM.intsR (.there .here))).mono ?_
      rw [HT2.out]
      rintro e wc6 ⟨rfl, hb⟩
      replace hM := hM.ext hb
      clear hb
      dsimp only
      go_wp2_with fail
      go_meet
      exact hM.sub (by simp)
  case rest =>
    as_aux_lemma =>
      clear hM HQ0 hbb1 hbu hl
      have hM := hcut
      clear hcut
      go_wp2_with fail
      apply Mem.atA
      · (repeat' (first | with_reducible exact hM | with_reducible exact hMp | with_reducible apply Mem.drew | with_reducible apply Mem.drewN | with_reducible apply Mem.alloc | with_reducible apply Mem.set | with_reducible exact Sto.row | ((with_reducible refine Sto.rowEq2 ?_ ?_); omega; rfl) | ((with_reducible refine Sto.rowEq ?_); omega) | with_reducible apply Sto.int | with_reducible apply Sto.there | with_reducible assumption | (unfold I64; omega) | (with_reducible (have hMx := Mem.undrew hM; exact hMx)) | (with_reducible (have hMx := Mem.undrew hMp; exact hMx))))
      clear hM
      intro wst hM
      (try simp only [World.size_alloc, World.size_setCell, World.heap_drewN, heapDrew, Nat.add_assoc, Nat.reduceAdd, List.setIfInBounds_toArray, List.set_cons_zero, List.set_cons_succ, List.cons_append, List.nil_append] at hM)
      refine (drawSmk_blow (HC.out.ext hM.below)).mono ?_
      rintro e w5 ⟨W2, H2, a5, c5, ys, v, hS, hV, rfl, hm⟩
      replace hM := hM.join hm
      clear hm
      (try simp only [World.size_alloc, World.size_setCell, World.heap_drewN, heapDrew, Nat.add_assoc, Nat.reduceAdd, List.setIfInBounds_toArray, List.set_cons_zero, List.set_cons_succ, List.cons_append, List.nil_append] at hM)
      clear hS
      obtain ⟨e, s, q⟩ := v
      obtain ⟨⟨e0, e1⟩, ⟨s0, s1⟩, q0, q1⟩ := hV
      dsimp only at e0 e1 s0 s1 q0 q1
      obtain ⟨⟨⟨gW, gH, zs⟩, u, v1⟩, hq1⟩ : ∃ r, blowR W2 H2 ys e s q = r := ⟨_, rfl⟩
      have HQ1 := Lib.hid hq1; clear hq1
      have hbb1 : (v1 != v1) = false := by cases v1 <;> rfl
      have hbu : (u != u) = false := by simp
      go_wp2_with fail
      apply Mem.atA
      · (repeat' (first | with_reducible exact hM | with_reducible exact hMp | with_reducible apply Mem.drew | with_reducible apply Mem.drewN | with_reducible apply Mem.alloc | with_reducible apply Mem.set | with_reducible exact Sto.row | ((with_reducible refine Sto.rowEq2 ?_ ?_); omega; rfl) | ((with_reducible refine Sto.rowEq ?_); omega) | with_reducible apply Sto.int | with_reducible apply Sto.there | with_reducible assumption | (unfold I64; omega) | (with_reducible (have hMx := Mem.undrew hM; exact hMx)) | (with_reducible (have hMx := Mem.undrew hMp; exact hMx))))
      clear hM
      intro wst hM
      (try simp only [World.size_alloc, World.size_setCell, World.heap_drewN, heapDrew, Nat.add_assoc, Nat.reduceAdd, List.setIfInBounds_toArray, List.set_cons_zero, List.set_cons_succ, List.cons_append, List.nil_append] at hM)
      refine (implBlow_any W2 H2 _ _ _ ys e s q _ (hM.intsR (.there (.there .here))) (by unfold I64; omega) (by unfold I64; omega) (by unfold I64; omega)).mono ?_
      rw [HQ1.out]
      rintro e w6 ⟨a6, n6, c6, rfl, hO, hb⟩
      replace hM := hM.own hb hO
      clear hb hO
      dsimp only at hM ⊢
      obtain ⟨k1, f1, l1⟩ := hM.row (.there .here)
      obtain ⟨k2, f2, l2⟩ := hM.row (.there (.there .here))
      go_wp2_with fail
      clear k1 f1 l1 k2 f2 l2
      apply Mem.atA
      · (repeat' (first | with_reducible exact hM | with_reducible exact hMp | with_reducible apply Mem.drew | with_reducible apply Mem.drewN | with_reducible apply Mem.alloc | with_reducible apply Mem.set | with_reducible exact Sto.row | ((with_reducible refine Sto.rowEq2 ?_ ?_); omega; rfl) | ((with_reducible refine Sto.rowEq ?_); omega) | with_reducible apply Sto.int | with_reducible apply Sto.there | with_reducible assumption | (unfold I64; omega) | (with_reducible (have hMx := Mem.undrew hM; exact hMx)) | (with_reducible (have hMx := Mem.undrew hMp; exact hMx))))
      clear hM
      intro wst hM
      (try simp only [World.size_alloc, World.size_setCell, World.heap_drewN, heapDrew, Nat.add_assoc, Nat.reduceAdd, List.setIfInBounds_toArray, List.set_cons_zero, List.set_cons_succ, List.cons_append, List.nil_append] at hM)
      refine (specBlow_any W2 H2 _ _ _ ys e s q _ (hM.intsR (.there (.there (.there (.there .here)))))).mono ?_
      rw [HQ1.out]
      rintro e w7 ⟨a7, n7, c7, rfl, hO, hb⟩
      replace hM := hM.own hb hO
      clear hb hO
      dsimp only at hM ⊢
      obtain ⟨k1, f1, l1⟩ := hM.row (.there .here)
      go_wp2_with fail
      clear k1 f1 l1
      apply Mem.atA
      · (repeat' (first | with_reducible exact hM | with_reducible exact hMp | with_reducible apply Mem.drew | with_reducible apply Mem.drewN | with_reducible apply Mem.alloc | with_reducible apply Mem.set | with_reducible exact Sto.row | ((with_reducible refine Sto.rowEq2 ?_ ?_); omega; rfl) | ((with_reducible refine Sto.rowEq ?_); omega) | with_reducible apply Sto.int | with_reducible apply Sto.there | with_reducible assumption | (unfold I64; omega) | (with_reducible (have hMx := Mem.undrew hM; exact hMx)) | (with_reducible (have hMx := Mem.undrew hMp; exact hMx))))
      clear hM
      intro wst hM
      (try simp only [World.size_alloc, World.size_setCell, World.heap_drewN, heapDrew, Nat.add_assoc, Nat.reduceAdd, List.setIfInBounds_toArray, List.set_cons_zero, List.set_cons_succ, List.cons_append, List.nil_append] at hM)
      refine (vSmoke_same gW gH _ _ _ zs _ _ _ _ (hM.intsR (.there (.there (.there .here)))) (hM.intsR (.there .here))).mono ?_
      rintro e wc10 ⟨rfl, hb⟩
      replace hM := hM.ext hb
      clear hb
      go_upto_if 146 with fail
      go_cut [] (fun wx => Mem w.heap.size w wx [])
      case first =>
        as_aux_lemma =>
          cases v1
          · go_wp2_with fail
            go_meet
            exact hM.sub (by simp)
          obtain ⟨Wn, Hn, rfl, rfl, hg1, hw1, hl5, h255, hall, e2, e3, hzs⟩ := blowR_ok HQ1.out
          dsimp only at e2 e3 hzs
          subst e2 e3
          have hq10 := (windB_true hw1).2.2
          have HFR := Lib.hid (fun k (hk : k < ys.length) => fromR_ok hg1 hw1 (k := k) hk)
          have HBF := Lib.hid (fun k (hk : k < ys.length) f hf => blow_from (e := e) (s := s) hq10 hall hl5 (c := k) hk (f := f) hf)
          rw [← hzs] at HBF
          have HA := Lib.hid hall
          have hzl : zs.length = ys.length := by rw [hzs, blowK_length]
          have HZL := Lib.hid hzl
          clear hzs hzl hall hg1 hw1 hl5 HQ1 hbb1 hbu
          obtain rfl : n6 = ys.length := by rw [← HZL.out]; exact (hM.ints (.there (.there (.there .here)))).len.symm
          replace hM := hM.pick (is := [2, 3, 4, 5, 6]) (by decide) rfl
          dsimp only [List.filterMap_cons, List.filterMap_nil, List.getElem?_cons_zero, List.getElem?_cons_succ] at hM
          go_wp2_with fail
          /-dev-/
          go_loopw [23] (fun s23 wr => ∃ k : Nat, k ≤ ys.length ∧ s23 = .int .i64 k ∧ Mem w.heap.size w wr [rowE w6.heap.size 26 #[.int .i64 Wn, .int .i64 Hn, .slice a6 ys.length c6], intE a6 ys.length c6 zs, rowE (w5.heap.size + 1) 37 #[.int .i64 e, .int .i64 s, .int .i64 q], rowE w5.heap.size 26 #[.int .i64 Wn, .int .i64 Hn, .slice a5 ys.length c5], intE a5 ys.length c5 ys]) (fun s23 _ => ys.length - (intOf s23).toNat)
          case atStart => exact ⟨0, Nat.zero_le _, rfl, hM⟩
          case round =>
            clear hM
            obtain ⟨k, hk, rfl, hM⟩ := hrel
            by_cases hlt : k < ys.length
            · obtain ⟨fl, hfl⟩ : ∃ fl, fromL Wn Hn e s q ys k = fl := ⟨_, rfl⟩
              have hbf := HBF.out k hlt
              have hfr := HFR.out k hlt
              have hform := fromL_form Wn Hn e s q ys k
              rw [hfl] at hbf hfr hform
              have HBF2 := Lib.hid hbf
              have HFR2 := Lib.hid hfr
              clear hbf hfr hfl
              obtain ⟨k3, f3, l3⟩ := hM.row (.there (.there (.there .here)))
              obtain ⟨k2, f2, l2⟩ := hM.row (.there (.there .here))
              go_wp2_with fail
              clear k3 f3 l3 k2 f2 l2
              apply Mem.atA
              · (repeat' (first | with_reducible exact hM | with_reducible exact hMp | with_reducible apply Mem.drew | with_reducible apply Mem.drewN | with_reducible apply Mem.alloc | with_reducible apply Mem.set | with_reducible exact Sto.row | ((with_reducible refine Sto.rowEq2 ?_ ?_); omega; rfl) | ((with_reducible refine Sto.rowEq ?_); omega) | with_reducible apply Sto.int | with_reducible apply Sto.there | with_reducible assumption | (unfold I64; omega) | (with_reducible (have hMx := Mem.undrew hM; exact hMx)) | (with_reducible (have hMx := Mem.undrew hMp; exact hMx))))
              clear hM
              intro wst hM
              (try simp only [World.size_alloc, World.size_setCell, World.heap_drewN, heapDrew, Nat.add_assoc, Nat.reduceAdd, List.setIfInBounds_toArray, List.set_cons_zero, List.set_cons_succ, List.cons_append, List.nil_append] at hM)
              refine (implFrom_any _ _ _ _ _ ys e s q k _ (hM.intsR (.there (.there (.there (.there .here)))))).mono ?_
              rw [HFR2.out]
              rintro e w8 ⟨a8, m8, c8, rfl, hm⟩
              replace hM := hM.join hm
              clear hm
              (try simp only [World.size_alloc, World.size_setCell, World.heap_drewN, heapDrew, Nat.add_assoc, Nat.reduceAdd, List.setIfInBounds_toArray, List.set_cons_zero, List.set_cons_succ, List.cons_append, List.nil_append] at hM)
              dsimp only at hM ⊢
              have hlm := (hM.ints .here).len
              rcases hform with rfl | ⟨f, rfl⟩
              · obtain rfl : m8 = 0 := by simpa using hlm.symm
                clear hlm
                go_upto_region 23 with fail
                apply Mem.atWpA
                · (repeat' (first | with_reducible exact hM | with_reducible exact hMp | with_reducible apply Mem.drew | with_reducible apply Mem.drewN | with_reducible apply Mem.alloc | with_reducible apply Mem.set | with_reducible exact Sto.row | ((with_reducible refine Sto.rowEq2 ?_ ?_); omega; rfl) | ((with_reducible refine Sto.rowEq ?_); omega) | with_reducible apply Sto.int | with_reducible apply Sto.there | with_reducible assumption | (unfold I64; omega) | (with_reducible (have hMx := Mem.undrew hM; exact hMx)) | (with_reducible (have hMx := Mem.undrew hMp; exact hMx))))
                clear hM
                intro wst hM
                (try simp only [World.size_alloc, World.size_setCell, World.heap_drewN, heapDrew, Nat.add_assoc, Nat.reduceAdd, List.setIfInBounds_toArray, List.set_cons_zero, List.set_cons_succ, List.cons_append, List.nil_append] at hM)
                go_quiet (fail)
                apply Mem.atEx
                · (repeat' (first | with_reducible exact hM | with_reducible exact hMp | with_reducible apply Mem.drew | with_reducible apply Mem.drewN | with_reducible apply Mem.alloc | with_reducible apply Mem.set | with_reducible exact Sto.row | ((with_reducible refine Sto.rowEq2 ?_ ?_); omega; rfl) | ((with_reducible refine Sto.rowEq ?_); omega) | with_reducible apply Sto.int | with_reducible apply Sto.there | with_reducible assumption | (unfold I64; omega) | (with_reducible (have hMx := Mem.undrew hM; exact hMx)) | (with_reducible (have hMx := Mem.undrew hMp; exact hMx))))
                clear hM
                intro wst hM
                (try simp only [World.size_alloc, World.size_setCell, World.heap_drewN, heapDrew, Nat.add_assoc, Nat.reduceAdd, List.setIfInBounds_toArray, List.set_cons_zero, List.set_cons_succ, List.cons_append, List.nil_append] at hM)
                replace hM := hM.tail
                go_wp2
                go_roundw
                case rel => exact ⟨k + 1, by omega, by go_num, by (repeat' (first | with_reducible exact hM | with_reducible exact hMp | with_reducible apply Mem.drew | with_reducible apply Mem.drewN | with_reducible apply Mem.alloc | with_reducible apply Mem.set | with_reducible exact Sto.row | ((with_reducible refine Sto.rowEq2 ?_ ?_); omega; rfl) | ((with_reducible refine Sto.rowEq ?_); omega) | with_reducible apply Sto.int | with_reducible apply Sto.there | with_reducible assumption | (unfold I64; omega) | (with_reducible (have hMx := Mem.undrew hM; exact hMx)) | (with_reducible (have hMx := Mem.undrew hMp; exact hMx))))⟩
                case measure => simp [intOf]; omega
              · obtain rfl : m8 = 1 := by simpa using hlm.symm
                have hbf := HBF2.out f rfl
                have hva := HA.out _ (getD_mem (xs := ys) (k := k) hlt)
                clear hlm
                go_upto_region 23 with fail
                apply Mem.atWpA
                · (repeat' (first | with_reducible exact hM | with_reducible exact hMp | with_reducible apply Mem.drew | with_reducible apply Mem.drewN | with_reducible apply Mem.alloc | with_reducible apply Mem.set | with_reducible exact Sto.row | ((with_reducible refine Sto.rowEq2 ?_ ?_); omega; rfl) | ((with_reducible refine Sto.rowEq ?_); omega) | with_reducible apply Sto.int | with_reducible apply Sto.there | with_reducible assumption | (unfold I64; omega) | (with_reducible (have hMx := Mem.undrew hM; exact hMx)) | (with_reducible (have hMx := Mem.undrew hMp; exact hMx))))
                clear hM
                intro wst hM
                (try simp only [World.size_alloc, World.size_setCell, World.heap_drewN, heapDrew, Nat.add_assoc, Nat.reduceAdd, List.setIfInBounds_toArray, List.set_cons_zero, List.set_cons_succ, List.cons_append, List.nil_append] at hM)
                obtain ⟨b6, o6, rfl, -, hcell6⟩ := (hM.intsR (.there (.there .here))).at' _ hlt
                obtain ⟨b5, o5, rfl, -, hcell5⟩ := (hM.intsR (.there (.there (.there (.there (.there .here)))))).at' _ hlt
                have hc6 := hcell6 k hlt
                have hc5 := hcell5 k hlt
                clear hcell6 hcell5
                obtain ⟨y, hy⟩ : ∃ y, zs.getD k 0 = y := ⟨_, rfl⟩
                obtain ⟨x, hx⟩ : ∃ x, ys.getD k 0 = x := ⟨_, rfl⟩
                rw [hy] at hc6 hbf
                rw [hx] at hc5 hva hbf
                clear hy hx
                obtain ⟨x0, x1⟩ := hva
                obtain ⟨y0, y1⟩ := mul_bound (a := 10000) (b := 10) x0 x1 (show 0 ≤ q by omega) hq10.2
                obtain ⟨z, hz⟩ : ∃ z, x * q = z := ⟨_, rfl⟩
                rw [hz] at y0 y1 hbf
                have hw1 : IntKind.i64.wrap (x * q) = z := by rw [hz]; exact wrap_in (by omega)
                clear hz
                obtain ⟨p, hp⟩ : ∃ p, z / 10 = p := ⟨_, rfl⟩
                have hw2 : IntKind.i64.wrap (z.tdiv 10) = p := by rw [Int.tdiv_eq_ediv_of_nonneg y0, hp]; exact wrap_in (by omega)
                rw [hp] at hbf
                have hp0 : 0 ≤ p ∧ p ≤ 10000 := by omega
                have hw3 : IntKind.i64.wrap (x - p) = x - p := wrap_in (by omega)
                have hle : ¬ y ≤ x - p := by omega
                have hle2 : decide (y ≤ x - p) = false := by simpa using hle
                clear hp hbf
                have i0 : (0 : Int) ≤ (k : Int) := by omega
                have i1 : (k : Int) < (ys.length : Int) := by omega
                obtain ⟨k1, f1, l1⟩ := hM.row (.there .here)
                obtain ⟨k3, f3, l3⟩ := hM.row (.there (.there (.there .here)))
                obtain ⟨k4, f4, l4⟩ := hM.row (.there (.there (.there (.there .here))))
                go_quiet (fail)
                clear k1 f1 l1 k3 f3 l3 k4 f4 l4
                apply Mem.atEx
                · (repeat' (first | with_reducible exact hM | with_reducible exact hMp | with_reducible apply Mem.drew | with_reducible apply Mem.drewN | with_reducible apply Mem.alloc | with_reducible apply Mem.set | with_reducible exact Sto.row | ((with_reducible refine Sto.rowEq2 ?_ ?_); omega; rfl) | ((with_reducible refine Sto.rowEq ?_); omega) | with_reducible apply Sto.int | with_reducible apply Sto.there | with_reducible assumption | (unfold I64; omega) | (with_reducible (have hMx := Mem.undrew hM; exact hMx)) | (with_reducible (have hMx := Mem.undrew hMp; exact hMx))))
                clear hM
                intro wst hM
                (try simp only [World.size_alloc, World.size_setCell, World.heap_drewN, heapDrew, Nat.add_assoc, Nat.reduceAdd, List.setIfInBounds_toArray, List.set_cons_zero, List.set_cons_succ, List.cons_append, List.nil_append] at hM)
                replace hM := hM.tail
                go_wp2
                go_roundw
                case rel => exact ⟨k + 1, by omega, by go_num, by (repeat' (first | with_reducible exact hM | with_reducible exact hMp | with_reducible apply Mem.drew | with_reducible apply Mem.drewN | with_reducible apply Mem.alloc | with_reducible apply Mem.set | with_reducible exact Sto.row | ((with_reducible refine Sto.rowEq2 ?_ ?_); omega; rfl) | ((with_reducible refine Sto.rowEq ?_); omega) | with_reducible apply Sto.int | with_reducible apply Sto.there | with_reducible assumption | (unfold I64; omega) | (with_reducible (have hMx := Mem.undrew hM; exact hMx)) | (with_reducible (have hMx := Mem.undrew hMp; exact hMx))))⟩
                case measure => simp [intOf]; omega
            · obtain rfl : k = ys.length := by omega
              obtain ⟨k3, f3, l3⟩ := hM.row (.there (.there (.there .here)))
              go_wp2_with fail
              go_meet
              exact hM.sub (by simp)
      case rest =>
        as_aux_lemma =>
          clear hM HQ1 hbb1 hbu e0 e1 s0 s1 q0 q1
          have hM := hcut
          clear hcut
          go_wp2_with fail
          apply Mem.atA
          · (repeat' (first | with_reducible exact hM | with_reducible exact hMp | with_reducible apply Mem.drew | with_reducible apply Mem.drewN | with_reducible apply Mem.alloc | with_reducible apply Mem.set | with_reducible exact Sto.row | ((with_reducible refine Sto.rowEq2 ?_ ?_); omega; rfl) | ((with_reducible refine Sto.rowEq ?_); omega) | with_reducible apply Sto.int | with_reducible apply Sto.there | with_reducible assumption | (unfold I64; omega) | (with_reducible (have hMx := Mem.undrew hM; exact hMx)) | (with_reducible (have hMx := Mem.undrew hMp; exact hMx))))
          clear hM
          intro wst hM
          (try simp only [World.size_alloc, World.size_setCell, World.heap_drewN, heapDrew, Nat.add_assoc, Nat.reduceAdd, List.setIfInBounds_toArray, List.set_cons_zero, List.set_cons_succ, List.cons_append, List.nil_append] at hM)
          refine (drawSmk_settle (HC.out.ext hM.below)).mono ?_
          rintro e w8 ⟨W3, H3, a8, c8, vs, p, hS, hp, rfl, hm⟩
          replace hM := hM.join hm
          clear hm
          (try simp only [World.size_alloc, World.size_setCell, World.heap_drewN, heapDrew, Nat.add_assoc, Nat.reduceAdd, List.setIfInBounds_toArray, List.set_cons_zero, List.set_cons_succ, List.cons_append, List.nil_append] at hM)
          clear hS
          have hpI : I64 p := by unfold I64; omega
          obtain ⟨⟨⟨gW, gH, zs⟩, u, v1⟩, hq2⟩ : ∃ r, settleR W3 H3 vs p = r := ⟨_, rfl⟩
          have HQ2 := Lib.hid hq2; clear hq2
          have hbb1 : (v1 != v1) = false := by cases v1 <;> rfl
          have hbu : (u != u) = false := by simp
          go_wp2_with fail
          apply Mem.atA
          · (repeat' (first | with_reducible exact hM | with_reducible exact hMp | with_reducible apply Mem.drew | with_reducible apply Mem.drewN | with_reducible apply Mem.alloc | with_reducible apply Mem.set | with_reducible exact Sto.row | ((with_reducible refine Sto.rowEq2 ?_ ?_); omega; rfl) | ((with_reducible refine Sto.rowEq ?_); omega) | with_reducible apply Sto.int | with_reducible apply Sto.there | with_reducible assumption | (unfold I64; omega) | (with_reducible (have hMx := Mem.undrew hM; exact hMx)) | (with_reducible (have hMx := Mem.undrew hMp; exact hMx))))
          clear hM
          intro wst hM
          (try simp only [World.size_alloc, World.size_setCell, World.heap_drewN, heapDrew, Nat.add_assoc, Nat.reduceAdd, List.setIfInBounds_toArray, List.set_cons_zero, List.set_cons_succ, List.cons_append, List.nil_append] at hM)
          refine (implSettle_any W3 H3 _ _ _ vs p _ (hM.intsR (.there .here)) hpI).mono ?_
          rw [HQ2.out]
          rintro e w9 ⟨a9, n9, c9, rfl, hO, hb⟩
          replace hM := hM.own hb hO
          clear hb hO
          dsimp only at hM ⊢
          obtain ⟨k1, f1, l1⟩ := hM.row (.there .here)
          go_wp2_with fail
          clear k1 f1 l1
          apply Mem.atA
          · (repeat' (first | with_reducible exact hM | with_reducible exact hMp | with_reducible apply Mem.drew | with_reducible apply Mem.drewN | with_reducible apply Mem.alloc | with_reducible apply Mem.set | with_reducible exact Sto.row | ((with_reducible refine Sto.rowEq2 ?_ ?_); omega; rfl) | ((with_reducible refine Sto.rowEq ?_); omega) | with_reducible apply Sto.int | with_reducible apply Sto.there | with_reducible assumption | (unfold I64; omega) | (with_reducible (have hMx := Mem.undrew hM; exact hMx)) | (with_reducible (have hMx := Mem.undrew hMp; exact hMx))))
          clear hM
          intro wst hM
          (try simp only [World.size_alloc, World.size_setCell, World.heap_drewN, heapDrew, Nat.add_assoc, Nat.reduceAdd, List.setIfInBounds_toArray, List.set_cons_zero, List.set_cons_succ, List.cons_append, List.nil_append] at hM)
          refine (specSettle_any W3 H3 _ _ _ vs p _ (hM.intsR (.there (.there (.there .here)))) hpI).mono ?_
          rw [HQ2.out]
          rintro e w10 ⟨a10, n10, c10, rfl, hO, hb⟩
          replace hM := hM.own hb hO
          clear hb hO
          dsimp only at hM ⊢
          obtain ⟨k1, f1, l1⟩ := hM.row (.there .here)
          go_wp2_with fail
          clear k1 f1 l1
          apply Mem.atA
          · (repeat' (first | with_reducible exact hM | with_reducible exact hMp | with_reducible apply Mem.drew | with_reducible apply Mem.drewN | with_reducible apply Mem.alloc | with_reducible apply Mem.set | with_reducible exact Sto.row | ((with_reducible refine Sto.rowEq2 ?_ ?_); omega; rfl) | ((with_reducible refine Sto.rowEq ?_); omega) | with_reducible apply Sto.int | with_reducible apply Sto.there | with_reducible assumption | (unfold I64; omega) | (with_reducible (have hMx := Mem.undrew hM; exact hMx)) | (with_reducible (have hMx := Mem.undrew hMp; exact hMx))))
          clear hM
          intro wst hM
          (try simp only [World.size_alloc, World.size_setCell, World.heap_drewN, heapDrew, Nat.add_assoc, Nat.reduceAdd, List.setIfInBounds_toArray, List.set_cons_zero, List.set_cons_succ, List.cons_append, List.nil_append] at hM)
          refine (vSmoke_same gW gH _ _ _ zs _ _ _ _ (hM.intsR (.there (.there (.there .here)))) (hM.intsR (.there .here))).mono ?_
          rintro e wc15 ⟨rfl, hb⟩
          replace hM := hM.ext hb
          clear hb
          go_upto_if 229 with fail
          go_cut [] (fun wx => Mem w.heap.size w wx [])
          case first =>
            as_aux_lemma =>
              cases v1
              · go_wp2_with fail
                go_meet
                exact hM.sub (by simp)
              obtain ⟨hg1, e1, e2, hg2, hsum, hu0⟩ := settleR_ok HQ2.out
              dsimp only at e1 e2 hg2 hsum
              subst e1 e2
              have hb1 := sum_bound (good_all hg2)
              have hl1 := good_len25 hg2
              have HT1 := Lib.hid (show totR gW gH vs = (vs.sum, true) by rw [totR, hg1]; rfl)
              have HT2 := Lib.hid (show totR gW gH zs = (zs.sum, true) by rw [totR, hg2]; rfl)
              clear HQ2 hg1 hg2 hbb1
              have hb0 := hl250 hb1 hl1
              clear hb1 hl1
              have hb3 := (tot_le HT1.out).2
              generalize vs.sum = T at hsum HT1 hb3
              generalize zs.sum = S at hsum HT2 hb0
              have hwT : IntKind.i64.wrap (S + u) = T := by rw [wrap_in (by omega)]; omega
              have hTT : (T != T) = false := by simp
              clear hsum
              obtain ⟨k4, f4, l4⟩ := hM.row (.there (.there (.there (.there .here))))
              go_wp2_with fail
              clear k4 f4 l4
              apply Mem.atA
              · (repeat' (first | with_reducible exact hM | with_reducible exact hMp | with_reducible apply Mem.drew | with_reducible apply Mem.drewN | with_reducible apply Mem.alloc | with_reducible apply Mem.set | with_reducible exact Sto.row | ((with_reducible refine Sto.rowEq2 ?_ ?_); omega; rfl) | ((with_reducible refine Sto.rowEq ?_); omega) | with_reducible apply Sto.int | with_reducible apply Sto.there | with_reducible assumption | (unfold I64; omega) | (with_reducible (have hMx := Mem.undrew hM; exact hMx)) | (with_reducible (have hMx := Mem.undrew hMp; exact hMx))))
              clear hM
              intro wst hM
              (try simp only [World.size_alloc, World.size_setCell, World.heap_drewN, heapDrew, Nat.add_assoc, Nat.reduceAdd, List.setIfInBounds_toArray, List.set_cons_zero, List.set_cons_succ, List.cons_append, List.nil_append] at hM)
              refine (implTotal_any _ _ _ _ _ vs _ (hM.intsR (.there (.there (.there (.there (.there .here))))))).mono ?_
              rw [HT1.out]
              rintro e wc16 ⟨rfl, hb⟩
              replace hM := hM.ext hb
              clear hb
              dsimp only
              obtain ⟨k2, f2, l2⟩ := hM.row (.there (.there .here))
              go_wp2_with fail
              clear k2 f2 l2
              apply Mem.atA
              · (repeat' (first | with_reducible exact hM | with_reducible exact hMp | with_reducible apply Mem.drew | with_reducible apply Mem.drewN | with_reducible apply Mem.alloc | with_reducible apply Mem.set | with_reducible exact Sto.row | ((with_reducible refine Sto.rowEq2 ?_ ?_); omega; rfl) | ((with_reducible refine Sto.rowEq ?_); omega) | with_reducible apply Sto.int | with_reducible apply Sto.there | with_reducible assumption | (unfold I64; omega) | (with_reducible (have hMx := Mem.undrew hM; exact hMx)) | (with_reducible (have hMx := Mem.undrew hMp; exact hMx))))
              clear hM
              intro wst hM
              (try simp only [World.size_alloc, World.size_setCell, World.heap_drewN, heapDrew, Nat.add_assoc, Nat.reduceAdd, List.setIfInBounds_toArray, List.set_cons_zero, List.set_cons_succ, List.cons_append, List.nil_append] at hM)
              refine (implTotal_any _ _ _ _ _ zs _ (hM.intsR (.there (.there (.there .here))))).mono ?_
              rw [HT2.out]
              rintro e wc17 ⟨rfl, hb⟩
              replace hM := hM.ext hb
              clear hb
              dsimp only
              go_wp2_with fail
              go_meet
              exact hM.sub (by simp)
          case rest =>
            as_aux_lemma =>
              clear hM HQ2 hbb1 hbu hpI hp
              have hM := hcut
              clear hcut
              go_wp2_with fail
              apply Mem.atA
              · (repeat' (first | with_reducible exact hM | with_reducible exact hMp | with_reducible apply Mem.drew | with_reducible apply Mem.drewN | with_reducible apply Mem.alloc | with_reducible apply Mem.set | with_reducible exact Sto.row | ((with_reducible refine Sto.rowEq2 ?_ ?_); omega; rfl) | ((with_reducible refine Sto.rowEq ?_); omega) | with_reducible apply Sto.int | with_reducible apply Sto.there | with_reducible assumption | (unfold I64; omega) | (with_reducible (have hMx := Mem.undrew hM; exact hMx)) | (with_reducible (have hMx := Mem.undrew hMp; exact hMx))))
              clear hM
              intro wst hM
              (try simp only [World.size_alloc, World.size_setCell, World.heap_drewN, heapDrew, Nat.add_assoc, Nat.reduceAdd, List.setIfInBounds_toArray, List.set_cons_zero, List.set_cons_succ, List.cons_append, List.nil_append] at hM)
              refine (drawSmk_total (HC.out.ext hM.below)).mono ?_
              rintro e w11 ⟨W4, H4, a11, c11, us, hS, rfl, hm⟩
              replace hM := hM.join hm
              clear hm
              (try simp only [World.size_alloc, World.size_setCell, World.heap_drewN, heapDrew, Nat.add_assoc, Nat.reduceAdd, List.setIfInBounds_toArray, List.set_cons_zero, List.set_cons_succ, List.cons_append, List.nil_append] at hM)
              clear hS
              obtain ⟨⟨T, b⟩, hq3⟩ : ∃ r, totR W4 H4 us = r := ⟨_, rfl⟩
              have HQ3 := Lib.hid hq3; clear hq3
              have hTT : (T == T) = true := by simp
              have hbb : (b == b) = true := by cases b <;> rfl
              go_wp2_with fail
              apply Mem.atA
              · (repeat' (first | with_reducible exact hM | with_reducible exact hMp | with_reducible apply Mem.drew | with_reducible apply Mem.drewN | with_reducible apply Mem.alloc | with_reducible apply Mem.set | with_reducible exact Sto.row | ((with_reducible refine Sto.rowEq2 ?_ ?_); omega; rfl) | ((with_reducible refine Sto.rowEq ?_); omega) | with_reducible apply Sto.int | with_reducible apply Sto.there | with_reducible assumption | (unfold I64; omega) | (with_reducible (have hMx := Mem.undrew hM; exact hMx)) | (with_reducible (have hMx := Mem.undrew hMp; exact hMx))))
              clear hM
              intro wst hM
              (try simp only [World.size_alloc, World.size_setCell, World.heap_drewN, heapDrew, Nat.add_assoc, Nat.reduceAdd, List.setIfInBounds_toArray, List.set_cons_zero, List.set_cons_succ, List.cons_append, List.nil_append] at hM)
              refine (implTotal_any _ _ _ _ _ us _ (hM.intsR (.there .here))).mono ?_
              rw [HQ3.out]
              rintro e wc19 ⟨rfl, hb⟩
              replace hM := hM.ext hb
              clear hb
              dsimp only
              obtain ⟨k0, f0, l0⟩ := hM.row .here
              go_wp2_with fail
              clear k0 f0 l0
              apply Mem.atA
              · (repeat' (first | with_reducible exact hM | with_reducible exact hMp | with_reducible apply Mem.drew | with_reducible apply Mem.drewN | with_reducible apply Mem.alloc | with_reducible apply Mem.set | with_reducible exact Sto.row | ((with_reducible refine Sto.rowEq2 ?_ ?_); omega; rfl) | ((with_reducible refine Sto.rowEq ?_); omega) | with_reducible apply Sto.int | with_reducible apply Sto.there | with_reducible assumption | (unfold I64; omega) | (with_reducible (have hMx := Mem.undrew hM; exact hMx)) | (with_reducible (have hMx := Mem.undrew hMp; exact hMx))))
              clear hM
              intro wst hM
              (try simp only [World.size_alloc, World.size_setCell, World.heap_drewN, heapDrew, Nat.add_assoc, Nat.reduceAdd, List.setIfInBounds_toArray, List.set_cons_zero, List.set_cons_succ, List.cons_append, List.nil_append] at hM)
              refine (specTotal_any _ _ _ _ _ us _ (hM.intsR (.there .here))).mono ?_
              rw [HQ3.out]
              rintro e wc20 ⟨rfl, hb⟩
              replace hM := hM.ext hb
              clear hb
              dsimp only
              go_wp2
              go_ret
              exact ⟨rfl, (by apply Mem.below; (repeat' (first | with_reducible exact hM | with_reducible exact hMp | with_reducible apply Mem.drew | with_reducible apply Mem.drewN | with_reducible apply Mem.alloc | with_reducible apply Mem.set | with_reducible exact Sto.row | ((with_reducible refine Sto.rowEq2 ?_ ?_); omega; rfl) | ((with_reducible refine Sto.rowEq ?_); omega) | with_reducible apply Sto.int | with_reducible apply Sto.there | with_reducible assumption | (unfold I64; omega) | (with_reducible (have hMx := Mem.undrew hM; exact hMx)) | (with_reducible (have hMx := Mem.undrew hMp; exact hMx)))))⟩
end Go.Proofs.Ytdhgkfmehegeoaa
