/-
  Incidents: copies, what burns, what is threatened.
-/
import Derived.Test.YtojfbcgfeojdfaaNNewInc
import Derived.Test.YtojfbcgfeojdfaaNMir
import Derived.Test.YtojfbcgfeojdfaaNMkr
import Derived.Test.YtojfbcgfeojdfaaNReach
import Derived.Test.YtojfbcgfeojdfaaNQueue
import Derived.Test.YtojfbcgfeojdfaaNFlood
import Derived.Test.YtojfbcgfeojdfaaNClear
import Derived.Deep.LoopGhost
import Derived.Deep.DeepCutAuto
/-
  Incidents: copies, what burns, what is threatened.
-/
namespace Go.Proofs.Ytojfbcgfeojdfaa
set_option linter.unusedSimpArgs false
set_option linter.unusedVariables false
open Go.RowKit

set_option maxRecDepth 100000 in
set_option maxHeartbeats 30000000 in
theorem l21Own_any (W Hn : Nat) (a : Option Addr) (n c : Nat) (xs : List Int) (af : Option Addr) (cf : Nat) (fs : List Int) (aw : Option Addr) (cw : Nat) (ws : List Int) (t : Int) (w : World) (h : Ints w a n c xs) (hf : Ints w af n cf fs) (hw : Ints w aw n cw ws) (hnp : 0 < n) (hn25 : n ≤ 25) :
    Calls Try.prog 39 #[.agg #[.int .i64 W, .int .i64 Hn, .slice a n c, .slice af n cf, .slice aw n cw, .int .i64 t]] w (fun e w' => ∃ b1 d1 b2 d2 b3 d3, e = .returned (.agg #[.int .i64 W, .int .i64 Hn, .slice b1 n d1, .slice b2 n d2, .slice b3 n d3, .int .i64 (t)]) ∧ Mem w.heap.size w w' [intE b1 n d1 (xs), intE b2 n d2 (fs), intE b3 n d3 (ws)]) := by
  have hM := Mem.start w
  go_enter Try.func39, Try.ntmps39
  go_wp2_with fail
  apply Mem.atWpA
  · (repeat' (first | with_reducible exact hM | with_reducible exact hMp | with_reducible apply Mem.drew | with_reducible apply Mem.drewN | with_reducible apply Mem.alloc | with_reducible apply Mem.set | with_reducible exact Sto.row | ((with_reducible refine Sto.rowEq2 ?_ ?_); omega; rfl) | ((with_reducible refine Sto.rowEq ?_); omega) | with_reducible apply Sto.int | with_reducible apply Sto.there | with_reducible assumption | (unfold I64; omega) | (with_reducible (have hMx := Mem.undrew hM; exact hMx)) | (with_reducible (have hMx := Mem.undrew hMp; exact hMx))))
  clear hM
  intro wst hM
  (try simp only [World.size_alloc, World.size_setCell, World.heap_drewN, heapDrew, Nat.add_assoc, Nat.reduceAdd, List.setIfInBounds_toArray, List.set_cons_zero, List.set_cons_succ, List.cons_append, List.nil_append] at hM)
  refine AtT.startA hM hM 13 (by kernel_rfl) ?_
  clear hM
  intro wd hM
  have hS := hM
  refine AtT.taked (i := 0) (v := ?_) (some 3) rfl rfl (by kernel_rfl) (by kernel_rfl) (by kernel_rfl) (by kernel_rfl) (fun _ _ _ h => h) (Or.inl ⟨by kernel_rfl, ?_⟩) hS ?_
  rotate_left
  · (intro wS hSw; (try dsimp only at hSw); go_simp; (try rw [if_neg (by omega)]); try with_reducible rfl)
  simp only [Act.put, List.setIfInBounds_toArray, List.set_cons_zero, List.set_cons_succ]
  refine AtT.taked (i := 1) (v := ?_) (some 4) rfl rfl (by kernel_rfl) (by kernel_rfl) (by kernel_rfl) (by kernel_rfl) (fun _ _ _ h => h) (Or.inl ⟨by kernel_rfl, ?_⟩) hS ?_
  rotate_left
  · (intro wS hSw; (try dsimp only at hSw); have kr0 := (Mem.row hSw .here).cell; have kr1 := (Mem.row hSw (.there .here)).cell; go_simp; (try rw [if_neg (by omega)]); try with_reducible rfl)
  simp only [Act.put, List.setIfInBounds_toArray, List.set_cons_zero, List.set_cons_succ]
  refine AtT.taked (i := 4) (v := ?_) (some 7) rfl rfl (by kernel_rfl) (by kernel_rfl) (by kernel_rfl) (by kernel_rfl) (fun _ _ _ h => h) (Or.inl ⟨by kernel_rfl, ?_⟩) hS ?_
  rotate_left
  · (intro wS hSw; (try dsimp only at hSw); go_simp; (try rw [if_neg (by omega)]); try with_reducible rfl)
  simp only [Act.put, List.setIfInBounds_toArray, List.set_cons_zero, List.set_cons_succ]
  refine AtT.taked (i := 5) (v := ?_) (some 8) rfl rfl (by kernel_rfl) (by kernel_rfl) (by kernel_rfl) (by kernel_rfl) (fun _ _ _ h => h) (Or.inl ⟨by kernel_rfl, ?_⟩) hS ?_
  rotate_left
  · (intro wS hSw; (try dsimp only at hSw); have kr0 := (Mem.row hSw .here).cell; have kr1 := (Mem.row hSw (.there .here)).cell; go_simp; (try rw [if_neg (by omega)]); try with_reducible rfl)
  simp only [Act.put, List.setIfInBounds_toArray, List.set_cons_zero, List.set_cons_succ]
  refine AtT.taked (i := 7) (v := ?_) (some 10) rfl rfl (by kernel_rfl) (by kernel_rfl) (by kernel_rfl) (by kernel_rfl) (fun _ _ _ h => h) (Or.inl ⟨by kernel_rfl, ?_⟩) hS ?_
  rotate_left
  · (intro wS hSw; (try dsimp only at hSw); go_simp; (try rw [if_neg (by omega)]); try with_reducible rfl)
  simp only [Act.put, List.setIfInBounds_toArray, List.set_cons_zero, List.set_cons_succ]
  refine AtT.taked (i := 8) (v := ?_) (some 11) rfl rfl (by kernel_rfl) (by kernel_rfl) (by kernel_rfl) (by kernel_rfl) (fun _ _ _ h => h) (Or.inl ⟨by kernel_rfl, ?_⟩) hS ?_
  rotate_left
  · (intro wS hSw; (try dsimp only at hSw); have kr0 := (Mem.row hSw .here).cell; have kr1 := (Mem.row hSw (.there .here)).cell; go_simp; (try rw [if_neg (by omega)]); try with_reducible rfl)
  simp only [Act.put, List.setIfInBounds_toArray, List.set_cons_zero, List.set_cons_succ]
  refine AtT.taked (i := 10) (v := ?_) (some 13) rfl rfl (by kernel_rfl) (by kernel_rfl) (by kernel_rfl) (by kernel_rfl) (fun _ _ _ h => h) (Or.inl ⟨by kernel_rfl, ?_⟩) hS ?_
  rotate_left
  · (intro wS hSw; (try dsimp only at hSw); go_simp; (try rw [if_neg (by omega)]); try with_reducible rfl)
  simp only [Act.put, List.setIfInBounds_toArray, List.set_cons_zero, List.set_cons_succ]
  refine AtT.taked (i := 11) (v := ?_) (some 14) rfl rfl (by kernel_rfl) (by kernel_rfl) (by kernel_rfl) (by kernel_rfl) (fun _ _ _ h => h) (Or.inl ⟨by kernel_rfl, ?_⟩) hS ?_
  rotate_left
  · (intro wS hSw; (try dsimp only at hSw); have kr0 := (Mem.row hSw .here).cell; have kr1 := (Mem.row hSw (.there .here)).cell; go_simp; (try rw [if_neg (by omega)]); try with_reducible rfl)
  simp only [Act.put, List.setIfInBounds_toArray, List.set_cons_zero, List.set_cons_succ]
  refine AtT.makers (fun i pv => if i = 2 then REmpty else if i = 3 then RTerr W Hn n xs else if i = 6 then RInts n fs else if i = 9 then RInts n ws else fun _ _ => False) 4 [2, 3, 6, 9] [] (fun i => if i = 2 then some 5 else if i = 3 then some 6 else if i = 6 then some 9 else if i = 9 then some 12 else none) (fun i => if i = 3 then [2] else []) rfl (by kernel_rfl) hM ⟨?_, ?_, ?_, ?_, trivial⟩ ?_
  · skip
    clear hM
    refine SpecAt.intro rfl ?_
    intro ρ hρ w2 G1 hM K Q hK
    clear hρ
    simp only [puts, Nat.reduceEqDiff, if_true, if_false, reduceIte, Act.put, List.setIfInBounds_toArray, List.set_cons_zero, List.set_cons_succ]
    simp only [puts, Nat.reduceEqDiff, if_true, if_false, reduceIte, Act.put, List.setIfInBounds_toArray, List.set_cons_zero, List.set_cons_succ, flat, List.flatMap_cons, List.flatMap_nil, List.nil_append, List.cons_append, List.append_nil] at hK
    simp only [flat, List.flatMap_cons, List.flatMap_nil, List.nil_append, List.cons_append, List.append_nil, Nat.reduceEqDiff, if_true, if_false, reduceIte] at hM
    go_simp
    exact hK.out _ _ _ ⟨_, rfl, rfl⟩ hM.empty
  · skip
    clear hM
    refine SpecAt.intro rfl ?_
    intro ρ hρ w2 G1 hM K Q hK
    have h2 : (REmpty) (ρ 2).1 (ρ 2).2 := hρ 2 (by decide)
    obtain ⟨b1, v2, E2⟩ := h2
    clear hρ
    simp only [puts, Nat.reduceEqDiff, if_true, if_false, reduceIte, Act.put, List.setIfInBounds_toArray, List.set_cons_zero, List.set_cons_succ, v2]
    simp only [puts, Nat.reduceEqDiff, if_true, if_false, reduceIte, Act.put, List.setIfInBounds_toArray, List.set_cons_zero, List.set_cons_succ, flat, List.flatMap_cons, List.flatMap_nil, List.nil_append, List.cons_append, List.append_nil, v2, E2] at hK
    simp only [flat, List.flatMap_cons, List.flatMap_nil, List.nil_append, List.cons_append, List.append_nil, E2, Nat.reduceEqDiff, if_true, if_false, reduceIte] at hM
    try clear v2
    go_simp
    refine (l2Clear_any W Hn a n c xs _ 0 0 [] _ (h.ext hM.below) (hM.ints .here).ints hnp hn25 rfl).mono ?_
    rintro e w3 ⟨a2, c2, rfl, hO, hb⟩
    rw [show clrL xs [] = xs from rfl] at hO
    exact hK.out _ _ _ ⟨_, _, rfl, rfl⟩ (hM.own hb hO)
  · skip
    clear hM
    refine SpecAt.intro rfl ?_
    intro ρ hρ w2 G1 hM K Q hK
    clear hρ
    simp only [puts, Nat.reduceEqDiff, if_true, if_false, reduceIte, Act.put, List.setIfInBounds_toArray, List.set_cons_zero, List.set_cons_succ]
    simp only [puts, Nat.reduceEqDiff, if_true, if_false, reduceIte, Act.put, List.setIfInBounds_toArray, List.set_cons_zero, List.set_cons_succ, flat, List.flatMap_cons, List.flatMap_nil, List.nil_append, List.cons_append, List.append_nil] at hK
    simp only [flat, List.flatMap_cons, List.flatMap_nil, List.nil_append, List.cons_append, List.append_nil, Nat.reduceEqDiff, if_true, if_false, reduceIte] at hM
    go_simp
    refine (l1Own_any af n cf fs _ (hf.ext hM.below)).mono ?_
    rintro e w3 ⟨a2, c2, rfl, hO, hb⟩
    exact hK.out _ _ _ ⟨_, _, rfl, rfl⟩ (hM.own hb hO)
  · skip
    clear hM
    refine SpecAt.intro rfl ?_
    intro ρ hρ w2 G1 hM K Q hK
    clear hρ
    simp only [puts, Nat.reduceEqDiff, if_true, if_false, reduceIte, Act.put, List.setIfInBounds_toArray, List.set_cons_zero, List.set_cons_succ]
    simp only [puts, Nat.reduceEqDiff, if_true, if_false, reduceIte, Act.put, List.setIfInBounds_toArray, List.set_cons_zero, List.set_cons_succ, flat, List.flatMap_cons, List.flatMap_nil, List.nil_append, List.cons_append, List.append_nil] at hK
    simp only [flat, List.flatMap_cons, List.flatMap_nil, List.nil_append, List.cons_append, List.append_nil, Nat.reduceEqDiff, if_true, if_false, reduceIte] at hM
    go_simp
    refine (l1Own_any aw n cw ws _ (hw.ext hM.below)).mono ?_
    rintro e w3 ⟨a2, c2, rfl, hO, hb⟩
    exact hK.out _ _ _ ⟨_, _, rfl, rfl⟩ (hM.own hb hO)
  clear hM hS
  intro ρ hρ wm hM
  have hS := hM.sub (List.sublist_append_right _ _)
  have h2 : (REmpty) (ρ 2).1 (ρ 2).2 := hρ 2 (by decide)
  obtain ⟨b1, v2, E2⟩ := h2
  have h3 : (RTerr W Hn n xs) (ρ 3).1 (ρ 3).2 := hρ 3 (by decide)
  obtain ⟨a2, c2, v3, E3⟩ := h3
  have h6 : (RInts n fs) (ρ 6).1 (ρ 6).2 := hρ 6 (by decide)
  obtain ⟨a3, c3, v6, E6⟩ := h6
  have h9 : (RInts n ws) (ρ 9).1 (ρ 9).2 := hρ 9 (by decide)
  obtain ⟨a4, c4, v9, E9⟩ := h9
  clear hρ
  simp only [sets, puts, Nat.reduceEqDiff, if_true, if_false, reduceIte, Act.put, List.setIfInBounds_toArray, List.set_cons_zero, List.set_cons_succ, v2, v3, v6, v9]
  simp only [flat, List.flatMap_cons, List.flatMap_nil, List.nil_append, List.cons_append, List.append_nil, E2, E3, E6, E9] at hM
  clear v2 E2 v3 E3 v6 E6 v9 E9
  refine AtT.taked (i := 12) (v := ?_) (some 15) rfl rfl (by kernel_rfl) (by kernel_rfl) (by kernel_rfl) (by kernel_rfl) (fun _ _ _ h => h) (Or.inl ⟨by kernel_rfl, ?_⟩) hS ?_
  rotate_left
  · (intro wS hSw; (try dsimp only at hSw); go_simp; (try rw [if_neg (by omega)]); try with_reducible rfl)
  simp only [Act.put, List.setIfInBounds_toArray, List.set_cons_zero, List.set_cons_succ]
  refine AtT.last (by kernel_rfl) rfl (by kernel_rfl) ?_
  intro K hK
  clear hS
  have kk4 := (hM.row (.there (.there (.there (.there .here))))).cell
  have ff4 := (hM.row (.there (.there (.there (.there .here))))).free
  have ll4 := (hM.row (.there (.there (.there (.there .here))))).lt
  have kk5 := (hM.row (.there (.there (.there (.there (.there .here)))))).cell
  have ff5 := (hM.row (.there (.there (.there (.there (.there .here)))))).free
  have ll5 := (hM.row (.there (.there (.there (.there (.there .here)))))).lt
  go_simp
  clear kk4 ff4 ll4 kk5 ff5 ll5
  refine hK.out _ _ ?_
  clear hK K
  obtain ⟨k4, f4, l4⟩ := hM.row (.there (.there (.there (.there .here))))
  go_wp2
  refine bodyPost_ret (v := .agg #[.int .i64 W, .int .i64 Hn, .slice a2 n c2, .slice a3 n c3, .slice a4 n c4, .int .i64 t]) (by simp [results, Try.results39, go_sem, k4]) rfl ⟨a2, c2, a3, c3, a4, c4, rfl, ?_⟩
  apply Mem.pick (is := [1, 2, 3])
  · (repeat' (first | with_reducible exact hM | with_reducible exact hMp | with_reducible apply Mem.drew | with_reducible apply Mem.drewN | with_reducible apply Mem.alloc | with_reducible apply Mem.set | with_reducible exact Sto.row | ((with_reducible refine Sto.rowEq2 ?_ ?_); omega; rfl) | ((with_reducible refine Sto.rowEq ?_); omega) | with_reducible apply Sto.int | with_reducible apply Sto.there | with_reducible assumption | (unfold I64; omega) | (with_reducible (have hMx := Mem.undrew hM; exact hMx)) | (with_reducible (have hMx := Mem.undrew hMp; exact hMx))))
  · decide
  · rfl

end Go.Proofs.Ytojfbcgfeojdfaa
