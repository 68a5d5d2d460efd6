/-
  The reference's draws of terrains and of their cells.
-/
import Derived.Test.YtpoabdmapbdmfaaDoorTDrawSmk
import Derived.Test.YtpoabdmapbdmfaaDoorTPutV
import Derived.Test.YtpoabdmapbdmfaaDoorTRegF
/-
  The reference's draws of terrains and of their cells.
-/
namespace Go.Proofs.YtpoabdmapbdmfaaDoor
set_option linter.unusedSimpArgs false
set_option linter.unusedVariables false
open Go.RowKit

/-- what a place leaves aside, as one -/
theorem At.head {G : List Ent} {e : Ent} {F : Ent → List Ent} (p : At G e F) : ∃ R, ∀ (B : Nat) (w0 w : World) (X : List Ent) (e1 : Ent), Mem B w0 w (X ++ F e1) ↔ Mem B w0 w (X ++ [e1, packE R]) := by
  obtain ⟨G1, G2, rfl, h2⟩ := p
  refine ⟨G1 ++ G2, fun B w0 w X e1 => ?_⟩
  rw [h2]
  have hp : (X ++ (G1 ++ e1 :: G2)).Perm ((X ++ [e1]) ++ (G1 ++ G2 ++ [])) := by
    rw [List.append_nil, List.append_assoc]
    exact (List.perm_middle (l₁ := G1) (a := e1) (l₂ := G2)).append_left X
  constructor
  · intro h
    have h1 := Mem.packAt (X ++ [e1]) (G := G1 ++ G2) (Y := []) (h.perm hp)
    simpa using h1
  · intro h
    have h1 : Mem B w0 w ((X ++ [e1]) ++ packE (G1 ++ G2) :: []) := by simpa using h
    exact (Mem.unpackAt (X ++ [e1]) h1).perm hp.symm
set_option maxRecDepth 100000 in
set_option maxHeartbeats 8000000 in
theorem terrain_any {g : Nat} {ac : Option Addr} {nc cc : Nat} {l : List UInt8} {A : Nat} {w0 w : World} {G : List Ent} {F : Ent → List Ent} (hC : Rd FByt w0 ac nc cc l) (hM : Mem w0.heap.size w0 w G) (p : At G (curE g ac nc cc A) F) (hA : A ≤ 10000000) :
    Calls Tryd.prog 78 #[.pointer (some ⟨g, 0, none⟩)] w fun e w' => ∃ (Wn Hn : Nat) (a' : Option Addr) (c' : Nat) (xs : List Int), (1 ≤ Wn ∧ Wn ≤ 5) ∧ (1 ≤ Hn ∧ Hn ≤ 5) ∧ (xs.length = Wn * Hn ∧ 1 ≤ xs.length ∧ xs.length ≤ 25) ∧ allB 0 20 xs ∧ e = .returned (.agg #[.int .i64 Wn, .int .i64 Hn, .slice a' xs.length c']) ∧ Mem w0.heap.size w0 w' (intE a' xs.length c' xs :: F (curE g ac nc cc (A + 60))) := by
  have HP := Lib.hid p
  have HC := Lib.hid hC
  clear p hC
  go_enter Tryd.func78, Tryd.ntmps78
  go_wp2_with fail
  apply Mem.atA
  · (repeat' (first | with_reducible exact hM | with_reducible exact hMp | with_reducible apply Mem.drew | with_reducible apply Mem.drewN | with_reducible apply Mem.alloc | with_reducible apply Mem.set | with_reducible exact Sto.row | ((with_reducible refine Sto.rowEq2 ?_ ?_); omega; rfl) | ((with_reducible refine Sto.rowEq ?_); omega) | with_reducible apply Sto.int | with_reducible apply Sto.there | with_reducible assumption | (unfold I64; omega) | (with_reducible (have hMx := Mem.undrew hM; exact hMx)) | (with_reducible (have hMx := Mem.undrew hMp; exact hMx))))
  clear hM
  intro wst hM
  (try simp only [World.size_alloc, World.size_setCell, World.heap_drewN, heapDrew, Nat.add_assoc, Nat.reduceAdd, List.setIfInBounds_toArray, List.set_cons_zero, List.set_cons_succ, List.cons_append, List.nil_append] at hM)
  (first | refine (pick_any 5 HC.out hM (.there HP.out) (by omega)).mono ?_)
  rintro e wc1 ⟨r1, hr, hr2, rfl, hm⟩
  clear hM
  have hM := hm
  clear hm
  try dsimp only at hM
  have hr15 := pick_lt hr (by omega)
  clear hr hr2
  obtain ⟨Wn, hWn⟩ : ∃ Wn : Nat, Wn = 1 + r1 := ⟨_, rfl⟩
  have hw1 : IntKind.i64.wrap (1 + (r1 : Int)) = (Wn : Int) := by rw [wrap_in (by omega)]; omega
  have hW : 1 ≤ Wn ∧ Wn ≤ 5 := by omega
  clear hWn
  go_wp2_with fail
  apply Mem.atA
  · (repeat' (first | with_reducible exact hM | with_reducible exact hMp | with_reducible apply Mem.drew | with_reducible apply Mem.drewN | with_reducible apply Mem.alloc | with_reducible apply Mem.set | with_reducible exact Sto.row | ((with_reducible refine Sto.rowEq2 ?_ ?_); omega; rfl) | ((with_reducible refine Sto.rowEq ?_); omega) | with_reducible apply Sto.int | with_reducible apply Sto.there | with_reducible assumption | (unfold I64; omega) | (with_reducible (have hMx := Mem.undrew hM; exact hMx)) | (with_reducible (have hMx := Mem.undrew hMp; exact hMx))))
  clear hM
  intro wst hM
  (try simp only [World.size_alloc, World.size_setCell, World.heap_drewN, heapDrew, Nat.add_assoc, Nat.reduceAdd, List.setIfInBounds_toArray, List.set_cons_zero, List.set_cons_succ, List.cons_append, List.nil_append] at hM)
  (first | refine (pick_any 5 HC.out hM (.there (HP.out.again _)) (by omega)).mono ?_)
  rintro e wc2 ⟨r2, hr, hr2, rfl, hm⟩
  clear hM
  have hM := hm
  clear hm
  try dsimp only at hM
  have hr25 := pick_lt hr (by omega)
  clear hr hr2 hw1
  obtain ⟨Hn, hHn⟩ : ∃ Hn : Nat, Hn = 1 + r2 := ⟨_, rfl⟩
  have hw2 : IntKind.i64.wrap (1 + (r2 : Int)) = (Hn : Int) := by rw [wrap_in (by omega)]; omega
  have hH : 1 ≤ Hn ∧ Hn ≤ 5 := by omega
  clear hHn
  have hN25 := Nat.mul_le_25 hW.2 hH.2
  have hN1 : 1 ≤ Wn * Hn := Nat.mul_pos hW.1 hH.1
  have hmul : (Wn : Int) * (Hn : Int) = ((Wn * Hn : Nat) : Int) := by push_cast; rfl
  obtain ⟨N, hN⟩ : ∃ N, Wn * Hn = N := ⟨_, rfl⟩
  rw [hN] at hN25 hN1 hmul
  have HN := Lib.hid hN; clear hN
  have hwm : IntKind.i64.wrap ((Wn : Int) * (Hn : Int)) = (N : Int) := by rw [hmul, wrap_in (by omega)]
  clear hmul
  go_wp2_with fail
  clear hw2
  apply Mem.atWpA
  · (repeat' (first | with_reducible exact hM | with_reducible exact hMp | with_reducible apply Mem.drew | with_reducible apply Mem.drewN | with_reducible apply Mem.alloc | with_reducible apply Mem.set | with_reducible exact Sto.row | ((with_reducible refine Sto.rowEq2 ?_ ?_); omega; rfl) | ((with_reducible refine Sto.rowEq ?_); omega) | with_reducible apply Sto.int | with_reducible apply Sto.there | with_reducible assumption | (unfold I64; omega) | (with_reducible (have hMx := Mem.undrew hM; exact hMx)) | (with_reducible (have hMx := Mem.undrew hMp; exact hMx))))
  clear hM
  intro wst hM
  (try simp only [World.size_alloc, World.size_setCell, World.heap_drewN, heapDrew, Nat.add_assoc, Nat.reduceAdd, List.setIfInBounds_toArray, List.set_cons_zero, List.set_cons_succ, List.cons_append, List.nil_append] at hM)
  replace hM := (hM.swap).toInts (xs := []) .here rfl (by simp) (by simp)
  obtain ⟨bS, hbS⟩ : ∃ b, wc2.heap.size + 1 = b := ⟨_, rfl⟩
  rw [hbS] at hM ⊢
  have HBS := Lib.hid hbS; clear hbS
  go_loopw [4] (fun s4 wr => ∃ (k : Nat) (a' : Option Addr) (c' : Nat) (xs : List Int), s4 = .int .i64 k ∧ k ≤ N ∧ Hid (xs.length = k) ∧ Hid (allB 0 20 xs) ∧ Mem w0.heap.size w0 wr (intE a' k c' xs :: rowE bS 44 #[.int .i64 Wn, .int .i64 Hn, .slice a' k c'] :: rowE w.heap.size 44 #[.int .i64 0, .int .i64 0, .slice none 0 0] :: F (curE g ac nc cc (A + 4 + 2 * k)))) (fun s4 _ => N - (intOf s4).toNat)
  case atStart => exact ⟨0, _, _, [], rfl, Nat.zero_le _, Lib.hid rfl, Lib.hid (allB_nil _ _), hM⟩
  case round =>
    clear hM
    obtain ⟨k, a', c', xs, rfl, hk, HL, HX, hM⟩ := hrel
    obtain ⟨A2, hA2⟩ : ∃ A2, A + 4 + 2 * k = A2 := ⟨_, rfl⟩
    rw [hA2] at hM
    have hA3 : A2 ≤ 10000100 := by omega
    have HA2 := Lib.hid hA2; clear hA2
    by_cases hlt : k < N
    · skip
      obtain ⟨k1, f1, l1⟩ := hM.row (.there .here)
      go_upto_region 5 with fail
      clear k1 f1 l1
      apply Mem.atWpA
      · (repeat' (first | with_reducible exact hM | with_reducible exact hMp | with_reducible apply Mem.drew | with_reducible apply Mem.drewN | with_reducible apply Mem.alloc | with_reducible apply Mem.set | with_reducible exact Sto.row | ((with_reducible refine Sto.rowEq2 ?_ ?_); omega; rfl) | ((with_reducible refine Sto.rowEq ?_); omega) | with_reducible apply Sto.int | with_reducible apply Sto.there | with_reducible assumption | (unfold I64; omega) | (with_reducible (have hMx := Mem.undrew hM; exact hMx)) | (with_reducible (have hMx := Mem.undrew hMp; exact hMx))))
      clear hM
      intro wst hM
      (try simp only [World.size_alloc, World.size_setCell, World.heap_drewN, heapDrew, Nat.add_assoc, Nat.reduceAdd, List.setIfInBounds_toArray, List.set_cons_zero, List.set_cons_succ, List.cons_append, List.nil_append] at hM)
      replace hM := Mem.packEnd (G := F (curE g ac nc cc A2)) [intE a' k c' xs, rowE bS 44 #[.int .i64 Wn, .int .i64 Hn, .slice a' k c'], rowE w.heap.size 44 #[.int .i64 0, .int .i64 0, .slice none 0 0]] hM
      apply Mem.atWpA
      · (repeat' (first | with_reducible exact hM | with_reducible exact hMp | with_reducible apply Mem.drew | with_reducible apply Mem.drewN | with_reducible apply Mem.alloc | with_reducible apply Mem.set | with_reducible exact Sto.row | ((with_reducible refine Sto.rowEq2 ?_ ?_); omega; rfl) | ((with_reducible refine Sto.rowEq ?_); omega) | with_reducible apply Sto.int | with_reducible apply Sto.there | with_reducible assumption | (unfold I64; omega) | (with_reducible (have hMx := Mem.undrew hM; exact hMx)) | (with_reducible (have hMx := Mem.undrew hMp; exact hMx))))
      clear hM
      intro wst hM
      (try simp only [World.size_alloc, World.size_setCell, World.heap_drewN, heapDrew, Nat.add_assoc, Nat.reduceAdd, List.setIfInBounds_toArray, List.set_cons_zero, List.set_cons_succ, List.cons_append, List.nil_append] at hM)
      refine AtF.startA hM.tail.tail hM 8 (by kernel_rfl) ?_
      clear hM
      intro wd hM
      have hS := hM.tail.tail
      refine AtF.taked (i := 0) (v := ?_) (some 22) rfl rfl (by kernel_rfl) (by kernel_rfl) (by kernel_rfl) (anc_path [] _ _ (by kernel_rfl) (by kernel_rfl)) (fun _ _ _ h => h) (Or.inl ⟨by kernel_rfl, ?_⟩) hS rfl ?_
      rotate_left
      · (intro wS hSw; (try dsimp only at hSw); go_simp; (try rw [if_neg (by omega)]); try with_reducible rfl)
      simp only [Act.put, List.setIfInBounds_toArray, List.set_cons_zero, List.set_cons_succ]
      refine AtF.taked (i := 1) (v := ?_) (some 23) rfl rfl (by kernel_rfl) (by kernel_rfl) (by kernel_rfl) (anc_path [] _ _ (by kernel_rfl) (by kernel_rfl)) (fun _ _ _ h => h) (Or.inl ⟨by kernel_rfl, ?_⟩) hS rfl ?_
      rotate_left
      · (intro wS hSw; (try dsimp only at hSw); have kr0 := (Mem.row hSw .here).cell; go_simp; (try rw [if_neg (by omega)]); try with_reducible rfl)
      simp only [Act.put, List.setIfInBounds_toArray, List.set_cons_zero, List.set_cons_succ]
      refine AtF.taked (i := 2) (v := ?_) (some 24) rfl rfl (by kernel_rfl) (by kernel_rfl) (by kernel_rfl) (anc_path [] _ _ (by kernel_rfl) (by kernel_rfl)) (fun _ _ _ h => h) (Or.inl ⟨by kernel_rfl, ?_⟩) hS rfl ?_
      rotate_left
      · (intro wS hSw; (try dsimp only at hSw); go_simp; (try rw [if_neg (by omega)]); try with_reducible rfl)
      simp only [Act.put, List.setIfInBounds_toArray, List.set_cons_zero, List.set_cons_succ]
      refine AtF.only (i := 3) (by kernel_rfl) rfl rfl ?_
      intro K hK
      go_simp
      refine hK.out _ _ (by apply Mem.tail; apply Mem.tail; apply Mem.tail; (repeat' (first | with_reducible exact hM | with_reducible exact hMp | with_reducible apply Mem.drew | with_reducible apply Mem.drewN | with_reducible apply Mem.alloc | with_reducible apply Mem.set | with_reducible exact Sto.row | ((with_reducible refine Sto.rowEq2 ?_ ?_); omega; rfl) | ((with_reducible refine Sto.rowEq ?_); omega) | with_reducible apply Sto.int | with_reducible apply Sto.there | with_reducible assumption | (unfold I64; omega) | (with_reducible (have hMx := Mem.undrew hM; exact hMx)) | (with_reducible (have hMx := Mem.undrew hMp; exact hMx))))) ?_
      clear hK K hS
      have hMp := hM
      apply Mem.atF
      · (repeat' (first | with_reducible exact hM | with_reducible exact hMp | with_reducible apply Mem.drew | with_reducible apply Mem.drewN | with_reducible apply Mem.alloc | with_reducible apply Mem.set | with_reducible exact Sto.row | ((with_reducible refine Sto.rowEq2 ?_ ?_); omega; rfl) | ((with_reducible refine Sto.rowEq ?_); omega) | with_reducible apply Sto.int | with_reducible apply Sto.there | with_reducible assumption | (unfold I64; omega) | (with_reducible (have hMx := Mem.undrew hM; exact hMx)) | (with_reducible (have hMx := Mem.undrew hMp; exact hMx))))
      clear hM
      intro hM
      (try simp only [World.size_alloc, World.size_setCell, World.heap_drewN, heapDrew, Nat.add_assoc, Nat.reduceAdd, List.setIfInBounds_toArray, List.set_cons_zero, List.set_cons_succ, List.cons_append, List.nil_append] at hM)
      have hS := hM.tail.tail.tail
      refine AtF.only (i := 4) (by kernel_rfl) rfl rfl ?_
      intro K hK
      go_simp
      have hU := Mem.unpackAt [_] hM
      refine (among_any [0, 0, 1, 1, 2, 3, 5, 9, 20] HC.out hU (.there ((HP.out.again _).app [] _)) (fun _ => .here) rfl (by decide) (by decide) (by omega) (by decide)).mono ?_
      rintro e w3 ⟨x, hx, rfl, hm⟩
      obtain ⟨x0, x1⟩ := amb 0 20 hx (by decide)
      clear hU hM hx
      have hM := Mem.packAt [_] hm
      clear hm
      dsimp only [List.cons_append, List.nil_append] at hM
      try dsimp only
      refine hK.out _ _ (hM.tail.tail.tail) ?_
      clear hK K hS
      have hS := hM.tail.tail.tail
      refine AtF.only (i := 5) (by kernel_rfl) rfl rfl ?_
      intro K hK
      go_simp
      refine hK.out _ _ (by apply Mem.tail; apply Mem.tail; apply Mem.tail; apply Mem.tail; (repeat' (first | with_reducible exact hM | with_reducible exact hMp | with_reducible apply Mem.drew | with_reducible apply Mem.drewN | with_reducible apply Mem.alloc | with_reducible apply Mem.set | with_reducible exact Sto.row | ((with_reducible refine Sto.rowEq2 ?_ ?_); omega; rfl) | ((with_reducible refine Sto.rowEq ?_); omega) | with_reducible apply Sto.int | with_reducible apply Sto.there | with_reducible assumption | (unfold I64; omega) | (with_reducible (have hMx := Mem.undrew hM; exact hMx)) | (with_reducible (have hMx := Mem.undrew hMp; exact hMx))))) ?_
      clear hK K hS
      have hMp := hM
      apply Mem.atF
      · (repeat' (first | with_reducible exact hM | with_reducible exact hMp | with_reducible apply Mem.drew | with_reducible apply Mem.drewN | with_reducible apply Mem.alloc | with_reducible apply Mem.set | with_reducible exact Sto.row | ((with_reducible refine Sto.rowEq2 ?_ ?_); omega; rfl) | ((with_reducible refine Sto.rowEq ?_); omega) | with_reducible apply Sto.int | with_reducible apply Sto.there | with_reducible assumption | (unfold I64; omega) | (with_reducible (have hMx := Mem.undrew hM; exact hMx)) | (with_reducible (have hMx := Mem.undrew hMp; exact hMx))))
      clear hM
      intro hM
      (try simp only [World.size_alloc, World.size_setCell, World.heap_drewN, heapDrew, Nat.add_assoc, Nat.reduceAdd, List.setIfInBounds_toArray, List.set_cons_zero, List.set_cons_succ, List.cons_append, List.nil_append] at hM)
      have hS := hM.tail.tail.tail.tail
      refine AtF.only (i := 6) (by kernel_rfl) rfl rfl ?_
      intro K hK
      refine step_appM hM (fun _ => (.there (.there (.there .here)))) (hM.oneI .here (by unfold I64; omega)) (by omega) rfl (.tmp 23) (.tmp 27) 26 Tryd.underlying26 rfl rfl rfl ?_
      clear hM
      intro a6 c6 w6 hM
      try dsimp only
      refine hK.out _ _ (hM.tail.tail.tail.tail) ?_
      clear hK K hS
      have hS := hM.tail.tail.tail.tail
      refine AtF.taked (i := 7) (v := ?_) (some 29) rfl rfl (by kernel_rfl) (by kernel_rfl) (by kernel_rfl) (anc_path [] _ _ (by kernel_rfl) (by kernel_rfl)) (fun _ _ _ h => h) (Or.inl ⟨by kernel_rfl, ?_⟩) hS rfl ?_
      rotate_left
      · (intro wS hSw; (try dsimp only at hSw); go_simp; (try rw [if_neg (by omega)]); try with_reducible rfl)
      simp only [Act.put, List.setIfInBounds_toArray, List.set_cons_zero, List.set_cons_succ]
      refine AtF.last (by kernel_rfl) rfl (by kernel_rfl) ?_
      intro K hK
      clear hS
      have kk0 := (hM.row .here).cell
      have ff0 := (hM.row .here).free
      have ll0 := (hM.row .here).lt
      have kk1 := (hM.row (.there .here)).cell
      have ff1 := (hM.row (.there .here)).free
      have ll1 := (hM.row (.there .here)).lt
      have kk4 := (hM.row (.there (.there (.there (.there .here))))).cell
      have ff4 := (hM.row (.there (.there (.there (.there .here))))).free
      have ll4 := (hM.row (.there (.there (.there (.there .here))))).lt
      go_simp
      clear kk0 ff0 ll0 kk1 ff1 ll1 kk4 ff4 ll4
      refine hK.out _ _ ?_
      clear hK K
      apply Mem.atEx
      · (repeat' (first | with_reducible exact hM | with_reducible exact hMp | with_reducible apply Mem.drew | with_reducible apply Mem.drewN | with_reducible apply Mem.alloc | with_reducible apply Mem.set | with_reducible exact Sto.row | ((with_reducible refine Sto.rowEq2 ?_ ?_); omega; rfl) | ((with_reducible refine Sto.rowEq ?_); omega) | with_reducible apply Sto.int | with_reducible apply Sto.there | with_reducible assumption | (unfold I64; omega) | (with_reducible (have hMx := Mem.undrew hM; exact hMx)) | (with_reducible (have hMx := Mem.undrew hMp; exact hMx))))
      clear hM
      intro wst hM
      (try simp only [World.size_alloc, World.size_setCell, World.heap_drewN, heapDrew, Nat.add_assoc, Nat.reduceAdd, List.setIfInBounds_toArray, List.set_cons_zero, List.set_cons_succ, List.cons_append, List.nil_append] at hM)
      replace hM := hM.tail.tail
      replace hM := Mem.unpackEnd [intE a6 (k + 1) c6 (xs ++ [x]), rowE bS 44 #[.int .i64 Wn, .int .i64 Hn, .slice a6 (k + 1) c6], rowE w.heap.size 44 #[.int .i64 0, .int .i64 0, .slice none 0 0]] hM
      dsimp only [List.cons_append, List.nil_append] at hM
      go_wp2
      go_roundw
      case rel => exact ⟨k + 1, a6, c6, xs ++ [x], by go_num, by omega, Lib.hid (by simp [HL.out]), Lib.hid (allB_snoc HX.out ⟨by omega, by omega⟩), hM.curMore (.there (.there (.there (HP.out.again _)))) (by have := HA2.out; omega)⟩
      case measure => simp [intOf]; omega
    · obtain rfl : k = N := by omega
      obtain rfl : xs.length = k := HL.out
      replace hM := hM.curMore (A' := A + 60) (.there (.there (.there (HP.out.again _)))) (by have := HA2.out; omega)
      clear HL HA2 hlt
      obtain ⟨k1, f1, l1⟩ := hM.row (.there .here)
      obtain ⟨k2, f2, l2⟩ := hM.row (.there (.there .here))
      go_wp2
      refine bodyPost_ret (v := .agg #[.int .i64 Wn, .int .i64 Hn, .slice a' xs.length c']) (by simp [results, Tryd.results78, go_sem, k1, k2]) rfl ⟨Wn, Hn, a', c', xs, hW, hH, ⟨HN.out.symm, by omega, by omega⟩, HX.out, rfl, ?_⟩
      apply Mem.out3
      (repeat' (first | with_reducible exact hM | with_reducible exact hMp | with_reducible apply Mem.drew | with_reducible apply Mem.drewN | with_reducible apply Mem.alloc | with_reducible apply Mem.set | with_reducible exact Sto.row | ((with_reducible refine Sto.rowEq2 ?_ ?_); omega; rfl) | ((with_reducible refine Sto.rowEq ?_); omega) | with_reducible apply Sto.int | with_reducible apply Sto.there | with_reducible assumption | (unfold I64; omega) | (with_reducible (have hMx := Mem.undrew hM; exact hMx)) | (with_reducible (have hMx := Mem.undrew hMp; exact hMx))))
def okT (W H : Int) (xs : List Int) : Prop := (0 ≤ W ∧ W ≤ 6) ∧ (0 ≤ H ∧ H ≤ 6) ∧ (1 ≤ xs.length ∧ xs.length ≤ 26) ∧ allB (-1) 21 xs
theorem allB_wide {lo hi lo' hi' : Int} {xs : List Int} (h : allB lo hi xs) (h1 : lo' ≤ lo) (h2 : hi ≤ hi') : allB lo' hi' xs := fun x hx => by
  have := h x hx
  omega
section
variable {B : Nat} {w0 w : World} {F : Ent → List Ent} {R : List Ent}
def HeadP (F : Ent → List Ent) (R : List Ent) : Prop := ∀ (B : Nat) (w0 w : World) (X : List Ent) (e1 : Ent), Mem B w0 w (X ++ F e1) ↔ Mem B w0 w (X ++ [e1, packE R])
theorem HeadP.in {e : Ent} (h : HeadP F R) (hM : Mem B w0 w (F e)) : Mem B w0 w [e, packE R] := (h B w0 w [] e).1 hM
theorem HeadP.out1 {e x : Ent} (h : HeadP F R) (hM : Mem B w0 w [x, e, packE R]) : Mem B w0 w (x :: F e) := (h B w0 w [x] e).2 hM
theorem HeadP.out5 {e x a b : Ent} (h : HeadP F R) (hM : Mem B w0 w [a, x, b, e, packE R]) : Mem B w0 w (x :: F e) := h.out1 (hM.sub (by simp))
theorem HeadP.outD {e x a b c : Ent} (h : HeadP F R) (hM : Mem B w0 w [a, e, x, b, c, packE R]) : Mem B w0 w (x :: F e) := h.out1 ((hM.sub (G' := [e, x, packE R]) (by simp)).swap)
theorem HeadP.out6 {e x a b c : Ent} (h : HeadP F R) (hM : Mem B w0 w [c, a, x, b, e, packE R]) : Mem B w0 w (x :: F e) := h.out5 hM.tail
end
set_option maxRecDepth 100000 in
set_option maxHeartbeats 8000000 in
theorem anyTerrain_any {g : Nat} {ac : Option Addr} {nc cc : Nat} {l : List UInt8} {A : Nat} {w0 w : World} {G : List Ent} {F : Ent → List Ent} (hC : Rd FByt w0 ac nc cc l) (hM : Mem w0.heap.size w0 w G) (p : At G (curE g ac nc cc A) F) (hA : A ≤ 1000000) :
    Calls Tryd.prog 87 #[.pointer (some ⟨g, 0, none⟩)] w fun e w' => ∃ (W H : Int) (a' : Option Addr) (c' : Nat) (xs : List Int), okT W H xs ∧ e = .returned (.agg #[.int .i64 W, .int .i64 H, .slice a' xs.length c']) ∧ Mem w0.heap.size w0 w' (intE a' xs.length c' xs :: F (curE g ac nc cc (A + 100))) := by
  obtain ⟨R, hR⟩ : ∃ R, HeadP F R := p.head
  have HR := Lib.hid hR; clear hR
  rw [← p.self] at hM
  replace hM := HR.out.in hM
  have HP := Lib.hid p
  have HC := Lib.hid hC
  clear p hC
  go_enter Tryd.func87, Tryd.ntmps87
  go_wp2_with fail
  apply Mem.atA
  · (repeat' (first | with_reducible exact hM | with_reducible exact hMp | with_reducible apply Mem.drew | with_reducible apply Mem.drewN | with_reducible apply Mem.alloc | with_reducible apply Mem.set | with_reducible exact Sto.row | ((with_reducible refine Sto.rowEq2 ?_ ?_); omega; rfl) | ((with_reducible refine Sto.rowEq ?_); omega) | with_reducible apply Sto.int | with_reducible apply Sto.there | with_reducible assumption | (unfold I64; omega) | (with_reducible (have hMx := Mem.undrew hM; exact hMx)) | (with_reducible (have hMx := Mem.undrew hMp; exact hMx))))
  clear hM
  intro wst hM
  (try simp only [World.size_alloc, World.size_setCell, World.heap_drewN, heapDrew, Nat.add_assoc, Nat.reduceAdd, List.setIfInBounds_toArray, List.set_cons_zero, List.set_cons_succ, List.cons_append, List.nil_append] at hM)
  (first | refine (terrain_any HC.out hM (.there .here) (by omega)).mono ?_)
  rintro e wc1 ⟨Wn, Hn, a', c', xs, hW, hH, hl, hx, rfl, hm⟩
  clear hM
  have hM := hm
  clear hm
  try dsimp only at hM
  obtain ⟨-, l1, l2⟩ := hl
  have HX := Lib.hid (allB_wide (lo' := -1) (hi' := 21) hx (by omega) (by omega)); clear hx
  go_wp2_with fail
  apply Mem.atA
  · (repeat' (first | with_reducible exact hM | with_reducible exact hMp | with_reducible apply Mem.drew | with_reducible apply Mem.drewN | with_reducible apply Mem.alloc | with_reducible apply Mem.set | with_reducible exact Sto.row | ((with_reducible refine Sto.rowEq2 ?_ ?_); omega; rfl) | ((with_reducible refine Sto.rowEq ?_); omega) | with_reducible apply Sto.int | with_reducible apply Sto.there | with_reducible assumption | (unfold I64; omega) | (with_reducible (have hMx := Mem.undrew hM; exact hMx)) | (with_reducible (have hMx := Mem.undrew hMp; exact hMx))))
  clear hM
  intro wst hM
  (try simp only [World.size_alloc, World.size_setCell, World.heap_drewN, heapDrew, Nat.add_assoc, Nat.reduceAdd, List.setIfInBounds_toArray, List.set_cons_zero, List.set_cons_succ, List.cons_append, List.nil_append] at hM)
  (first | refine (pick_any 32 HC.out hM (.there (.there (.there .here))) (by omega)).mono ?_)
  rintro e wc2 ⟨r, hr, hr2, rfl, hm⟩
  clear hM
  have hM := hm
  clear hm
  try dsimp only at hM
  clear hr hr2
  by_cases h0 : r = 0
  · subst h0
    have hw3 : IntKind.i64.wrap ((Wn : Int) + 1) = (Wn : Int) + 1 := by rw [wrap_in (by omega)]
    obtain ⟨k0, f0, l0⟩ := hM.row .here
    go_wp2_with fail
    clear k0 f0 l0
    apply Mem.atA
    · (repeat' (first | with_reducible exact hM | with_reducible exact hMp | with_reducible apply Mem.drew | with_reducible apply Mem.drewN | with_reducible apply Mem.alloc | with_reducible apply Mem.set | with_reducible exact Sto.row | ((with_reducible refine Sto.rowEq2 ?_ ?_); omega; rfl) | ((with_reducible refine Sto.rowEq ?_); omega) | with_reducible apply Sto.int | with_reducible apply Sto.there | with_reducible assumption | (unfold I64; omega) | (with_reducible (have hMx := Mem.undrew hM; exact hMx)) | (with_reducible (have hMx := Mem.undrew hMp; exact hMx))))
    clear hM
    intro wst hM
    (try simp only [World.size_alloc, World.size_setCell, World.heap_drewN, heapDrew, Nat.add_assoc, Nat.reduceAdd, List.setIfInBounds_toArray, List.set_cons_zero, List.set_cons_succ, List.cons_append, List.nil_append] at hM)
    (first | refine (among_any [0, 6, (Wn : Int) + 1] HC.out hM (.there (.there (.there (.there .here)))) (fun _ => .here) rfl (by decide) (by simp) (by omega) (by decide)).mono ?_)
    rintro e wc6 ⟨x, hx, rfl, hm⟩
    clear hM
    have hM := hm
    clear hm
    try dsimp only at hM
    have hxb : 0 ≤ x ∧ x ≤ 6 := by
      simp only [List.mem_cons, List.mem_nil_iff, or_false] at hx
      omega
    clear hx
    obtain ⟨k1, f1, l1⟩ := hM.row (.there .here)
    go_upto_region 11 with fail
    clear k1 f1 l1
    apply Mem.atWpA
    · (repeat' (first | with_reducible exact hM | with_reducible exact hMp | with_reducible apply Mem.drew | with_reducible apply Mem.drewN | with_reducible apply Mem.alloc | with_reducible apply Mem.set | with_reducible exact Sto.row | ((with_reducible refine Sto.rowEq2 ?_ ?_); omega; rfl) | ((with_reducible refine Sto.rowEq ?_); omega) | with_reducible apply Sto.int | with_reducible apply Sto.there | with_reducible assumption | (unfold I64; omega) | (with_reducible (have hMx := Mem.undrew hM; exact hMx)) | (with_reducible (have hMx := Mem.undrew hMp; exact hMx))))
    clear hM
    intro wst hM
    (try simp only [World.size_alloc, World.size_setCell, World.heap_drewN, heapDrew, Nat.add_assoc, Nat.reduceAdd, List.setIfInBounds_toArray, List.set_cons_zero, List.set_cons_succ, List.cons_append, List.nil_append] at hM)
    obtain ⟨k1, f1, l1⟩ := hM.row (.there .here)
    obtain ⟨k3, f3, l3⟩ := hM.row (.there (.there (.there .here)))
    go_wp2
    refine bodyPost_ret (v := .agg #[.int .i64 x, .int .i64 Hn, .slice a' xs.length c']) (by simp [results, Tryd.results87, go_sem, k1, k3]) rfl ⟨x, Hn, a', c', xs, ⟨hxb, by omega, by omega, HX.out⟩, rfl, ?_⟩
    apply Mem.curMore (hA := show A + 60 + 2 + 2 ≤ A + 100 by omega) (p := .there (HP.out.again _))
    apply HR.out.out6
    (repeat' (first | with_reducible exact hM | with_reducible exact hMp | with_reducible apply Mem.drew | with_reducible apply Mem.drewN | with_reducible apply Mem.alloc | with_reducible apply Mem.set | with_reducible exact Sto.row | ((with_reducible refine Sto.rowEq2 ?_ ?_); omega; rfl) | ((with_reducible refine Sto.rowEq ?_); omega) | with_reducible apply Sto.int | with_reducible apply Sto.there | with_reducible assumption | (unfold I64; omega) | (with_reducible (have hMx := Mem.undrew hM; exact hMx)) | (with_reducible (have hMx := Mem.undrew hMp; exact hMx))))
  by_cases h1 : r = 1
  · subst h1
    have hw3 : IntKind.i64.wrap ((Hn : Int) + 1) = (Hn : Int) + 1 := by rw [wrap_in (by omega)]
    obtain ⟨k0, f0, l0⟩ := hM.row .here
    go_wp2_with fail
    clear k0 f0 l0
    apply Mem.atA
    · (repeat' (first | with_reducible exact hM | with_reducible exact hMp | with_reducible apply Mem.drew | with_reducible apply Mem.drewN | with_reducible apply Mem.alloc | with_reducible apply Mem.set | with_reducible exact Sto.row | ((with_reducible refine Sto.rowEq2 ?_ ?_); omega; rfl) | ((with_reducible refine Sto.rowEq ?_); omega) | with_reducible apply Sto.int | with_reducible apply Sto.there | with_reducible assumption | (unfold I64; omega) | (with_reducible (have hMx := Mem.undrew hM; exact hMx)) | (with_reducible (have hMx := Mem.undrew hMp; exact hMx))))
    clear hM
    intro wst hM
    (try simp only [World.size_alloc, World.size_setCell, World.heap_drewN, heapDrew, Nat.add_assoc, Nat.reduceAdd, List.setIfInBounds_toArray, List.set_cons_zero, List.set_cons_succ, List.cons_append, List.nil_append] at hM)
    (first | refine (among_any [0, 6, (Hn : Int) + 1] HC.out hM (.there (.there (.there (.there .here)))) (fun _ => .here) rfl (by decide) (by simp) (by omega) (by decide)).mono ?_)
    rintro e wc6 ⟨x, hx, rfl, hm⟩
    clear hM
    have hM := hm
    clear hm
    try dsimp only at hM
    have hxb : 0 ≤ x ∧ x ≤ 6 := by
      simp only [List.mem_cons, List.mem_nil_iff, or_false] at hx
      omega
    clear hx
    obtain ⟨k1, f1, l1⟩ := hM.row (.there .here)
    go_upto_region 11 with fail
    clear k1 f1 l1
    apply Mem.atWpA
    · (repeat' (first | with_reducible exact hM | with_reducible exact hMp | with_reducible apply Mem.drew | with_reducible apply Mem.drewN | with_reducible apply Mem.alloc | with_reducible apply Mem.set | with_reducible exact Sto.row | ((with_reducible refine Sto.rowEq2 ?_ ?_); omega; rfl) | ((with_reducible refine Sto.rowEq ?_); omega) | with_reducible apply Sto.int | with_reducible apply Sto.there | with_reducible assumption | (unfold I64; omega) | (with_reducible (have hMx := Mem.undrew hM; exact hMx)) | (with_reducible (have hMx := Mem.undrew hMp; exact hMx))))
    clear hM
    intro wst hM
    (try simp only [World.size_alloc, World.size_setCell, World.heap_drewN, heapDrew, Nat.add_assoc, Nat.reduceAdd, List.setIfInBounds_toArray, List.set_cons_zero, List.set_cons_succ, List.cons_append, List.nil_append] at hM)
    obtain ⟨k1, f1, l1⟩ := hM.row (.there .here)
    obtain ⟨k3, f3, l3⟩ := hM.row (.there (.there (.there .here)))
    go_wp2
    refine bodyPost_ret (v := .agg #[.int .i64 Wn, .int .i64 x, .slice a' xs.length c']) (by simp [results, Tryd.results87, go_sem, k1, k3]) rfl ⟨Wn, x, a', c', xs, ⟨by omega, hxb, by omega, HX.out⟩, rfl, ?_⟩
    apply Mem.curMore (hA := show A + 60 + 2 + 2 ≤ A + 100 by omega) (p := .there (HP.out.again _))
    apply HR.out.out6
    (repeat' (first | with_reducible exact hM | with_reducible exact hMp | with_reducible apply Mem.drew | with_reducible apply Mem.drewN | with_reducible apply Mem.alloc | with_reducible apply Mem.set | with_reducible exact Sto.row | ((with_reducible refine Sto.rowEq2 ?_ ?_); omega; rfl) | ((with_reducible refine Sto.rowEq ?_); omega) | with_reducible apply Sto.int | with_reducible apply Sto.there | with_reducible assumption | (unfold I64; omega) | (with_reducible (have hMx := Mem.undrew hM; exact hMx)) | (with_reducible (have hMx := Mem.undrew hMp; exact hMx))))
  by_cases h2 : r = 2
  · subst h2
    obtain ⟨gg, rfl, -⟩ := (hM.ints (.there .here)).head (by omega)
    have hcap := (hM.ints (.there .here)).ints.cap
    obtain ⟨k0, f0, l0⟩ := hM.row .here
    go_upto_region 8 with fail
    clear k0 f0 l0
    apply Mem.atWpA
    · (repeat' (first | with_reducible exact hM | with_reducible exact hMp | with_reducible apply Mem.drew | with_reducible apply Mem.drewN | with_reducible apply Mem.alloc | with_reducible apply Mem.set | with_reducible exact Sto.row | ((with_reducible refine Sto.rowEq2 ?_ ?_); omega; rfl) | ((with_reducible refine Sto.rowEq ?_); omega) | with_reducible apply Sto.int | with_reducible apply Sto.there | with_reducible assumption | (unfold I64; omega) | (with_reducible (have hMx := Mem.undrew hM; exact hMx)) | (with_reducible (have hMx := Mem.undrew hMp; exact hMx))))
    clear hM
    intro wst hM
    (try simp only [World.size_alloc, World.size_setCell, World.heap_drewN, heapDrew, Nat.add_assoc, Nat.reduceAdd, List.setIfInBounds_toArray, List.set_cons_zero, List.set_cons_succ, List.cons_append, List.nil_append] at hM)
    replace hM := hM.pick (is := [3, 1, 0, 2, 4]) (by decide) rfl
    dsimp only [List.filterMap_cons, List.filterMap_nil, List.getElem?_cons_zero, List.getElem?_cons_succ] at hM
    refine AtF.startA hM.tail.tail hM 11 (by kernel_rfl) ?_
    clear hM
    intro wd hM
    have hS := hM.tail.tail
    refine AtF.taked (i := 0) (v := ?_) (some 28) rfl rfl (by kernel_rfl) (by kernel_rfl) (by kernel_rfl) (anc_path [] _ _ (by kernel_rfl) (by kernel_rfl)) (fun _ _ _ h => h) (Or.inl ⟨by kernel_rfl, ?_⟩) hS rfl ?_
    rotate_left
    · (intro wS hSw; (try dsimp only at hSw); go_simp; (try rw [if_neg (by omega)]); try with_reducible rfl)
    simp only [Act.put, List.setIfInBounds_toArray, List.set_cons_zero, List.set_cons_succ]
    refine AtF.taked (i := 1) (v := ?_) (some 29) rfl rfl (by kernel_rfl) (by kernel_rfl) (by kernel_rfl) (anc_path [] _ _ (by kernel_rfl) (by kernel_rfl)) (fun _ _ _ h => h) (Or.inl ⟨by kernel_rfl, ?_⟩) hS rfl ?_
    rotate_left
    · (intro wS hSw; (try dsimp only at hSw); have kr0 := (Mem.row hSw .here).cell; go_simp; (try rw [if_neg (by omega)]); try with_reducible rfl)
    simp only [Act.put, List.setIfInBounds_toArray, List.set_cons_zero, List.set_cons_succ]
    refine AtF.taked (i := 2) (v := ?_) (some 30) rfl rfl (by kernel_rfl) (by kernel_rfl) (by kernel_rfl) (anc_path [] _ _ (by kernel_rfl) (by kernel_rfl)) (fun _ _ _ h => h) (Or.inl ⟨by kernel_rfl, ?_⟩) hS rfl ?_
    rotate_left
    · (intro wS hSw; (try dsimp only at hSw); go_simp; (try rw [if_neg (by omega)]); try with_reducible rfl)
    simp only [Act.put, List.setIfInBounds_toArray, List.set_cons_zero, List.set_cons_succ]
    refine AtF.taked (i := 3) (v := ?_) (some 31) rfl rfl (by kernel_rfl) (by kernel_rfl) (by kernel_rfl) (anc_path [] _ _ (by kernel_rfl) (by kernel_rfl)) (fun _ _ _ h => h) (Or.inl ⟨by kernel_rfl, ?_⟩) hS rfl ?_
    rotate_left
    · (intro wS hSw; (try dsimp only at hSw); go_simp; (try rw [if_neg (by omega)]); try with_reducible rfl)
    simp only [Act.put, List.setIfInBounds_toArray, List.set_cons_zero, List.set_cons_succ]
    refine AtF.taked (i := 4) (v := ?_) (some 32) rfl rfl (by kernel_rfl) (by kernel_rfl) (by kernel_rfl) (anc_path [] _ _ (by kernel_rfl) (by kernel_rfl)) (fun _ _ _ h => h) (Or.inl ⟨by kernel_rfl, ?_⟩) hS rfl ?_
    rotate_left
    · (intro wS hSw; (try dsimp only at hSw); have kr0 := (Mem.row hSw .here).cell; go_simp; (try rw [if_neg (by omega)]); try with_reducible rfl)
    simp only [Act.put, List.setIfInBounds_toArray, List.set_cons_zero, List.set_cons_succ]
    refine AtF.taked (i := 5) (v := ?_) (some 33) rfl rfl (by kernel_rfl) (by kernel_rfl) (by kernel_rfl) (anc_path [] _ _ (by kernel_rfl) (by kernel_rfl)) (fun _ _ _ h => h) (Or.inl ⟨by kernel_rfl, ?_⟩) hS rfl ?_
    rotate_left
    · (intro wS hSw; (try dsimp only at hSw); go_simp; (try rw [if_neg (by omega)]); try with_reducible rfl)
    simp only [Act.put, List.setIfInBounds_toArray, List.set_cons_zero, List.set_cons_succ]
    refine AtF.taked (i := 7) (v := ?_) (some 35) rfl rfl (by kernel_rfl) (by kernel_rfl) (by kernel_rfl) (anc_path [] _ _ (by kernel_rfl) (by kernel_rfl)) (fun _ _ _ h => h) (Or.inl ⟨by kernel_rfl, ?_⟩) hS rfl ?_
    rotate_left
    · (intro wS hSw; (try dsimp only at hSw); go_simp; (try rw [if_neg (by omega)]); try with_reducible rfl)
    simp only [Act.put, List.setIfInBounds_toArray, List.set_cons_zero, List.set_cons_succ]
    refine AtF.two (i := 6) (j := 8) (by kernel_rfl) rfl rfl rfl rfl ?_ ?_
    · skip
      intro K hK
      go_simp
      refine (pick_any (xs.length : Int) HC.out hM .here (by omega)).mono ?_
      rintro e w3 ⟨r2, hr, -, rfl, hm⟩
      have i1 := pick_lt hr (by omega)
      have i0 : (0 : Int) ≤ (r2 : Int) := by omega
      have i2 : r2 < xs.length := by omega
      clear hM hr
      have hM := hm
      clear hm
      try dsimp only at hM
      try dsimp only
      refine hK.out _ _ (hM.tail.tail) ?_
      clear hK K hS
      have hS := hM.tail.tail
      refine AtF.only (i := 8) (by kernel_rfl) rfl rfl ?_
      intro K hK
      go_simp
      refine hK.out _ _ (by apply Mem.tail; apply Mem.tail; apply Mem.tail; (repeat' (first | with_reducible exact hM | with_reducible exact hMp | with_reducible apply Mem.drew | with_reducible apply Mem.drewN | with_reducible apply Mem.alloc | with_reducible apply Mem.set | with_reducible exact Sto.row | ((with_reducible refine Sto.rowEq2 ?_ ?_); omega; rfl) | ((with_reducible refine Sto.rowEq ?_); omega) | with_reducible apply Sto.int | with_reducible apply Sto.there | with_reducible assumption | (unfold I64; omega) | (with_reducible (have hMx := Mem.undrew hM; exact hMx)) | (with_reducible (have hMx := Mem.undrew hMp; exact hMx))))) ?_
      clear hK K hS
      have hMp := hM
      apply Mem.atF
      · (repeat' (first | with_reducible exact hM | with_reducible exact hMp | with_reducible apply Mem.drew | with_reducible apply Mem.drewN | with_reducible apply Mem.alloc | with_reducible apply Mem.set | with_reducible exact Sto.row | ((with_reducible refine Sto.rowEq2 ?_ ?_); omega; rfl) | ((with_reducible refine Sto.rowEq ?_); omega) | with_reducible apply Sto.int | with_reducible apply Sto.there | with_reducible assumption | (unfold I64; omega) | (with_reducible (have hMx := Mem.undrew hM; exact hMx)) | (with_reducible (have hMx := Mem.undrew hMp; exact hMx))))
      clear hM
      intro hM
      (try simp only [World.size_alloc, World.size_setCell, World.heap_drewN, heapDrew, Nat.add_assoc, Nat.reduceAdd, List.setIfInBounds_toArray, List.set_cons_zero, List.set_cons_succ, List.cons_append, List.nil_append] at hM)
      have hS := hM.tail.tail.tail
      refine AtF.only (i := 9) (by kernel_rfl) rfl rfl ?_
      intro K hK
      go_simp
      refine (among_any [-1, 20, 21] HC.out hM (.there .here) (fun _ => .here) rfl (by decide) (by decide) (by omega) (by decide)).mono ?_
      rintro e w4 ⟨x, hx, rfl, hm⟩
      obtain ⟨x0, x1⟩ := amb (-1) 21 hx (by decide)
      clear hM hx
      have hM := hm
      clear hm
      try dsimp only at hM
      try dsimp only
      refine hK.out _ _ (hM.tail.tail.tail) ?_
      clear hK K hS
      have hS := hM.tail.tail.tail
      refine AtF.taked (i := 10) (v := ?_) (some 38) rfl rfl (by kernel_rfl) (by kernel_rfl) (by kernel_rfl) (anc_path [] _ _ (by kernel_rfl) (by kernel_rfl)) (fun _ _ _ h => h) (Or.inl ⟨by kernel_rfl, ?_⟩) hS rfl ?_
      rotate_left
      · (intro wS hSw; (try dsimp only at hSw); have kr0 := (Mem.row hSw .here).cell; go_simp; (try rw [if_neg (by omega)]); try with_reducible rfl)
      simp only [Act.put, List.setIfInBounds_toArray, List.set_cons_zero, List.set_cons_succ]
      refine AtF.last (by kernel_rfl) rfl (by kernel_rfl) ?_
      intro K hK
      clear hS
      have kk0 := (hM.row .here).cell
      have ff0 := (hM.row .here).free
      have ll0 := (hM.row .here).lt
      have kk3 := (hM.row (.there (.there (.there .here)))).cell
      have ff3 := (hM.row (.there (.there (.there .here)))).free
      have ll3 := (hM.row (.there (.there (.there .here)))).lt
      have hce := (hM.ints (.there (.there .here))).cellAt (k := r2) i2
      have hfe := (hM.ints (.there (.there .here))).freeAt r2
      go_simp
      clear kk0 ff0 ll0 kk3 ff3 ll3
      refine hK.out _ _ ?_
      clear hK K
      apply Mem.atEx
      · (repeat' (first | with_reducible exact hM | with_reducible exact hMp | with_reducible apply Mem.drew | with_reducible apply Mem.drewN | with_reducible apply Mem.alloc | with_reducible apply Mem.set | with_reducible exact Sto.row | ((with_reducible refine Sto.rowEq2 ?_ ?_); omega; rfl) | ((with_reducible refine Sto.rowEq ?_); omega) | with_reducible apply Sto.int | with_reducible apply Sto.there | with_reducible assumption | (unfold I64; omega) | (with_reducible (have hMx := Mem.undrew hM; exact hMx)) | (with_reducible (have hMx := Mem.undrew hMp; exact hMx))))
      clear hM
      intro wst hM
      (try simp only [World.size_alloc, World.size_setCell, World.heap_drewN, heapDrew, Nat.add_assoc, Nat.reduceAdd, List.setIfInBounds_toArray, List.set_cons_zero, List.set_cons_succ, List.cons_append, List.nil_append] at hM)
      obtain ⟨k3, f3, l3⟩ := hM.row (.there (.there (.there .here)))
      obtain ⟨k4, f4, l4⟩ := hM.row (.there (.there (.there (.there .here))))
      go_wp2
      refine bodyPost_ret (v := .agg #[.int .i64 Wn, .int .i64 Hn, .slice (some ⟨gg, 0, none⟩) xs.length c']) (by simp [results, Tryd.results87, go_sem, k3, k4]) rfl ⟨Wn, Hn, some ⟨gg, 0, none⟩, c', xs.set r2 x, ⟨by omega, by omega, by rw [List.length_set]; omega, allB_set HX.out ⟨by omega, by omega⟩⟩, by rw [List.length_set], ?_⟩
      rw [List.length_set]
      apply Mem.curMore (hA := show A + 60 + 2 + 2 + 2 ≤ A + 100 by omega) (p := .there (HP.out.again _))
      apply HR.out.outD
      (repeat' (first | with_reducible exact hM | with_reducible exact hMp | with_reducible apply Mem.drew | with_reducible apply Mem.drewN | with_reducible apply Mem.alloc | with_reducible apply Mem.set | with_reducible exact Sto.row | ((with_reducible refine Sto.rowEq2 ?_ ?_); omega; rfl) | ((with_reducible refine Sto.rowEq ?_); omega) | with_reducible apply Sto.int | with_reducible apply Sto.there | with_reducible assumption | (unfold I64; omega) | (with_reducible (have hMx := Mem.undrew hM; exact hMx)) | (with_reducible (have hMx := Mem.undrew hMp; exact hMx))))
    · skip
      intro K hK
      go_simp
      refine hK.out _ _ (by apply Mem.tail; apply Mem.tail; apply Mem.tail; (repeat' (first | with_reducible exact hM | with_reducible exact hMp | with_reducible apply Mem.drew | with_reducible apply Mem.drewN | with_reducible apply Mem.alloc | with_reducible apply Mem.set | with_reducible exact Sto.row | ((with_reducible refine Sto.rowEq2 ?_ ?_); omega; rfl) | ((with_reducible refine Sto.rowEq ?_); omega) | with_reducible apply Sto.int | with_reducible apply Sto.there | with_reducible assumption | (unfold I64; omega) | (with_reducible (have hMx := Mem.undrew hM; exact hMx)) | (with_reducible (have hMx := Mem.undrew hMp; exact hMx))))) ?_
      clear hK K hS
      have hMp := hM
      apply Mem.atF
      · (repeat' (first | with_reducible exact hM | with_reducible exact hMp | with_reducible apply Mem.drew | with_reducible apply Mem.drewN | with_reducible apply Mem.alloc | with_reducible apply Mem.set | with_reducible exact Sto.row | ((with_reducible refine Sto.rowEq2 ?_ ?_); omega; rfl) | ((with_reducible refine Sto.rowEq ?_); omega) | with_reducible apply Sto.int | with_reducible apply Sto.there | with_reducible assumption | (unfold I64; omega) | (with_reducible (have hMx := Mem.undrew hM; exact hMx)) | (with_reducible (have hMx := Mem.undrew hMp; exact hMx))))
      clear hM
      intro hM
      (try simp only [World.size_alloc, World.size_setCell, World.heap_drewN, heapDrew, Nat.add_assoc, Nat.reduceAdd, List.setIfInBounds_toArray, List.set_cons_zero, List.set_cons_succ, List.cons_append, List.nil_append] at hM)
      have hS := hM.tail.tail.tail
      refine AtF.only (i := 6) (by kernel_rfl) rfl rfl ?_
      intro K hK
      go_simp
      refine (pick_any (xs.length : Int) HC.out hM (.there .here) (by omega)).mono ?_
      rintro e w3 ⟨r2, hr, -, rfl, hm⟩
      have i1 := pick_lt hr (by omega)
      have i0 : (0 : Int) ≤ (r2 : Int) := by omega
      have i2 : r2 < xs.length := by omega
      clear hM hr
      have hM := hm
      clear hm
      try dsimp only at hM
      try dsimp only
      refine hK.out _ _ (hM.tail.tail.tail) ?_
      clear hK K hS
      have hS := hM.tail.tail.tail
      refine AtF.only (i := 9) (by kernel_rfl) rfl rfl ?_
      intro K hK
      go_simp
      refine (among_any [-1, 20, 21] HC.out hM (.there .here) (fun _ => .here) rfl (by decide) (by decide) (by omega) (by decide)).mono ?_
      rintro e w4 ⟨x, hx, rfl, hm⟩
      obtain ⟨x0, x1⟩ := amb (-1) 21 hx (by decide)
      clear hM hx
      have hM := hm
      clear hm
      try dsimp only at hM
      try dsimp only
      refine hK.out _ _ (hM.tail.tail.tail) ?_
      clear hK K hS
      have hS := hM.tail.tail.tail
      refine AtF.taked (i := 10) (v := ?_) (some 38) rfl rfl (by kernel_rfl) (by kernel_rfl) (by kernel_rfl) (anc_path [] _ _ (by kernel_rfl) (by kernel_rfl)) (fun _ _ _ h => h) (Or.inl ⟨by kernel_rfl, ?_⟩) hS rfl ?_
      rotate_left
      · (intro wS hSw; (try dsimp only at hSw); have kr0 := (Mem.row hSw .here).cell; go_simp; (try rw [if_neg (by omega)]); try with_reducible rfl)
      simp only [Act.put, List.setIfInBounds_toArray, List.set_cons_zero, List.set_cons_succ]
      refine AtF.last (by kernel_rfl) rfl (by kernel_rfl) ?_
      intro K hK
      clear hS
      have kk0 := (hM.row .here).cell
      have ff0 := (hM.row .here).free
      have ll0 := (hM.row .here).lt
      have kk3 := (hM.row (.there (.there (.there .here)))).cell
      have ff3 := (hM.row (.there (.there (.there .here)))).free
      have ll3 := (hM.row (.there (.there (.there .here)))).lt
      have hce := (hM.ints (.there (.there .here))).cellAt (k := r2) i2
      have hfe := (hM.ints (.there (.there .here))).freeAt r2
      go_simp
      clear kk0 ff0 ll0 kk3 ff3 ll3
      refine hK.out _ _ ?_
      clear hK K
      apply Mem.atEx
      · (repeat' (first | with_reducible exact hM | with_reducible exact hMp | with_reducible apply Mem.drew | with_reducible apply Mem.drewN | with_reducible apply Mem.alloc | with_reducible apply Mem.set | with_reducible exact Sto.row | ((with_reducible refine Sto.rowEq2 ?_ ?_); omega; rfl) | ((with_reducible refine Sto.rowEq ?_); omega) | with_reducible apply Sto.int | with_reducible apply Sto.there | with_reducible assumption | (unfold I64; omega) | (with_reducible (have hMx := Mem.undrew hM; exact hMx)) | (with_reducible (have hMx := Mem.undrew hMp; exact hMx))))
      clear hM
      intro wst hM
      (try simp only [World.size_alloc, World.size_setCell, World.heap_drewN, heapDrew, Nat.add_assoc, Nat.reduceAdd, List.setIfInBounds_toArray, List.set_cons_zero, List.set_cons_succ, List.cons_append, List.nil_append] at hM)
      obtain ⟨k3, f3, l3⟩ := hM.row (.there (.there (.there .here)))
      obtain ⟨k4, f4, l4⟩ := hM.row (.there (.there (.there (.there .here))))
      go_wp2
      refine bodyPost_ret (v := .agg #[.int .i64 Wn, .int .i64 Hn, .slice (some ⟨gg, 0, none⟩) xs.length c']) (by simp [results, Tryd.results87, go_sem, k3, k4]) rfl ⟨Wn, Hn, some ⟨gg, 0, none⟩, c', xs.set r2 x, ⟨by omega, by omega, by rw [List.length_set]; omega, allB_set HX.out ⟨by omega, by omega⟩⟩, by rw [List.length_set], ?_⟩
      rw [List.length_set]
      apply Mem.curMore (hA := show A + 60 + 2 + 2 + 2 ≤ A + 100 by omega) (p := .there (HP.out.again _))
      apply HR.out.outD
      (repeat' (first | with_reducible exact hM | with_reducible exact hMp | with_reducible apply Mem.drew | with_reducible apply Mem.drewN | with_reducible apply Mem.alloc | with_reducible apply Mem.set | with_reducible exact Sto.row | ((with_reducible refine Sto.rowEq2 ?_ ?_); omega; rfl) | ((with_reducible refine Sto.rowEq ?_); omega) | with_reducible apply Sto.int | with_reducible apply Sto.there | with_reducible assumption | (unfold I64; omega) | (with_reducible (have hMx := Mem.undrew hM; exact hMx)) | (with_reducible (have hMx := Mem.undrew hMp; exact hMx))))
  by_cases h3 : r = 3
  · subst h3
    obtain ⟨k0, f0, l0⟩ := hM.row .here
    go_wp2_with (at_builtin; apply Mem.atL; (focus ((repeat' (first | with_reducible exact hM | with_reducible exact hMp | with_reducible apply Mem.drew | with_reducible apply Mem.drewN | with_reducible apply Mem.alloc | with_reducible apply Mem.set | with_reducible exact Sto.row | ((with_reducible refine Sto.rowEq2 ?_ ?_); omega; rfl) | ((with_reducible refine Sto.rowEq ?_); omega) | with_reducible apply Sto.int | with_reducible apply Sto.there | with_reducible assumption | (unfold I64; omega) | (with_reducible (have hMx := Mem.undrew hM; exact hMx)) | (with_reducible (have hMx := Mem.undrew hMp; exact hMx)))); done)); clear hM k0 f0 l0; intro hM; refine wpList_pushI hM (fun _ => .there .here) (by unfold I64; omega) (by omega) rfl _ _ _ Tryd.underlying26 rfl rfl rfl ?_)
    intro a6 c6 w6 hM
    obtain ⟨k0, f0, l0⟩ := hM.row .here
    go_upto_region 11 with fail
    clear k0 f0 l0
    apply Mem.atWpA
    · (repeat' (first | with_reducible exact hM | with_reducible exact hMp | with_reducible apply Mem.drew | with_reducible apply Mem.drewN | with_reducible apply Mem.alloc | with_reducible apply Mem.set | with_reducible exact Sto.row | ((with_reducible refine Sto.rowEq2 ?_ ?_); omega; rfl) | ((with_reducible refine Sto.rowEq ?_); omega) | with_reducible apply Sto.int | with_reducible apply Sto.there | with_reducible assumption | (unfold I64; omega) | (with_reducible (have hMx := Mem.undrew hM; exact hMx)) | (with_reducible (have hMx := Mem.undrew hMp; exact hMx))))
    clear hM
    intro wst hM
    (try simp only [World.size_alloc, World.size_setCell, World.heap_drewN, heapDrew, Nat.add_assoc, Nat.reduceAdd, List.setIfInBounds_toArray, List.set_cons_zero, List.set_cons_succ, List.cons_append, List.nil_append] at hM)
    obtain ⟨k0, f0, l0⟩ := hM.row .here
    obtain ⟨k2, f2, l2⟩ := hM.row (.there (.there .here))
    go_wp2
    refine bodyPost_ret (v := .agg #[.int .i64 Wn, .int .i64 Hn, .slice a6 (xs.length + 1) c6]) (by simp [results, Tryd.results87, go_sem, k0, k2]) rfl ⟨Wn, Hn, a6, c6, xs ++ [1], ⟨by omega, by omega, by rw [List.length_append]; simp; omega, allB_snoc HX.out (by omega)⟩, by simp, ?_⟩
    rw [List.length_append, List.length_singleton]
    apply Mem.curMore (hA := show A + 60 + 2 ≤ A + 100 by omega) (p := .there (HP.out.again _))
    apply HR.out.out5
    (repeat' (first | with_reducible exact hM | with_reducible exact hMp | with_reducible apply Mem.drew | with_reducible apply Mem.drewN | with_reducible apply Mem.alloc | with_reducible apply Mem.set | with_reducible exact Sto.row | ((with_reducible refine Sto.rowEq2 ?_ ?_); omega; rfl) | ((with_reducible refine Sto.rowEq ?_); omega) | with_reducible apply Sto.int | with_reducible apply Sto.there | with_reducible assumption | (unfold I64; omega) | (with_reducible (have hMx := Mem.undrew hM; exact hMx)) | (with_reducible (have hMx := Mem.undrew hMp; exact hMx))))
  have h0' : ¬ (r : Int) = 0 := by omega
  have h1' : ¬ (r : Int) = 1 := by omega
  have h2' : ¬ (r : Int) = 2 := by omega
  have h3' : ¬ (r : Int) = 3 := by omega
  clear h0 h1 h2 h3
  obtain ⟨k0, f0, l0⟩ := hM.row .here
  obtain ⟨k2, f2, l2⟩ := hM.row (.there (.there .here))
  go_wp2
  refine bodyPost_ret (v := .agg #[.int .i64 Wn, .int .i64 Hn, .slice a' xs.length c']) (by simp [results, Tryd.results87, go_sem, k0, k2]) rfl ⟨Wn, Hn, a', c', xs, ⟨by omega, by omega, by omega, HX.out⟩, rfl, ?_⟩
  apply Mem.curMore (hA := show A + 60 + 2 ≤ A + 100 by omega) (p := .there (HP.out.again _))
  apply HR.out.out5
  (repeat' (first | with_reducible exact hM | with_reducible exact hMp | with_reducible apply Mem.drew | with_reducible apply Mem.drewN | with_reducible apply Mem.alloc | with_reducible apply Mem.set | with_reducible exact Sto.row | ((with_reducible refine Sto.rowEq2 ?_ ?_); omega; rfl) | ((with_reducible refine Sto.rowEq ?_); omega) | with_reducible apply Sto.int | with_reducible apply Sto.there | with_reducible assumption | (unfold I64; omega) | (with_reducible (have hMx := Mem.undrew hM; exact hMx)) | (with_reducible (have hMx := Mem.undrew hMp; exact hMx))))
set_option maxRecDepth 100000 in
set_option maxHeartbeats 8000000 in
theorem cellOf_any {g : Nat} {ac : Option Addr} {nc cc : Nat} {l : List UInt8} {A : Nat} {w0 w : World} {G : List Ent} {F : Ent → List Ent} (W H : Int) (at' : Option Addr) (n ct : Nat) (hn : n ≤ 26) (hC : Rd FByt w0 ac nc cc l) (hM : Mem w0.heap.size w0 w G) (p : At G (curE g ac nc cc A) F) (hA : A ≤ 1000000) :
    Calls Tryd.prog 89 #[.pointer (some ⟨g, 0, none⟩), .agg #[.int .i64 W, .int .i64 H, .slice at' n ct]] w fun e w' => ∃ x : Int, (-1 ≤ x ∧ x ≤ 70000) ∧ e = .returned (.int .i64 x) ∧ Mem w0.heap.size w0 w' (F (curE g ac nc cc (A + 4))) := by
  have HP := Lib.hid p
  have HC := Lib.hid hC
  clear p hC
  go_enter Tryd.func89, Tryd.ntmps89
  go_wp2_with fail
  apply Mem.atA
  · (repeat' (first | with_reducible exact hM | with_reducible exact hMp | with_reducible apply Mem.drew | with_reducible apply Mem.drewN | with_reducible apply Mem.alloc | with_reducible apply Mem.set | with_reducible exact Sto.row | ((with_reducible refine Sto.rowEq2 ?_ ?_); omega; rfl) | ((with_reducible refine Sto.rowEq ?_); omega) | with_reducible apply Sto.int | with_reducible apply Sto.there | with_reducible assumption | (unfold I64; omega) | (with_reducible (have hMx := Mem.undrew hM; exact hMx)) | (with_reducible (have hMx := Mem.undrew hMp; exact hMx))))
  clear hM
  intro wst hM
  (try simp only [World.size_alloc, World.size_setCell, World.heap_drewN, heapDrew, Nat.add_assoc, Nat.reduceAdd, List.setIfInBounds_toArray, List.set_cons_zero, List.set_cons_succ, List.cons_append, List.nil_append] at hM)
  (first | refine (one_any 16 HC.out hM (.there HP.out) (by omega)).mono ?_)
  rintro e wc1 ⟨b, rfl, hm⟩
  clear hM
  have hM := hm
  clear hm
  try dsimp only at hM
  cases b
  · skip
    obtain ⟨k0, f0, l0⟩ := hM.row .here
    go_wp2_with fail
    clear k0 f0 l0
    apply Mem.atA
    · (repeat' (first | with_reducible exact hM | with_reducible exact hMp | with_reducible apply Mem.drew | with_reducible apply Mem.drewN | with_reducible apply Mem.alloc | with_reducible apply Mem.set | with_reducible exact Sto.row | ((with_reducible refine Sto.rowEq2 ?_ ?_); omega; rfl) | ((with_reducible refine Sto.rowEq ?_); omega) | with_reducible apply Sto.int | with_reducible apply Sto.there | with_reducible assumption | (unfold I64; omega) | (with_reducible (have hMx := Mem.undrew hM; exact hMx)) | (with_reducible (have hMx := Mem.undrew hMp; exact hMx))))
    clear hM
    intro wst hM
    (try simp only [World.size_alloc, World.size_setCell, World.heap_drewN, heapDrew, Nat.add_assoc, Nat.reduceAdd, List.setIfInBounds_toArray, List.set_cons_zero, List.set_cons_succ, List.cons_append, List.nil_append] at hM)
    (first | refine (pick_any (n : Int) HC.out hM (.there (HP.out.again _)) (by omega)).mono ?_)
    rintro e wc2 ⟨r, hr, hr2, rfl, hm⟩
    clear hM
    have hM := hm
    clear hm
    try dsimp only at hM
    go_wp2
    go_ret
    exact ⟨r, by omega, rfl, hM.tail⟩
  · skip
    obtain ⟨k0, f0, l0⟩ := hM.row .here
    go_wp2_with fail
    clear k0 f0 l0
    apply Mem.atA
    · (repeat' (first | with_reducible exact hM | with_reducible exact hMp | with_reducible apply Mem.drew | with_reducible apply Mem.drewN | with_reducible apply Mem.alloc | with_reducible apply Mem.set | with_reducible exact Sto.row | ((with_reducible refine Sto.rowEq2 ?_ ?_); omega; rfl) | ((with_reducible refine Sto.rowEq ?_); omega) | with_reducible apply Sto.int | with_reducible apply Sto.there | with_reducible assumption | (unfold I64; omega) | (with_reducible (have hMx := Mem.undrew hM; exact hMx)) | (with_reducible (have hMx := Mem.undrew hMp; exact hMx))))
    clear hM
    intro wst hM
    (try simp only [World.size_alloc, World.size_setCell, World.heap_drewN, heapDrew, Nat.add_assoc, Nat.reduceAdd, List.setIfInBounds_toArray, List.set_cons_zero, List.set_cons_succ, List.cons_append, List.nil_append] at hM)
    (first | refine (among_any [-1, (n : Int)] HC.out hM (.there (.there (HP.out.again _))) (fun _ => .here) rfl (by decide) (by simp) (by omega) (by decide)).mono ?_)
    rintro e wc2 ⟨x, hx, rfl, hm⟩
    clear hM
    have hM := hm
    clear hm
    try dsimp only at hM
    have hxb : -1 ≤ x ∧ x ≤ 26 := by
      simp only [List.mem_cons, List.mem_nil_iff, or_false] at hx
      omega
    clear hx
    go_wp2
    go_ret
    exact ⟨x, by omega, rfl, hM.tail.tail⟩
end Go.Proofs.YtpoabdmapbdmfaaDoor
