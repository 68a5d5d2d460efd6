/-
  The reference's draws of smoke.
-/
import Derived.Test.YtdhgkfmehegeoaaPack
import Derived.Test.YtdhgkfmehegeoaaRegF
import Derived.Test.YtdhgkfmehegeoaaPush
import Derived.Test.YtdhgkfmehegeoaaWrap
import Derived.Deep.DeepCutAuto
namespace Go.Proofs.Ytdhgkfmehegeoaa
set_option linter.unusedSimpArgs false
set_option linter.unusedVariables false
open Go.RowKit

def allB (lo hi : Int) (xs : List Int) : Prop := ∀ x ∈ xs, lo ≤ x ∧ x ≤ hi
theorem allB_nil (lo hi : Int) : allB lo hi [] := by intro x hx; cases hx
theorem allB_snoc {lo hi y : Int} {xs : List Int} (h : allB lo hi xs) (hy : lo ≤ y ∧ y ≤ hi) : allB lo hi (xs ++ [y]) := by
  intro x hx
  rcases List.mem_append.1 hx with hx | hx
  · exact h x hx
  · obtain rfl := List.mem_singleton.1 hx
    exact hy
theorem allB_set {lo hi y : Int} {xs : List Int} {k : Nat} (h : allB lo hi xs) (hy : lo ≤ y ∧ y ≤ hi) : allB lo hi (xs.set k y) := by
  intro x hx
  rcases List.mem_or_eq_of_mem_set hx with hx | rfl
  · exact h x hx
  · exact hy
theorem amb {x : Int} (lo hi : Int) {xs : List Int} (h : x ∈ xs) (hb : xs.all (fun y => decide (lo ≤ y) && decide (y ≤ hi)) = true) : lo ≤ x ∧ x ≤ hi := by
  have := List.all_eq_true.1 hb x h
  simpa using this
theorem Mem.out3 {B : Nat} {w0 w : World} {G : List Ent} {e e2 e3 : Ent} (h : Mem B w0 w (e :: e2 :: e3 :: G)) : Mem B w0 w (e :: G) := h.sub (by simp)
theorem Mem.out4 {B : Nat} {w0 w : World} {G : List Ent} {e1 e e2 e3 : Ent} (h : Mem B w0 w (e1 :: e :: e2 :: e3 :: G)) : Mem B w0 w (e :: G) := h.tail.out3
theorem Nat.mul_le_25 {a b : Nat} (ha : a ≤ 5) (hb : b ≤ 5) : a * b ≤ 25 := Nat.mul_le_mul ha hb

set_option maxRecDepth 100000 in
set_option maxHeartbeats 8000000 in
theorem smoke_any {g : Nat} {ac : Option Addr} {nc cc : Nat} {l : List UInt8} {A : Nat} {w0 w : World} {G : List Ent} {F : Ent → List Ent} (hC : Rd FByt w0 ac nc cc l) (hM : Mem w0.heap.size w0 w G) (p : At G (curE g ac nc cc A) F) (hA : A ≤ 10000000) :
    Calls Try.prog 60 #[.pointer (some ⟨g, 0, none⟩)] w fun e w' => ∃ (W H : Int) (a' : Option Addr) (c' : Nat) (xs : List Int), (0 ≤ W ∧ W ≤ 6) ∧ (1 ≤ H ∧ H ≤ 5) ∧ (1 ≤ xs.length ∧ xs.length ≤ 26) ∧ allB (-1) 10001 xs ∧ e = .returned (.agg #[.int .i64 W, .int .i64 H, .slice a' xs.length c']) ∧ Mem w0.heap.size w0 w' (intE a' xs.length c' xs :: F (curE g ac nc cc (A + 100))) := by
  have HP := Lib.hid p
  have HC := Lib.hid hC
  clear p hC
  go_enter Try.func60, Try.ntmps60
  go_wp2_with fail
  apply Mem.atA
  · (repeat' (first | with_reducible exact hM | with_reducible exact hMp | with_reducible apply Mem.drew | with_reducible apply Mem.drewN | with_reducible apply Mem.alloc | with_reducible apply Mem.set | with_reducible exact Sto.row | ((with_reducible refine Sto.rowEq2 ?_ ?_); omega; rfl) | ((with_reducible refine Sto.rowEq ?_); omega) | with_reducible apply Sto.int | with_reducible apply Sto.there | with_reducible assumption | (unfold I64; omega) | (with_reducible (have hMx := Mem.undrew hM; exact hMx)) | (with_reducible (have hMx := Mem.undrew hMp; exact hMx))))
  clear hM
  intro wst hM
  (try simp only [World.size_alloc, World.size_setCell, World.heap_drewN, heapDrew, Nat.add_assoc, Nat.reduceAdd, List.setIfInBounds_toArray, List.set_cons_zero, List.set_cons_succ, List.cons_append, List.nil_append] at hM)
  refine (pick_any 5 HC.out hM (.there HP.out) (by omega)).mono ?_
  rintro e wc1 ⟨r1, hr, hr2, rfl, hm⟩
  clear hM
  have hM := hm
  clear hm
  try dsimp only at hM
  have hr15 := pick_lt hr (by omega)
  clear hr hr2
  obtain ⟨Wn, hWn⟩ : ∃ Wn : Nat, Wn = 1 + r1 := ⟨_, rfl⟩
  have hw1 : IntKind.i64.wrap (1 + (r1 : Int)) = (Wn : Int) := by rw [wrap_in (by omega)]; omega
  have hW : 1 ≤ Wn ∧ Wn ≤ 5 := by omega
  clear hWn
  go_wp2_with fail
  apply Mem.atA
  · (repeat' (first | with_reducible exact hM | with_reducible exact hMp | with_reducible apply Mem.drew | with_reducible apply Mem.drewN | with_reducible apply Mem.alloc | with_reducible apply Mem.set | with_reducible exact Sto.row | ((with_reducible refine Sto.rowEq2 ?_ ?_); omega; rfl) | ((with_reducible refine Sto.rowEq ?_); omega) | with_reducible apply Sto.int | with_reducible apply Sto.there | with_reducible assumption | (unfold I64; omega) | (with_reducible (have hMx := Mem.undrew hM; exact hMx)) | (with_reducible (have hMx := Mem.undrew hMp; exact hMx))))
  clear hM
  intro wst hM
  (try simp only [World.size_alloc, World.size_setCell, World.heap_drewN, heapDrew, Nat.add_assoc, Nat.reduceAdd, List.setIfInBounds_toArray, List.set_cons_zero, List.set_cons_succ, List.cons_append, List.nil_append] at hM)
  refine (pick_any 5 HC.out hM (.there (HP.out.again _)) (by omega)).mono ?_
  rintro e wc2 ⟨r2, hr, hr2, rfl, hm⟩
  clear hM
  have hM := hm
  clear hm
  try dsimp only at hM
  have hr25 := pick_lt hr (by omega)
  clear hr hr2 hw1
  obtain ⟨Hn, hHn⟩ : ∃ Hn : Nat, Hn = 1 + r2 := ⟨_, rfl⟩
  have hw2 : IntKind.i64.wrap (1 + (r2 : Int)) = (Hn : Int) := by rw [wrap_in (by omega)]; omega
  have hH : 1 ≤ Hn ∧ Hn ≤ 5 := by omega
  clear hHn
  have hN25 := Nat.mul_le_25 hW.2 hH.2
  have hN1 : 1 ≤ Wn * Hn := Nat.mul_pos hW.1 hH.1
  have hmul : (Wn : Int) * (Hn : Int) = ((Wn * Hn : Nat) : Int) := by push_cast; rfl
  generalize Wn * Hn = N at hN25 hN1 hmul
  have hwm : IntKind.i64.wrap ((Wn : Int) * (Hn : Int)) = (N : Int) := by rw [hmul, wrap_in (by omega)]
  clear hmul
  go_wp2_with fail
  clear hw2
  apply Mem.atWpA
  · (repeat' (first | with_reducible exact hM | with_reducible exact hMp | with_reducible apply Mem.drew | with_reducible apply Mem.drewN | with_reducible apply Mem.alloc | with_reducible apply Mem.set | with_reducible exact Sto.row | ((with_reducible refine Sto.rowEq2 ?_ ?_); omega; rfl) | ((with_reducible refine Sto.rowEq ?_); omega) | with_reducible apply Sto.int | with_reducible apply Sto.there | with_reducible assumption | (unfold I64; omega) | (with_reducible (have hMx := Mem.undrew hM; exact hMx)) | (with_reducible (have hMx := Mem.undrew hMp; exact hMx))))
  clear hM
  intro wst hM
  (try simp only [World.size_alloc, World.size_setCell, World.heap_drewN, heapDrew, Nat.add_assoc, Nat.reduceAdd, List.setIfInBounds_toArray, List.set_cons_zero, List.set_cons_succ, List.cons_append, List.nil_append] at hM)
  replace hM := (hM.swap).toInts (xs := []) .here rfl (by simp) (by simp)
  obtain ⟨bS, hbS⟩ : ∃ b, wc2.heap.size + 1 = b := ⟨_, rfl⟩
  rw [hbS] at hM ⊢
  have HBS := Lib.hid hbS; clear hbS
  go_loopw [4] (fun s4 wr => ∃ (k : Nat) (a' : Option Addr) (c' : Nat) (xs : List Int), s4 = .int .i64 k ∧ k ≤ N ∧ Hid (xs.length = k) ∧ Hid (allB (-1) 10001 xs) ∧ Mem w0.heap.size w0 wr (intE a' k c' xs :: rowE bS 26 #[.int .i64 Wn, .int .i64 Hn, .slice a' k c'] :: rowE w.heap.size 26 #[.int .i64 0, .int .i64 0, .slice none 0 0] :: F (curE g ac nc cc (A + 4 + 2 * k)))) (fun s4 _ => N - (intOf s4).toNat)
  case atStart => exact ⟨0, _, _, [], rfl, Nat.zero_le _, Lib.hid rfl, Lib.hid (allB_nil _ _), hM⟩
  case round =>
    clear hM
    obtain ⟨k, a', c', xs, rfl, hk, HL, HX, hM⟩ := hrel
    obtain ⟨A2, hA2⟩ : ∃ A2, A + 4 + 2 * k = A2 := ⟨_, rfl⟩
    rw [hA2] at hM
    have hA3 : A2 ≤ 10000100 := by omega
    have HA2 := Lib.hid hA2; clear hA2
    by_cases hlt : k < N
    · skip
      obtain ⟨k1, f1, l1⟩ := hM.row (.there .here)
      go_upto_region 5 with fail
      clear k1 f1 l1
      apply Mem.atWpA
      · (repeat' (first | with_reducible exact hM | with_reducible exact hMp | with_reducible apply Mem.drew | with_reducible apply Mem.drewN | with_reducible apply Mem.alloc | with_reducible apply Mem.set | with_reducible exact Sto.row | ((with_reducible refine Sto.rowEq2 ?_ ?_); omega; rfl) | ((with_reducible refine Sto.rowEq ?_); omega) | with_reducible apply Sto.int | with_reducible apply Sto.there | with_reducible assumption | (unfold I64; omega) | (with_reducible (have hMx := Mem.undrew hM; exact hMx)) | (with_reducible (have hMx := Mem.undrew hMp; exact hMx))))
      clear hM
      intro wst hM
      (try simp only [World.size_alloc, World.size_setCell, World.heap_drewN, heapDrew, Nat.add_assoc, Nat.reduceAdd, List.setIfInBounds_toArray, List.set_cons_zero, List.set_cons_succ, List.cons_append, List.nil_append] at hM)
      replace hM := Mem.packEnd (G := F (curE g ac nc cc A2)) [intE a' k c' xs, rowE bS 26 #[.int .i64 Wn, .int .i64 Hn, .slice a' k c'], rowE w.heap.size 26 #[.int .i64 0, .int .i64 0, .slice none 0 0]] hM
      apply Mem.atWpA
      · (repeat' (first | with_reducible exact hM | with_reducible exact hMp | with_reducible apply Mem.drew | with_reducible apply Mem.drewN | with_reducible apply Mem.alloc | with_reducible apply Mem.set | with_reducible exact Sto.row | ((with_reducible refine Sto.rowEq2 ?_ ?_); omega; rfl) | ((with_reducible refine Sto.rowEq ?_); omega) | with_reducible apply Sto.int | with_reducible apply Sto.there | with_reducible assumption | (unfold I64; omega) | (with_reducible (have hMx := Mem.undrew hM; exact hMx)) | (with_reducible (have hMx := Mem.undrew hMp; exact hMx))))
      clear hM
      intro wst hM
      (try simp only [World.size_alloc, World.size_setCell, World.heap_drewN, heapDrew, Nat.add_assoc, Nat.reduceAdd, List.setIfInBounds_toArray, List.set_cons_zero, List.set_cons_succ, List.cons_append, List.nil_append] at hM)
      refine AtF.startA hM.tail.tail hM 8 (by kernel_rfl) ?_
      clear hM
      intro wd hM
      have hS := hM.tail.tail
      refine AtF.taked (i := 0) (v := ?_) (some 22) rfl rfl (by kernel_rfl) (by kernel_rfl) (by kernel_rfl) (anc_path [] _ _ (by kernel_rfl) (by kernel_rfl)) (fun _ _ _ h => h) (Or.inl ⟨by kernel_rfl, ?_⟩) hS rfl ?_
      rotate_left
      · (intro wS hSw; (try dsimp only at hSw); go_simp; (try rw [if_neg (by omega)]); try with_reducible rfl)
      simp only [Act.put, List.setIfInBounds_toArray, List.set_cons_zero, List.set_cons_succ]
      refine AtF.taked (i := 1) (v := ?_) (some 23) rfl rfl (by kernel_rfl) (by kernel_rfl) (by kernel_rfl) (anc_path [] _ _ (by kernel_rfl) (by kernel_rfl)) (fun _ _ _ h => h) (Or.inl ⟨by kernel_rfl, ?_⟩) hS rfl ?_
      rotate_left
      · (intro wS hSw; (try dsimp only at hSw); have kr0 := (Mem.row hSw .here).cell; go_simp; (try rw [if_neg (by omega)]); try with_reducible rfl)
      simp only [Act.put, List.setIfInBounds_toArray, List.set_cons_zero, List.set_cons_succ]
      refine AtF.taked (i := 2) (v := ?_) (some 24) rfl rfl (by kernel_rfl) (by kernel_rfl) (by kernel_rfl) (anc_path [] _ _ (by kernel_rfl) (by kernel_rfl)) (fun _ _ _ h => h) (Or.inl ⟨by kernel_rfl, ?_⟩) hS rfl ?_
      rotate_left
      · (intro wS hSw; (try dsimp only at hSw); go_simp; (try rw [if_neg (by omega)]); try with_reducible rfl)
      simp only [Act.put, List.setIfInBounds_toArray, List.set_cons_zero, List.set_cons_succ]
      refine AtF.only (i := 3) (by kernel_rfl) rfl rfl ?_
      intro K hK
      go_simp
      refine hK.out _ _ (by apply Mem.tail; apply Mem.tail; apply Mem.tail; (repeat' (first | with_reducible exact hM | with_reducible exact hMp | with_reducible apply Mem.drew | with_reducible apply Mem.drewN | with_reducible apply Mem.alloc | with_reducible apply Mem.set | with_reducible exact Sto.row | ((with_reducible refine Sto.rowEq2 ?_ ?_); omega; rfl) | ((with_reducible refine Sto.rowEq ?_); omega) | with_reducible apply Sto.int | with_reducible apply Sto.there | with_reducible assumption | (unfold I64; omega) | (with_reducible (have hMx := Mem.undrew hM; exact hMx)) | (with_reducible (have hMx := Mem.undrew hMp; exact hMx))))) ?_
      clear hK K hS
      have hMp := hM
      apply Mem.atF
      · (repeat' (first | with_reducible exact hM | with_reducible exact hMp | with_reducible apply Mem.drew | with_reducible apply Mem.drewN | with_reducible apply Mem.alloc | with_reducible apply Mem.set | with_reducible exact Sto.row | ((with_reducible refine Sto.rowEq2 ?_ ?_); omega; rfl) | ((with_reducible refine Sto.rowEq ?_); omega) | with_reducible apply Sto.int | with_reducible apply Sto.there | with_reducible assumption | (unfold I64; omega) | (with_reducible (have hMx := Mem.undrew hM; exact hMx)) | (with_reducible (have hMx := Mem.undrew hMp; exact hMx))))
      clear hM
      intro hM
      (try simp only [World.size_alloc, World.size_setCell, World.heap_drewN, heapDrew, Nat.add_assoc, Nat.reduceAdd, List.setIfInBounds_toArray, List.set_cons_zero, List.set_cons_succ, List.cons_append, List.nil_append] at hM)
      have hS := hM.tail.tail.tail
      refine AtF.only (i := 4) (by kernel_rfl) rfl rfl ?_
      intro K hK
      go_simp
      have hU := Mem.unpackAt [_] hM
      refine (among_any [0, 0, 0, 1, 9, 10, 15, 100, 999] HC.out hU (.there ((HP.out.again _).app [] _)) (fun _ => .here) rfl (by decide) (by decide) (by omega) (by decide)).mono ?_
      rintro e w3 ⟨x, hx, rfl, hm⟩
      obtain ⟨x0, x1⟩ := amb 0 999 hx (by decide)
      clear hU hM hx
      have hM := Mem.packAt [_] hm
      clear hm
      dsimp only [List.cons_append, List.nil_append] at hM
      try dsimp only
      refine hK.out _ _ (hM.tail.tail.tail) ?_
      clear hK K hS
      have hS := hM.tail.tail.tail
      refine AtF.only (i := 5) (by kernel_rfl) rfl rfl ?_
      intro K hK
      go_simp
      refine hK.out _ _ (by apply Mem.tail; apply Mem.tail; apply Mem.tail; apply Mem.tail; (repeat' (first | with_reducible exact hM | with_reducible exact hMp | with_reducible apply Mem.drew | with_reducible apply Mem.drewN | with_reducible apply Mem.alloc | with_reducible apply Mem.set | with_reducible exact Sto.row | ((with_reducible refine Sto.rowEq2 ?_ ?_); omega; rfl) | ((with_reducible refine Sto.rowEq ?_); omega) | with_reducible apply Sto.int | with_reducible apply Sto.there | with_reducible assumption | (unfold I64; omega) | (with_reducible (have hMx := Mem.undrew hM; exact hMx)) | (with_reducible (have hMx := Mem.undrew hMp; exact hMx))))) ?_
      clear hK K hS
      have hMp := hM
      apply Mem.atF
      · (repeat' (first | with_reducible exact hM | with_reducible exact hMp | with_reducible apply Mem.drew | with_reducible apply Mem.drewN | with_reducible apply Mem.alloc | with_reducible apply Mem.set | with_reducible exact Sto.row | ((with_reducible refine Sto.rowEq2 ?_ ?_); omega; rfl) | ((with_reducible refine Sto.rowEq ?_); omega) | with_reducible apply Sto.int | with_reducible apply Sto.there | with_reducible assumption | (unfold I64; omega) | (with_reducible (have hMx := Mem.undrew hM; exact hMx)) | (with_reducible (have hMx := Mem.undrew hMp; exact hMx))))
      clear hM
      intro hM
      (try simp only [World.size_alloc, World.size_setCell, World.heap_drewN, heapDrew, Nat.add_assoc, Nat.reduceAdd, List.setIfInBounds_toArray, List.set_cons_zero, List.set_cons_succ, List.cons_append, List.nil_append] at hM)
      have hS := hM.tail.tail.tail.tail
      refine AtF.only (i := 6) (by kernel_rfl) rfl rfl ?_
      intro K hK
      refine step_appM hM (fun _ => (.there (.there (.there .here)))) (hM.oneI .here (by unfold I64; omega)) (by omega) rfl (.tmp 23) (.tmp 27) 24 Try.underlying24 rfl rfl rfl ?_
      clear hM
      intro a6 c6 w6 hM
      try dsimp only
      refine hK.out _ _ (hM.tail.tail.tail.tail) ?_
      clear hK K hS
      have hS := hM.tail.tail.tail.tail
      refine AtF.taked (i := 7) (v := ?_) (some 29) rfl rfl (by kernel_rfl) (by kernel_rfl) (by kernel_rfl) (anc_path [] _ _ (by kernel_rfl) (by kernel_rfl)) (fun _ _ _ h => h) (Or.inl ⟨by kernel_rfl, ?_⟩) hS rfl ?_
      rotate_left
      · (intro wS hSw; (try dsimp only at hSw); go_simp; (try rw [if_neg (by omega)]); try with_reducible rfl)
      simp only [Act.put, List.setIfInBounds_toArray, List.set_cons_zero, List.set_cons_succ]
      refine AtF.last (by kernel_rfl) rfl (by kernel_rfl) ?_
      intro K hK
      clear hS
      have kk0 := (hM.row .here).cell
      have ff0 := (hM.row .here).free
      have ll0 := (hM.row .here).lt
      have kk1 := (hM.row (.there .here)).cell
      have ff1 := (hM.row (.there .here)).free
      have ll1 := (hM.row (.there .here)).lt
      have kk4 := (hM.row (.there (.there (.there (.there .here))))).cell
      have ff4 := (hM.row (.there (.there (.there (.there .here))))).free
      have ll4 := (hM.row (.there (.there (.there (.there .here))))).lt
      go_simp
      clear kk0 ff0 ll0 kk1 ff1 ll1 kk4 ff4 ll4
      refine hK.out _ _ ?_
      clear hK K
      apply Mem.atEx
      · (repeat' (first | with_reducible exact hM | with_reducible exact hMp | with_reducible apply Mem.drew | with_reducible apply Mem.drewN | with_reducible apply Mem.alloc | with_reducible apply Mem.set | with_reducible exact Sto.row | ((with_reducible refine Sto.rowEq2 ?_ ?_); omega; rfl) | ((with_reducible refine Sto.rowEq ?_); omega) | with_reducible apply Sto.int | with_reducible apply Sto.there | with_reducible assumption | (unfold I64; omega) | (with_reducible (have hMx := Mem.undrew hM; exact hMx)) | (with_reducible (have hMx := Mem.undrew hMp; exact hMx))))
      clear hM
      intro wst hM
      (try simp only [World.size_alloc, World.size_setCell, World.heap_drewN, heapDrew, Nat.add_assoc, Nat.reduceAdd, List.setIfInBounds_toArray, List.set_cons_zero, List.set_cons_succ, List.cons_append, List.nil_append] at hM)
      replace hM := hM.tail.tail
      replace hM := Mem.unpackEnd [intE a6 (k + 1) c6 (xs ++ [x]), rowE bS 26 #[.int .i64 Wn, .int .i64 Hn, .slice a6 (k + 1) c6], rowE w.heap.size 26 #[.int .i64 0, .int .i64 0, .slice none 0 0]] hM
      dsimp only [List.cons_append, List.nil_append] at hM
      go_wp2
      go_roundw
      case rel => exact ⟨k + 1, a6, c6, xs ++ [x], by go_num, by omega, Lib.hid (by simp [HL.out]), Lib.hid (allB_snoc HX.out ⟨by omega, by omega⟩), hM.curMore (.there (.there (.there (HP.out.again _)))) (by have := HA2.out; omega)⟩
      case measure => simp [intOf]; omega
    · obtain rfl : k = N := by omega
      obtain rfl : xs.length = k := HL.out
      replace hM := hM.curMore (A' := A + 60) (.there (.there (.there (HP.out.again _)))) (by have := HA2.out; omega)
      clear HL HA2 hlt
      obtain ⟨k1, f1, l1⟩ := hM.row (.there .here)
      go_wp2_with fail
      clear k1 f1 l1
      apply Mem.atA
      · (repeat' (first | with_reducible exact hM | with_reducible exact hMp | with_reducible apply Mem.drew | with_reducible apply Mem.drewN | with_reducible apply Mem.alloc | with_reducible apply Mem.set | with_reducible exact Sto.row | ((with_reducible refine Sto.rowEq2 ?_ ?_); omega; rfl) | ((with_reducible refine Sto.rowEq ?_); omega) | with_reducible apply Sto.int | with_reducible apply Sto.there | with_reducible assumption | (unfold I64; omega) | (with_reducible (have hMx := Mem.undrew hM; exact hMx)) | (with_reducible (have hMx := Mem.undrew hMp; exact hMx))))
      clear hM
      intro wst hM
      (try simp only [World.size_alloc, World.size_setCell, World.heap_drewN, heapDrew, Nat.add_assoc, Nat.reduceAdd, List.setIfInBounds_toArray, List.set_cons_zero, List.set_cons_succ, List.cons_append, List.nil_append] at hM)
      refine (pick_any 32 HC.out hM (.there (.there (.there (HP.out.again _)))) (by omega)).mono ?_
      rintro e wc5 ⟨r, hr, hr2, rfl, hm⟩
      clear hM
      have hM := hm
      clear hm
      try dsimp only at hM
      clear hr hr2
      by_cases h0 : r = 0
      · subst h0
        have hw3 : IntKind.i64.wrap ((Wn : Int) + 1) = (Wn : Int) + 1 := by rw [wrap_in (by omega)]
        obtain ⟨k1, f1, l1⟩ := hM.row (.there .here)
        go_wp2_with fail
        clear k1 f1 l1
        apply Mem.atA
        · (repeat' (first | with_reducible exact hM | with_reducible exact hMp | with_reducible apply Mem.drew | with_reducible apply Mem.drewN | with_reducible apply Mem.alloc | with_reducible apply Mem.set | with_reducible exact Sto.row | ((with_reducible refine Sto.rowEq2 ?_ ?_); omega; rfl) | ((with_reducible refine Sto.rowEq ?_); omega) | with_reducible apply Sto.int | with_reducible apply Sto.there | with_reducible assumption | (unfold I64; omega) | (with_reducible (have hMx := Mem.undrew hM; exact hMx)) | (with_reducible (have hMx := Mem.undrew hMp; exact hMx))))
        clear hM
        intro wst hM
        (try simp only [World.size_alloc, World.size_setCell, World.heap_drewN, heapDrew, Nat.add_assoc, Nat.reduceAdd, List.setIfInBounds_toArray, List.set_cons_zero, List.set_cons_succ, List.cons_append, List.nil_append] at hM)
        refine (among_any [0, 6, (Wn : Int) + 1] HC.out hM (.there (.there (.there (.there (HP.out.again _))))) (fun _ => .here) rfl (by decide) (by simp) (by omega) (by decide)).mono ?_
        rintro e wc6 ⟨x, hx, rfl, hm⟩
        clear hM
        have hM := hm
        clear hm
        try dsimp only at hM
        have hxb : 0 ≤ x ∧ x ≤ 6 := by
          simp only [List.mem_cons, List.mem_nil_iff, or_false] at hx
          omega
        clear hx
        obtain ⟨k2, f2, l2⟩ := hM.row (.there (.there .here))
        go_upto_region 13 with fail
        clear k2 f2 l2
        apply Mem.atWpA
        · (repeat' (first | with_reducible exact hM | with_reducible exact hMp | with_reducible apply Mem.drew | with_reducible apply Mem.drewN | with_reducible apply Mem.alloc | with_reducible apply Mem.set | with_reducible exact Sto.row | ((with_reducible refine Sto.rowEq2 ?_ ?_); omega; rfl) | ((with_reducible refine Sto.rowEq ?_); omega) | with_reducible apply Sto.int | with_reducible apply Sto.there | with_reducible assumption | (unfold I64; omega) | (with_reducible (have hMx := Mem.undrew hM; exact hMx)) | (with_reducible (have hMx := Mem.undrew hMp; exact hMx))))
        clear hM
        intro wst hM
        (try simp only [World.size_alloc, World.size_setCell, World.heap_drewN, heapDrew, Nat.add_assoc, Nat.reduceAdd, List.setIfInBounds_toArray, List.set_cons_zero, List.set_cons_succ, List.cons_append, List.nil_append] at hM)
        obtain ⟨k2, f2, l2⟩ := hM.row (.there (.there .here))
        obtain ⟨k3, f3, l3⟩ := hM.row (.there (.there (.there .here)))
        go_wp2
        refine bodyPost_ret (v := .agg #[.int .i64 x, .int .i64 Hn, .slice a' xs.length c']) (by simp [results, Try.results60, go_sem, k2, k3]) rfl ⟨x, Hn, a', c', xs, hxb, by omega, by omega, HX.out, rfl, ?_⟩
        apply Mem.curMore (hA := show A + 64 ≤ A + 100 by omega) (p := .there (HP.out.again _))
        apply Mem.out4
        (repeat' (first | with_reducible exact hM | with_reducible exact hMp | with_reducible apply Mem.drew | with_reducible apply Mem.drewN | with_reducible apply Mem.alloc | with_reducible apply Mem.set | with_reducible exact Sto.row | ((with_reducible refine Sto.rowEq2 ?_ ?_); omega; rfl) | ((with_reducible refine Sto.rowEq ?_); omega) | with_reducible apply Sto.int | with_reducible apply Sto.there | with_reducible assumption | (unfold I64; omega) | (with_reducible (have hMx := Mem.undrew hM; exact hMx)) | (with_reducible (have hMx := Mem.undrew hMp; exact hMx))))
      by_cases h1 : r = 1
      · subst h1
        obtain ⟨gg, rfl, -⟩ := (hM.ints .here).head (by omega)
        have hcap := (hM.ints .here).ints.cap
        have hpos : 0 < xs.length := by omega
        obtain ⟨k1, f1, l1⟩ := hM.row (.there .here)
        go_upto_region 10 with fail
        clear k1 f1 l1
        apply Mem.atWpA
        · (repeat' (first | with_reducible exact hM | with_reducible exact hMp | with_reducible apply Mem.drew | with_reducible apply Mem.drewN | with_reducible apply Mem.alloc | with_reducible apply Mem.set | with_reducible exact Sto.row | ((with_reducible refine Sto.rowEq2 ?_ ?_); omega; rfl) | ((with_reducible refine Sto.rowEq ?_); omega) | with_reducible apply Sto.int | with_reducible apply Sto.there | with_reducible assumption | (unfold I64; omega) | (with_reducible (have hMx := Mem.undrew hM; exact hMx)) | (with_reducible (have hMx := Mem.undrew hMp; exact hMx))))
        clear hM
        intro wst hM
        (try simp only [World.size_alloc, World.size_setCell, World.heap_drewN, heapDrew, Nat.add_assoc, Nat.reduceAdd, List.setIfInBounds_toArray, List.set_cons_zero, List.set_cons_succ, List.cons_append, List.nil_append] at hM)
        replace hM := Mem.packEnd (G := F (curE g ac nc cc (A + 62))) [intE (some ⟨gg, 0, none⟩) xs.length c' xs, rowE bS 26 #[.int .i64 Wn, .int .i64 Hn, .slice (some ⟨gg, 0, none⟩) xs.length c'], rowE w.heap.size 26 #[.int .i64 0, .int .i64 0, .slice none 0 0]] hM
        apply Mem.atWpA
        · (repeat' (first | with_reducible exact hM | with_reducible exact hMp | with_reducible apply Mem.drew | with_reducible apply Mem.drewN | with_reducible apply Mem.alloc | with_reducible apply Mem.set | with_reducible exact Sto.row | ((with_reducible refine Sto.rowEq2 ?_ ?_); omega; rfl) | ((with_reducible refine Sto.rowEq ?_); omega) | with_reducible apply Sto.int | with_reducible apply Sto.there | with_reducible assumption | (unfold I64; omega) | (with_reducible (have hMx := Mem.undrew hM; exact hMx)) | (with_reducible (have hMx := Mem.undrew hMp; exact hMx))))
        clear hM
        intro wst hM
        (try simp only [World.size_alloc, World.size_setCell, World.heap_drewN, heapDrew, Nat.add_assoc, Nat.reduceAdd, List.setIfInBounds_toArray, List.set_cons_zero, List.set_cons_succ, List.cons_append, List.nil_append] at hM)
        refine AtF.startA hM.tail.tail hM 6 (by kernel_rfl) ?_
        clear hM
        intro wd hM
        have hS := hM.tail.tail
        refine AtF.taked (i := 0) (v := ?_) (some 43) rfl rfl (by kernel_rfl) (by kernel_rfl) (by kernel_rfl) (anc_path [] _ _ (by kernel_rfl) (by kernel_rfl)) (fun _ _ _ h => h) (Or.inl ⟨by kernel_rfl, ?_⟩) hS rfl ?_
        rotate_left
        · (intro wS hSw; (try dsimp only at hSw); go_simp; (try rw [if_neg (by omega)]); try with_reducible rfl)
        simp only [Act.put, List.setIfInBounds_toArray, List.set_cons_zero, List.set_cons_succ]
        refine AtF.taked (i := 1) (v := ?_) (some 44) rfl rfl (by kernel_rfl) (by kernel_rfl) (by kernel_rfl) (anc_path [] _ _ (by kernel_rfl) (by kernel_rfl)) (fun _ _ _ h => h) (Or.inl ⟨by kernel_rfl, ?_⟩) hS rfl ?_
        rotate_left
        · (intro wS hSw; (try dsimp only at hSw); have kr0 := (Mem.row hSw .here).cell; go_simp; (try rw [if_neg (by omega)]); try with_reducible rfl)
        simp only [Act.put, List.setIfInBounds_toArray, List.set_cons_zero, List.set_cons_succ]
        refine AtF.taked (i := 2) (v := ?_) (some 45) rfl rfl (by kernel_rfl) (by kernel_rfl) (by kernel_rfl) (anc_path [] _ _ (by kernel_rfl) (by kernel_rfl)) (fun _ _ _ h => h) (Or.inl ⟨by kernel_rfl, ?_⟩) hS rfl ?_
        rotate_left
        · (intro wS hSw; (try dsimp only at hSw); go_simp; (try rw [if_neg (by omega)]); try with_reducible rfl)
        simp only [Act.put, List.setIfInBounds_toArray, List.set_cons_zero, List.set_cons_succ]
        refine AtF.only (i := 3) (by kernel_rfl) rfl rfl ?_
        intro K hK
        go_simp
        refine hK.out _ _ (by apply Mem.tail; apply Mem.tail; apply Mem.tail; (repeat' (first | with_reducible exact hM | with_reducible exact hMp | with_reducible apply Mem.drew | with_reducible apply Mem.drewN | with_reducible apply Mem.alloc | with_reducible apply Mem.set | with_reducible exact Sto.row | ((with_reducible refine Sto.rowEq2 ?_ ?_); omega; rfl) | ((with_reducible refine Sto.rowEq ?_); omega) | with_reducible apply Sto.int | with_reducible apply Sto.there | with_reducible assumption | (unfold I64; omega) | (with_reducible (have hMx := Mem.undrew hM; exact hMx)) | (with_reducible (have hMx := Mem.undrew hMp; exact hMx))))) ?_
        clear hK K hS
        have hMp := hM
        apply Mem.atF
        · (repeat' (first | with_reducible exact hM | with_reducible exact hMp | with_reducible apply Mem.drew | with_reducible apply Mem.drewN | with_reducible apply Mem.alloc | with_reducible apply Mem.set | with_reducible exact Sto.row | ((with_reducible refine Sto.rowEq2 ?_ ?_); omega; rfl) | ((with_reducible refine Sto.rowEq ?_); omega) | with_reducible apply Sto.int | with_reducible apply Sto.there | with_reducible assumption | (unfold I64; omega) | (with_reducible (have hMx := Mem.undrew hM; exact hMx)) | (with_reducible (have hMx := Mem.undrew hMp; exact hMx))))
        clear hM
        intro hM
        (try simp only [World.size_alloc, World.size_setCell, World.heap_drewN, heapDrew, Nat.add_assoc, Nat.reduceAdd, List.setIfInBounds_toArray, List.set_cons_zero, List.set_cons_succ, List.cons_append, List.nil_append] at hM)
        have hS := hM.tail.tail.tail
        refine AtF.only (i := 4) (by kernel_rfl) rfl rfl ?_
        intro K hK
        go_simp
        have hU := Mem.unpackAt [_] hM
        refine (among_any [-1, 10000, 10001] HC.out hU (.there ((HP.out.again _).app [] _)) (fun _ => .here) rfl (by decide) (by decide) (by omega) (by decide)).mono ?_
        rintro e w3 ⟨x, hx, rfl, hm⟩
        obtain ⟨x0, x1⟩ := amb (-1) 10001 hx (by decide)
        clear hU hM hx
        have hM := Mem.packAt [_] hm
        clear hm
        dsimp only [List.cons_append, List.nil_append] at hM
        try dsimp only
        refine hK.out _ _ (hM.tail.tail.tail) ?_
        clear hK K hS
        have hS := hM.tail.tail.tail
        refine AtF.taked (i := 5) (v := ?_) (some 48) rfl rfl (by kernel_rfl) (by kernel_rfl) (by kernel_rfl) (anc_path [] _ _ (by kernel_rfl) (by kernel_rfl)) (fun _ _ _ h => h) (Or.inl ⟨by kernel_rfl, ?_⟩) hS rfl ?_
        rotate_left
        · (intro wS hSw; (try dsimp only at hSw); have kr0 := (Mem.row hSw .here).cell; go_simp; (try rw [if_neg (by omega)]); try with_reducible rfl)
        simp only [Act.put, List.setIfInBounds_toArray, List.set_cons_zero, List.set_cons_succ]
        refine AtF.last (by kernel_rfl) rfl (by kernel_rfl) ?_
        intro K hK
        clear hS
        have kk0 := (hM.row .here).cell
        have ff0 := (hM.row .here).free
        have ll0 := (hM.row .here).lt
        have kk3 := (hM.row (.there (.there (.there .here)))).cell
        have ff3 := (hM.row (.there (.there (.there .here)))).free
        have ll3 := (hM.row (.there (.there (.there .here)))).lt
        have hce := (hM.ints (.there (.there .here))).cellAt (k := 0) (by omega)
        have hfe := (hM.ints (.there (.there .here))).freeAt 0
        go_simp
        clear kk0 ff0 ll0 kk3 ff3 ll3
        refine hK.out _ _ ?_
        clear hK K
        apply Mem.atEx
        · (repeat' (first | with_reducible exact hM | with_reducible exact hMp | with_reducible apply Mem.drew | with_reducible apply Mem.drewN | with_reducible apply Mem.alloc | with_reducible apply Mem.set | with_reducible exact Sto.row | ((with_reducible refine Sto.rowEq2 ?_ ?_); omega; rfl) | ((with_reducible refine Sto.rowEq ?_); omega) | with_reducible apply Sto.int | with_reducible apply Sto.there | with_reducible assumption | (unfold I64; omega) | (with_reducible (have hMx := Mem.undrew hM; exact hMx)) | (with_reducible (have hMx := Mem.undrew hMp; exact hMx))))
        clear hM
        intro wst hM
        (try simp only [World.size_alloc, World.size_setCell, World.heap_drewN, heapDrew, Nat.add_assoc, Nat.reduceAdd, List.setIfInBounds_toArray, List.set_cons_zero, List.set_cons_succ, List.cons_append, List.nil_append] at hM)
        replace hM := hM.tail
        replace hM := Mem.unpackEnd [intE (some ⟨gg, 0, none⟩) xs.length c' (xs.set 0 x), rowE bS 26 #[.int .i64 Wn, .int .i64 Hn, .slice (some ⟨gg, 0, none⟩) xs.length c'], rowE w.heap.size 26 #[.int .i64 0, .int .i64 0, .slice none 0 0]] hM
        dsimp only [List.cons_append, List.nil_append] at hM
        obtain ⟨k1, f1, l1⟩ := hM.row (.there .here)
        obtain ⟨k2, f2, l2⟩ := hM.row (.there (.there .here))
        go_wp2
        refine bodyPost_ret (v := .agg #[.int .i64 Wn, .int .i64 Hn, .slice (some ⟨gg, 0, none⟩) xs.length c']) (by simp [results, Try.results60, go_sem, k1, k2]) rfl ⟨Wn, Hn, some ⟨gg, 0, none⟩, c', xs.set 0 x, by omega, by omega, by rw [List.length_set]; omega, allB_set HX.out ⟨by omega, by omega⟩, by rw [List.length_set], ?_⟩
        rw [List.length_set]
        apply Mem.curMore (hA := show A + 64 ≤ A + 100 by omega) (p := .there (HP.out.again _))
        apply Mem.out3
        (repeat' (first | with_reducible exact hM | with_reducible exact hMp | with_reducible apply Mem.drew | with_reducible apply Mem.drewN | with_reducible apply Mem.alloc | with_reducible apply Mem.set | with_reducible exact Sto.row | ((with_reducible refine Sto.rowEq2 ?_ ?_); omega; rfl) | ((with_reducible refine Sto.rowEq ?_); omega) | with_reducible apply Sto.int | with_reducible apply Sto.there | with_reducible assumption | (unfold I64; omega) | (with_reducible (have hMx := Mem.undrew hM; exact hMx)) | (with_reducible (have hMx := Mem.undrew hMp; exact hMx))))
      by_cases h2 : r = 2
      · subst h2
        obtain ⟨k1, f1, l1⟩ := hM.row (.there .here)
        go_wp2_with (at_builtin; apply Mem.atL; (focus ((repeat' (first | with_reducible exact hM | with_reducible exact hMp | with_reducible apply Mem.drew | with_reducible apply Mem.drewN | with_reducible apply Mem.alloc | with_reducible apply Mem.set | with_reducible exact Sto.row | ((with_reducible refine Sto.rowEq2 ?_ ?_); omega; rfl) | ((with_reducible refine Sto.rowEq ?_); omega) | with_reducible apply Sto.int | with_reducible apply Sto.there | with_reducible assumption | (unfold I64; omega) | (with_reducible (have hMx := Mem.undrew hM; exact hMx)) | (with_reducible (have hMx := Mem.undrew hMp; exact hMx)))); done)); clear hM k1 f1 l1; intro hM; refine wpList_pushI hM (fun _ => .here) (by unfold I64; omega) (by omega) rfl _ _ _ Try.underlying24 rfl rfl rfl ?_)
        intro a6 c6 w6 hM
        obtain ⟨k1, f1, l1⟩ := hM.row (.there .here)
        go_upto_region 13 with fail
        clear k1 f1 l1
        apply Mem.atWpA
        · (repeat' (first | with_reducible exact hM | with_reducible exact hMp | with_reducible apply Mem.drew | with_reducible apply Mem.drewN | with_reducible apply Mem.alloc | with_reducible apply Mem.set | with_reducible exact Sto.row | ((with_reducible refine Sto.rowEq2 ?_ ?_); omega; rfl) | ((with_reducible refine Sto.rowEq ?_); omega) | with_reducible apply Sto.int | with_reducible apply Sto.there | with_reducible assumption | (unfold I64; omega) | (with_reducible (have hMx := Mem.undrew hM; exact hMx)) | (with_reducible (have hMx := Mem.undrew hMp; exact hMx))))
        clear hM
        intro wst hM
        (try simp only [World.size_alloc, World.size_setCell, World.heap_drewN, heapDrew, Nat.add_assoc, Nat.reduceAdd, List.setIfInBounds_toArray, List.set_cons_zero, List.set_cons_succ, List.cons_append, List.nil_append] at hM)
        obtain ⟨k1, f1, l1⟩ := hM.row (.there .here)
        obtain ⟨k2, f2, l2⟩ := hM.row (.there (.there .here))
        go_wp2
        refine bodyPost_ret (v := .agg #[.int .i64 Wn, .int .i64 Hn, .slice a6 (xs.length + 1) c6]) (by simp [results, Try.results60, go_sem, k1, k2]) rfl ⟨Wn, Hn, a6, c6, xs ++ [0], by omega, by omega, by rw [List.length_append]; simp; omega, allB_snoc HX.out (by omega), by simp, ?_⟩
        rw [List.length_append, List.length_singleton]
        apply Mem.curMore (hA := show A + 62 ≤ A + 100 by omega) (p := .there (HP.out.again _))
        apply Mem.out3
        (repeat' (first | with_reducible exact hM | with_reducible exact hMp | with_reducible apply Mem.drew | with_reducible apply Mem.drewN | with_reducible apply Mem.alloc | with_reducible apply Mem.set | with_reducible exact Sto.row | ((with_reducible refine Sto.rowEq2 ?_ ?_); omega; rfl) | ((with_reducible refine Sto.rowEq ?_); omega) | with_reducible apply Sto.int | with_reducible apply Sto.there | with_reducible assumption | (unfold I64; omega) | (with_reducible (have hMx := Mem.undrew hM; exact hMx)) | (with_reducible (have hMx := Mem.undrew hMp; exact hMx))))
      have h0' : ¬ (r : Int) = 0 := by omega
      have h1' : ¬ (r : Int) = 1 := by omega
      have h2' : ¬ (r : Int) = 2 := by omega
      clear h0 h1 h2
      obtain ⟨k1, f1, l1⟩ := hM.row (.there .here)
      obtain ⟨k2, f2, l2⟩ := hM.row (.there (.there .here))
      go_wp2
      refine bodyPost_ret (v := .agg #[.int .i64 Wn, .int .i64 Hn, .slice a' xs.length c']) (by simp [results, Try.results60, go_sem, k1, k2]) rfl ⟨Wn, Hn, a', c', xs, by omega, by omega, by omega, HX.out, rfl, ?_⟩
      apply Mem.curMore (hA := show A + 62 ≤ A + 100 by omega) (p := .there (HP.out.again _))
      apply Mem.out3
      (repeat' (first | with_reducible exact hM | with_reducible exact hMp | with_reducible apply Mem.drew | with_reducible apply Mem.drewN | with_reducible apply Mem.alloc | with_reducible apply Mem.set | with_reducible exact Sto.row | ((with_reducible refine Sto.rowEq2 ?_ ?_); omega; rfl) | ((with_reducible refine Sto.rowEq ?_); omega) | with_reducible apply Sto.int | with_reducible apply Sto.there | with_reducible assumption | (unfold I64; omega) | (with_reducible (have hMx := Mem.undrew hM; exact hMx)) | (with_reducible (have hMx := Mem.undrew hMp; exact hMx))))
end Go.Proofs.Ytdhgkfmehegeoaa
