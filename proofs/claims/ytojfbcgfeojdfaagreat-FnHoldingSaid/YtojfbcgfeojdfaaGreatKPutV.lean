/-
  spec.l1Put: a number put to its place in a list, once.
-/
import Derived.Test.YtojfbcgfeojdfaaGreatKNear4
/-
  spec.l1Put: a number put to its place in a list, once.
-/
namespace Go.Proofs.YtojfbcgfeojdfaaGreat
set_option linter.unusedSimpArgs false
set_option linter.unusedVariables false
open Go.RowKit

/-- where a number belongs in an ascending list -/
def putK (x : Int) : List Int → Nat
  | [] => 0
  | y :: ys => if y < x then putK x ys + 1 else 0
def putL (xs : List Int) (x : Int) : List Int := xs.take (putK x xs) ++ x :: xs.drop (putK x xs)
theorem putK_le (x : Int) : ∀ xs : List Int, putK x xs ≤ xs.length
  | [] => Nat.le_refl _
  | y :: ys => by
    unfold putK
    have := putK_le x ys
    split <;> simp <;> omega
theorem putK_lt (x : Int) : ∀ (xs : List Int) (k : Nat), k < putK x xs → xs.getD k 0 < x
  | [], k, h => by simp [putK] at h
  | y :: ys, k, h => by
    unfold putK at h
    split at h
    · cases k with
      | zero => simpa using ‹y < x›
      | succ k => simpa using putK_lt x ys k (by omega)
    · omega
theorem putK_ge (x : Int) : ∀ (xs : List Int), putK x xs < xs.length → ¬ xs.getD (putK x xs) 0 < x
  | [], h => by simp [putK] at h
  | y :: ys, h => by
    unfold putK at h ⊢
    split
    · rename_i hy
      rw [if_pos hy] at h
      simpa using putK_ge x ys (by simpa using h)
    · simpa using ‹¬ y < x›
theorem putL_mem {xs : List Int} {x y : Int} : y ∈ putL xs x ↔ y = x ∨ y ∈ xs := by
  unfold putL
  have : y ∈ xs ↔ y ∈ xs.take (putK x xs) ∨ y ∈ xs.drop (putK x xs) := by
    rw [← List.mem_append, List.take_append_drop]
  rw [List.mem_append, List.mem_cons, this]
  constructor
  · rintro (h | h | h)
    · exact .inr (.inl h)
    · exact .inl h
    · exact .inr (.inr h)
  · rintro (h | h | h)
    · exact .inr (.inl h)
    · exact .inl h
    · exact .inr (.inr h)
theorem putL_asc {x : Int} : ∀ {xs : List Int}, xs.Pairwise (· < ·) → x ∉ xs → (putL xs x).Pairwise (· < ·)
  | [], _, _ => by simp [putL, putK]
  | y :: ys, h, hx => by
    obtain ⟨h1, h2⟩ := List.pairwise_cons.1 h
    have hxy : x ≠ y := fun e => hx (by simp [e])
    have hxs : x ∉ ys := fun e => hx (by simp [e])
    unfold putL putK
    by_cases hy : y < x
    · rw [if_pos hy, List.take_succ_cons, List.drop_succ_cons, List.cons_append, List.pairwise_cons]
      refine ⟨fun z hz => ?_, putL_asc h2 hxs⟩
      rcases putL_mem.1 (show z ∈ putL ys x from hz) with rfl | hz
      · exact hy
      · exact h1 z hz
    · rw [if_neg hy, List.take_zero, List.drop_zero, List.nil_append, List.pairwise_cons]
      refine ⟨fun z hz => ?_, h⟩
      rcases List.mem_cons.1 hz with rfl | hz
      · omega
      · have := h1 z hz; omega
theorem putL_length (xs : List Int) (x : Int) : (putL xs x).length = xs.length + 1 := by
  unfold putL
  have := putK_le x xs
  rw [List.length_append, List.length_cons, List.length_take, List.length_drop]
  omega

set_option maxRecDepth 100000 in
set_option maxHeartbeats 4000000 in
theorem l1PutN_any (g off n c : Nat) (xs : List Int) (x : Int) (w : World) (h : Ints w (some ⟨g, off, none⟩) n c xs) (hxi : I64 x) (hn : n ≤ 1000) :
    Calls Tryz.prog 112 #[.slice (some ⟨g, off, none⟩) n c, .int .i64 x] w fun e w' => (x ∈ xs ∧ e = .returned (.slice (some ⟨g, off, none⟩) n c) ∧ Below w.heap.size w w') ∨ (∃ g' c', (putK x xs < xs.length → xs.getD (putK x xs) 0 ≠ x) ∧ e = .returned (.slice (some ⟨g', 0, none⟩) (n + 1) c') ∧ Mem w.heap.size w w' [intE (some ⟨g', 0, none⟩) (n + 1) c' (putL xs x)]) := by
  have hM := Mem.start w
  have hcap := h.cap
  have hcm := h.capm
  unfold maxLen at hcm
  have HL := Lib.hid h.len
  have hk1 := putK_le x xs
  rw [h.len] at hk1
  have HLT := Lib.hid (putK_lt x xs)
  have HGE := Lib.hid (putK_ge x xs)
  have heq : xs.take (putK x xs) ++ [x] ++ xs.drop (putK x xs) = putL xs x := by unfold putL; simp
  obtain ⟨q, hq⟩ : ∃ q, putK x xs = q := ⟨_, rfl⟩
  have HQ := Lib.hid hq
  rw [hq] at hk1 heq
  have HEQ := Lib.hid heq
  clear hq heq
  obtain ⟨i0, hi, hz0, hz1, hz2⟩ := info_parts Tryz.info3
  go_enter Tryz.func112, Tryz.ntmps112
  go_wp2_with fail
  go_loop [5] (fun i => ∃ k : Nat, k ≤ q ∧ i = .int .i64 k) (fun i => q - (intOf i).toNat)
  case atStart => exact ⟨0, Nat.zero_le _, rfl⟩
  case round =>
    obtain ⟨k, hk, rfl⟩ := hrel
    by_cases hlt : k < q
    · have hkn : k < n := by omega
      have hck := h.get hkn
      have hlx := HLT.out k (by rw [HQ.out]; exact hlt)
      obtain ⟨y, hy⟩ : ∃ y, xs.getD k 0 = y := ⟨_, rfl⟩
      rw [hy] at hck hlx
      clear hy
      go_wp2
      go_round
      case rel => exact ⟨k + 1, by omega, by go_num⟩
      case measure => simp [intOf]; omega
    · obtain rfl : k = q := by omega
      clear hlt
      by_cases hkn : k < n
      · have hck := h.get hkn
        have hge := HGE.out (by rw [HL.out, HQ.out]; exact hkn)
        rw [HQ.out] at hge
        have hmem := getD_mem (xs := xs) (k := k) (by rw [HL.out]; exact hkn)
        obtain ⟨y, hy⟩ : ∃ y, xs.getD k 0 = y := ⟨_, rfl⟩
        rw [hy] at hck hge hmem
        by_cases hne : y = x
        · subst hne
          have HMM := Lib.hid hmem
          have hyy : (y == y) = true := by simp
          clear hy hmem
          go_wp2
          go_ret
          exact .inl ⟨HMM.out, rfl, (by apply Mem.below; (exact memA))⟩
        have hne2 : (y == x) = false := by simpa using hne
        have HNE := Lib.hid (show putK x xs < xs.length → xs.getD (putK x xs) 0 ≠ x from fun _ => by rw [HQ.out, hy]; exact hne)
        have HI := Lib.hid h
        clear hy hmem hne
        have hck2 : ¬ c = k := by omega
        have k0 : (0 : Int) ≤ (k : Int) := by omega
        have k1 : (k : Int) ≤ (n : Int) := by omega
        have k2 : (k : Int) ≤ (c : Int) := by omega
        go_wp2_with fail
        apply Mem.atWp
        · exact memA
        clear hM hck
        intro hM
        refine AtT.startA hM hM 12 (by kernel_rfl) ?_
        clear hM
        intro wd hM
        have hS := hM
        refine AtT.tk 1 ?_ 34 ?_ hS ?_
        rotate_left
        · (intro wS hSw; (try dsimp only at hSw); go_simp; (try rw [if_neg (by omega)]); try with_reducible rfl)
        simp only [Act.put, sA]
        refine AtT.tk 2 ?_ 35 ?_ hS ?_
        rotate_left
        · (intro wS hSw; (try dsimp only at hSw); go_simp; (try rw [if_neg (by omega)]); try with_reducible rfl)
        simp only [Act.put, sA]
        refine AtT.tk 3 ?_ 36 ?_ hS ?_
        rotate_left
        · (intro wS hSw; (try dsimp only at hSw); go_simp; (try rw [if_neg (by omega)]); try with_reducible rfl)
        simp only [Act.put, sA]
        refine AtT.tk 5 ?_ 38 ?_ hS ?_
        rotate_left
        · (intro wS hSw; (try dsimp only at hSw); go_simp; (try rw [if_neg (by omega)]); try with_reducible rfl)
        simp only [Act.put, sA]
        refine AtT.tk 8 ?_ 41 ?_ hS ?_
        rotate_left
        · (intro wS hSw; (try dsimp only at hSw); go_simp; (try rw [if_neg (by omega)]); try with_reducible rfl)
        simp only [Act.put, sA]
        refine AtT.tk 9 ?_ 42 ?_ hS ?_
        rotate_left
        · (intro wS hSw; (try dsimp only at hSw); go_simp; (try rw [if_neg (by omega)]); try with_reducible rfl)
        simp only [Act.put, sA]
        refine AtT.tk 10 ?_ 43 ?_ hS ?_
        rotate_left
        · (intro wS hSw; (try dsimp only at hSw); go_simp; (try rw [if_neg (by omega)]); try with_reducible rfl)
        simp only [Act.put, sA]
        refine AtT.two (i := 0) (j := 6) (by kernel_rfl) rfl rfl rfl rfl ?_ ?_
        · skip
          intro K hK
          go_simp
          refine hK.out _ _ (by apply Mem.tail; (exact memA)) ?_
          clear hK K hS
          have hMp := hM
          apply Mem.atT
          · exact memA
          clear hM
          intro hM
          (try simp only [World.size_alloc, World.size_setCell, World.heap_drewN, heapDrew, Nat.add_assoc, Nat.reduceAdd, sA, List.cons_append, List.nil_append] at hM)
          have hS := hM.tail
          refine AtT.two (i := 4) (j := 6) (by kernel_rfl) rfl rfl rfl rfl ?_ ?_
          · skip
            intro K hK
            replace hM := hM.toInts (xs := []) .here rfl (by simp) (by simp)
            refine step_appM hM (fun _ => .here) ((HI.out.ext hM.below).takeI (by omega)) (by first | omega | (simp; omega)) rfl _ _ _ Tryz.underlying24 rfl rfl rfl ?_
            clear hM
            intro a2 c2 w2 hM
            simp only [List.length_nil, Nat.zero_add, List.nil_append] at hM ⊢
            try dsimp only
            refine hK.out _ _ (hM.tail) ?_
            clear hK K hS
            have hS := hM.tail
            refine AtT.only (i := 6) (by kernel_rfl) rfl rfl ?_
            intro K hK
            go_simp
            refine hK.out _ _ (by apply Mem.tail; apply Mem.tail; (exact memA)) ?_
            clear hK K hS
            have hMp := hM
            apply Mem.atT
            · exact memA
            clear hM
            intro hM
            (try simp only [World.size_alloc, World.size_setCell, World.heap_drewN, heapDrew, Nat.add_assoc, Nat.reduceAdd, sA, List.cons_append, List.nil_append] at hM)
            have hS := hM.tail.tail
            refine AtT.only (i := 7) (by kernel_rfl) rfl rfl ?_
            intro K hK
            refine step_appM hM (fun _ => (.there .here)) (hM.oneI .here hxi) (by first | omega | (simp; omega)) rfl _ _ _ Tryz.underlying24 rfl rfl rfl ?_
            clear hM
            intro a3 c3 w3 hM
            try dsimp only
            refine hK.out _ _ (hM.tail.tail) ?_
            clear hK K hS
            have hS := hM.tail.tail
            refine AtT.only (i := 11) (by kernel_rfl) rfl rfl ?_
            intro K hK
            refine step_appM hM (fun _ => (.there .here)) ((HI.out.ext hM.below).dropI (by omega)) (by first | omega | (simp; omega)) rfl _ _ _ Tryz.underlying24 rfl rfl rfl ?_
            clear hM
            intro a4 c4 w4 hM
            rw [show k + 1 + (n - k) = n + 1 by omega, HEQ.out] at hM
            rw [show k + 1 + (n - k) = n + 1 by omega]
            try dsimp only
            refine hK.out _ _ (hM.tail.tail) ?_
            clear hK K hS
            have hS := hM.tail.tail
            refine AtT.last (by kernel_rfl) rfl (by kernel_rfl) ?_
            intro K hK
            clear hS
            go_simp
            refine hK.out _ _ ?_
            clear hK K
            go_wp2
            go_ret
            obtain ⟨g4, rfl, -⟩ := (hM.ints (.there .here)).head (by omega)
            refine .inr ⟨g4, _, HNE.out, rfl, ?_⟩
            apply Mem.pick (is := [1])
            · exact memA
            · decide
            · rfl
          · skip
            intro K hK
            go_simp
            refine hK.out _ _ (by apply Mem.tail; apply Mem.tail; (exact memA)) ?_
            clear hK K hS
            have hMp := hM
            apply Mem.atT
            · exact memA
            clear hM
            intro hM
            (try simp only [World.size_alloc, World.size_setCell, World.heap_drewN, heapDrew, Nat.add_assoc, Nat.reduceAdd, sA, List.cons_append, List.nil_append] at hM)
            have hS := hM.tail.tail
            refine AtT.only (i := 4) (by kernel_rfl) rfl rfl ?_
            intro K hK
            replace hM := hM.toInts (xs := []) (.there .here) rfl (by simp) (by simp)
            refine step_appM hM (fun _ => (.there .here)) ((HI.out.ext hM.below).takeI (by omega)) (by first | omega | (simp; omega)) rfl _ _ _ Tryz.underlying24 rfl rfl rfl ?_
            clear hM
            intro a2 c2 w2 hM
            simp only [List.length_nil, Nat.zero_add, List.nil_append] at hM ⊢
            try dsimp only
            refine hK.out _ _ (hM.tail.tail) ?_
            clear hK K hS
            have hS := hM.tail.tail
            refine AtT.only (i := 7) (by kernel_rfl) rfl rfl ?_
            intro K hK
            refine step_appM hM (fun _ => (.there .here)) (hM.oneI .here hxi) (by first | omega | (simp; omega)) rfl _ _ _ Tryz.underlying24 rfl rfl rfl ?_
            clear hM
            intro a3 c3 w3 hM
            try dsimp only
            refine hK.out _ _ (hM.tail.tail) ?_
            clear hK K hS
            have hS := hM.tail.tail
            refine AtT.only (i := 11) (by kernel_rfl) rfl rfl ?_
            intro K hK
            refine step_appM hM (fun _ => (.there .here)) ((HI.out.ext hM.below).dropI (by omega)) (by first | omega | (simp; omega)) rfl _ _ _ Tryz.underlying24 rfl rfl rfl ?_
            clear hM
            intro a4 c4 w4 hM
            rw [show k + 1 + (n - k) = n + 1 by omega, HEQ.out] at hM
            rw [show k + 1 + (n - k) = n + 1 by omega]
            try dsimp only
            refine hK.out _ _ (hM.tail.tail) ?_
            clear hK K hS
            have hS := hM.tail.tail
            refine AtT.last (by kernel_rfl) rfl (by kernel_rfl) ?_
            intro K hK
            clear hS
            go_simp
            refine hK.out _ _ ?_
            clear hK K
            go_wp2
            go_ret
            obtain ⟨g4, rfl, -⟩ := (hM.ints (.there .here)).head (by omega)
            refine .inr ⟨g4, _, HNE.out, rfl, ?_⟩
            apply Mem.pick (is := [1])
            · exact memA
            · decide
            · rfl
        · skip
          intro K hK
          go_simp
          refine hK.out _ _ (by apply Mem.tail; (exact memA)) ?_
          clear hK K hS
          have hMp := hM
          apply Mem.atT
          · exact memA
          clear hM
          intro hM
          (try simp only [World.size_alloc, World.size_setCell, World.heap_drewN, heapDrew, Nat.add_assoc, Nat.reduceAdd, sA, List.cons_append, List.nil_append] at hM)
          have hS := hM.tail
          refine AtT.only (i := 0) (by kernel_rfl) rfl rfl ?_
          intro K hK
          go_simp
          refine hK.out _ _ (by apply Mem.tail; apply Mem.tail; (exact memA)) ?_
          clear hK K hS
          have hMp := hM
          apply Mem.atT
          · exact memA
          clear hM
          intro hM
          (try simp only [World.size_alloc, World.size_setCell, World.heap_drewN, heapDrew, Nat.add_assoc, Nat.reduceAdd, sA, List.cons_append, List.nil_append] at hM)
          have hS := hM.tail.tail
          refine AtT.only (i := 4) (by kernel_rfl) rfl rfl ?_
          intro K hK
          replace hM := hM.toInts (xs := []) .here rfl (by simp) (by simp)
          refine step_appM hM (fun _ => .here) ((HI.out.ext hM.below).takeI (by omega)) (by first | omega | (simp; omega)) rfl _ _ _ Tryz.underlying24 rfl rfl rfl ?_
          clear hM
          intro a2 c2 w2 hM
          simp only [List.length_nil, Nat.zero_add, List.nil_append] at hM ⊢
          try dsimp only
          refine hK.out _ _ (hM.tail.tail) ?_
          clear hK K hS
          have hS := hM.tail.tail
          refine AtT.only (i := 7) (by kernel_rfl) rfl rfl ?_
          intro K hK
          refine step_appM hM (fun _ => .here) (hM.oneI (.there .here) hxi) (by first | omega | (simp; omega)) rfl _ _ _ Tryz.underlying24 rfl rfl rfl ?_
          clear hM
          intro a3 c3 w3 hM
          try dsimp only
          refine hK.out _ _ (hM.tail.tail) ?_
          clear hK K hS
          have hS := hM.tail.tail
          refine AtT.only (i := 11) (by kernel_rfl) rfl rfl ?_
          intro K hK
          refine step_appM hM (fun _ => .here) ((HI.out.ext hM.below).dropI (by omega)) (by first | omega | (simp; omega)) rfl _ _ _ Tryz.underlying24 rfl rfl rfl ?_
          clear hM
          intro a4 c4 w4 hM
          rw [show k + 1 + (n - k) = n + 1 by omega, HEQ.out] at hM
          rw [show k + 1 + (n - k) = n + 1 by omega]
          try dsimp only
          refine hK.out _ _ (hM.tail.tail) ?_
          clear hK K hS
          have hS := hM.tail.tail
          refine AtT.last (by kernel_rfl) rfl (by kernel_rfl) ?_
          intro K hK
          clear hS
          go_simp
          refine hK.out _ _ ?_
          clear hK K
          go_wp2
          go_ret
          obtain ⟨g4, rfl, -⟩ := (hM.ints .here).head (by omega)
          refine .inr ⟨g4, _, HNE.out, rfl, ?_⟩
          apply Mem.pick (is := [0])
          · exact memA
          · decide
          · rfl
      · obtain rfl : n = k := by omega
        have HI := Lib.hid h
        have HNE := Lib.hid (show putK x xs < xs.length → xs.getD (putK x xs) 0 ≠ x from fun hl => absurd hl (by rw [HL.out, HQ.out]; omega))
        have k0 : (0 : Int) ≤ (n : Int) := by omega
        have k2 : (n : Int) ≤ (c : Int) := by omega
        have HEQ2 := Lib.hid (show xs.drop n = [] from List.drop_of_length_le (by rw [HL.out]; exact Nat.le_refl _))
        have HEQ3 := Lib.hid (show xs.take n ++ [x] ++ [] = putL xs x by have := HEQ.out; rw [HEQ2.out] at this; exact this)
        by_cases hcn : c = n
        · subst hcn
          go_wp2_with fail
          apply Mem.atWp
          · exact memA
          clear hM
          intro hM
          refine AtT.startA hM hM 12 (by kernel_rfl) ?_
          clear hM
          intro wd hM
          have hS := hM
          refine AtT.tk 1 ?_ 34 ?_ hS ?_
          rotate_left
          · (intro wS hSw; (try dsimp only at hSw); go_simp; (try rw [if_neg (by omega)]); try with_reducible rfl)
          simp only [Act.put, sA]
          refine AtT.tk 2 ?_ 35 ?_ hS ?_
          rotate_left
          · (intro wS hSw; (try dsimp only at hSw); go_simp; (try rw [if_neg (by omega)]); try with_reducible rfl)
          simp only [Act.put, sA]
          refine AtT.tk 3 ?_ 36 ?_ hS ?_
          rotate_left
          · (intro wS hSw; (try dsimp only at hSw); go_simp; (try rw [if_neg (by omega)]); try with_reducible rfl)
          simp only [Act.put, sA]
          refine AtT.tk 5 ?_ 38 ?_ hS ?_
          rotate_left
          · (intro wS hSw; (try dsimp only at hSw); go_simp; (try rw [if_neg (by omega)]); try with_reducible rfl)
          simp only [Act.put, sA]
          refine AtT.tk 8 ?_ 41 ?_ hS ?_
          rotate_left
          · (intro wS hSw; (try dsimp only at hSw); go_simp; (try rw [if_neg (by omega)]); try with_reducible rfl)
          simp only [Act.put, sA]
          refine AtT.tk 9 ?_ 42 ?_ hS ?_
          rotate_left
          · (intro wS hSw; (try dsimp only at hSw); go_simp; (try rw [if_neg (by omega)]); try with_reducible rfl)
          simp only [Act.put, sA]
          refine AtT.tk 10 ?_ 43 ?_ hS ?_
          rotate_left
          · (intro wS hSw; (try dsimp only at hSw); go_simp; (try rw [if_neg (by omega)]); try with_reducible rfl)
          simp only [Act.put, sA]
          refine AtT.two (i := 0) (j := 6) (by kernel_rfl) rfl rfl rfl rfl ?_ ?_
          · skip
            intro K hK
            go_simp
            refine hK.out _ _ (by apply Mem.tail; (exact memA)) ?_
            clear hK K hS
            have hMp := hM
            apply Mem.atT
            · exact memA
            clear hM
            intro hM
            (try simp only [World.size_alloc, World.size_setCell, World.heap_drewN, heapDrew, Nat.add_assoc, Nat.reduceAdd, sA, List.cons_append, List.nil_append] at hM)
            have hS := hM.tail
            refine AtT.two (i := 4) (j := 6) (by kernel_rfl) rfl rfl rfl rfl ?_ ?_
            · skip
              intro K hK
              replace hM := hM.toInts (xs := []) .here rfl (by simp) (by simp)
              refine step_appM hM (fun _ => .here) ((HI.out.ext hM.below).takeI (Nat.le_refl _)) (by first | omega | (simp; omega)) rfl _ _ _ Tryz.underlying24 rfl rfl rfl ?_
              clear hM
              intro a2 c2 w2 hM
              simp only [List.length_nil, Nat.zero_add, List.nil_append] at hM ⊢
              try dsimp only
              refine hK.out _ _ (hM.tail) ?_
              clear hK K hS
              have hS := hM.tail
              refine AtT.only (i := 6) (by kernel_rfl) rfl rfl ?_
              intro K hK
              go_simp
              refine hK.out _ _ (by apply Mem.tail; apply Mem.tail; (exact memA)) ?_
              clear hK K hS
              have hMp := hM
              apply Mem.atT
              · exact memA
              clear hM
              intro hM
              (try simp only [World.size_alloc, World.size_setCell, World.heap_drewN, heapDrew, Nat.add_assoc, Nat.reduceAdd, sA, List.cons_append, List.nil_append] at hM)
              have hS := hM.tail.tail
              refine AtT.only (i := 7) (by kernel_rfl) rfl rfl ?_
              intro K hK
              refine step_appM hM (fun _ => (.there .here)) (hM.oneI .here hxi) (by first | omega | (simp; omega)) rfl _ _ _ Tryz.underlying24 rfl rfl rfl ?_
              clear hM
              intro a3 c3 w3 hM
              try dsimp only
              refine hK.out _ _ (hM.tail.tail) ?_
              clear hK K hS
              have hS := hM.tail.tail
              refine AtT.only (i := 11) (by kernel_rfl) rfl rfl ?_
              intro K hK
              refine step_appM hM (fun _ => (.there .here)) (xa := some ⟨g, off, none⟩) (m := 0) (cx := 0) (ys := []) (Ints.zeroI (by unfold maxLen; omega) (by simp)) (by first | omega | (simp; omega)) rfl _ _ _ Tryz.underlying24 rfl rfl rfl ?_
              clear hM
              intro a4 c4 w4 hM
              rw [Nat.add_zero, HEQ3.out] at hM
              rw [Nat.add_zero]
              try dsimp only
              refine hK.out _ _ (hM.tail.tail) ?_
              clear hK K hS
              have hS := hM.tail.tail
              refine AtT.last (by kernel_rfl) rfl (by kernel_rfl) ?_
              intro K hK
              clear hS
              go_simp
              refine hK.out _ _ ?_
              clear hK K
              go_wp2
              go_ret
              obtain ⟨g4, rfl, -⟩ := (hM.ints (.there .here)).head (by omega)
              refine .inr ⟨g4, _, HNE.out, rfl, ?_⟩
              apply Mem.pick (is := [1])
              · exact memA
              · decide
              · rfl
            · skip
              intro K hK
              go_simp
              refine hK.out _ _ (by apply Mem.tail; apply Mem.tail; (exact memA)) ?_
              clear hK K hS
              have hMp := hM
              apply Mem.atT
              · exact memA
              clear hM
              intro hM
              (try simp only [World.size_alloc, World.size_setCell, World.heap_drewN, heapDrew, Nat.add_assoc, Nat.reduceAdd, sA, List.cons_append, List.nil_append] at hM)
              have hS := hM.tail.tail
              refine AtT.only (i := 4) (by kernel_rfl) rfl rfl ?_
              intro K hK
              replace hM := hM.toInts (xs := []) (.there .here) rfl (by simp) (by simp)
              refine step_appM hM (fun _ => (.there .here)) ((HI.out.ext hM.below).takeI (Nat.le_refl _)) (by first | omega | (simp; omega)) rfl _ _ _ Tryz.underlying24 rfl rfl rfl ?_
              clear hM
              intro a2 c2 w2 hM
              simp only [List.length_nil, Nat.zero_add, List.nil_append] at hM ⊢
              try dsimp only
              refine hK.out _ _ (hM.tail.tail) ?_
              clear hK K hS
              have hS := hM.tail.tail
              refine AtT.only (i := 7) (by kernel_rfl) rfl rfl ?_
              intro K hK
              refine step_appM hM (fun _ => (.there .here)) (hM.oneI .here hxi) (by first | omega | (simp; omega)) rfl _ _ _ Tryz.underlying24 rfl rfl rfl ?_
              clear hM
              intro a3 c3 w3 hM
              try dsimp only
              refine hK.out _ _ (hM.tail.tail) ?_
              clear hK K hS
              have hS := hM.tail.tail
              refine AtT.only (i := 11) (by kernel_rfl) rfl rfl ?_
              intro K hK
              refine step_appM hM (fun _ => (.there .here)) (xa := some ⟨g, off, none⟩) (m := 0) (cx := 0) (ys := []) (Ints.zeroI (by unfold maxLen; omega) (by simp)) (by first | omega | (simp; omega)) rfl _ _ _ Tryz.underlying24 rfl rfl rfl ?_
              clear hM
              intro a4 c4 w4 hM
              rw [Nat.add_zero, HEQ3.out] at hM
              rw [Nat.add_zero]
              try dsimp only
              refine hK.out _ _ (hM.tail.tail) ?_
              clear hK K hS
              have hS := hM.tail.tail
              refine AtT.last (by kernel_rfl) rfl (by kernel_rfl) ?_
              intro K hK
              clear hS
              go_simp
              refine hK.out _ _ ?_
              clear hK K
              go_wp2
              go_ret
              obtain ⟨g4, rfl, -⟩ := (hM.ints (.there .here)).head (by omega)
              refine .inr ⟨g4, _, HNE.out, rfl, ?_⟩
              apply Mem.pick (is := [1])
              · exact memA
              · decide
              · rfl
          · skip
            intro K hK
            go_simp
            refine hK.out _ _ (by apply Mem.tail; (exact memA)) ?_
            clear hK K hS
            have hMp := hM
            apply Mem.atT
            · exact memA
            clear hM
            intro hM
            (try simp only [World.size_alloc, World.size_setCell, World.heap_drewN, heapDrew, Nat.add_assoc, Nat.reduceAdd, sA, List.cons_append, List.nil_append] at hM)
            have hS := hM.tail
            refine AtT.only (i := 0) (by kernel_rfl) rfl rfl ?_
            intro K hK
            go_simp
            refine hK.out _ _ (by apply Mem.tail; apply Mem.tail; (exact memA)) ?_
            clear hK K hS
            have hMp := hM
            apply Mem.atT
            · exact memA
            clear hM
            intro hM
            (try simp only [World.size_alloc, World.size_setCell, World.heap_drewN, heapDrew, Nat.add_assoc, Nat.reduceAdd, sA, List.cons_append, List.nil_append] at hM)
            have hS := hM.tail.tail
            refine AtT.only (i := 4) (by kernel_rfl) rfl rfl ?_
            intro K hK
            replace hM := hM.toInts (xs := []) .here rfl (by simp) (by simp)
            refine step_appM hM (fun _ => .here) ((HI.out.ext hM.below).takeI (Nat.le_refl _)) (by first | omega | (simp; omega)) rfl _ _ _ Tryz.underlying24 rfl rfl rfl ?_
            clear hM
            intro a2 c2 w2 hM
            simp only [List.length_nil, Nat.zero_add, List.nil_append] at hM ⊢
            try dsimp only
            refine hK.out _ _ (hM.tail.tail) ?_
            clear hK K hS
            have hS := hM.tail.tail
            refine AtT.only (i := 7) (by kernel_rfl) rfl rfl ?_
            intro K hK
            refine step_appM hM (fun _ => .here) (hM.oneI (.there .here) hxi) (by first | omega | (simp; omega)) rfl _ _ _ Tryz.underlying24 rfl rfl rfl ?_
            clear hM
            intro a3 c3 w3 hM
            try dsimp only
            refine hK.out _ _ (hM.tail.tail) ?_
            clear hK K hS
            have hS := hM.tail.tail
            refine AtT.only (i := 11) (by kernel_rfl) rfl rfl ?_
            intro K hK
            refine step_appM hM (fun _ => .here) (xa := some ⟨g, off, none⟩) (m := 0) (cx := 0) (ys := []) (Ints.zeroI (by unfold maxLen; omega) (by simp)) (by first | omega | (simp; omega)) rfl _ _ _ Tryz.underlying24 rfl rfl rfl ?_
            clear hM
            intro a4 c4 w4 hM
            rw [Nat.add_zero, HEQ3.out] at hM
            rw [Nat.add_zero]
            try dsimp only
            refine hK.out _ _ (hM.tail.tail) ?_
            clear hK K hS
            have hS := hM.tail.tail
            refine AtT.last (by kernel_rfl) rfl (by kernel_rfl) ?_
            intro K hK
            clear hS
            go_simp
            refine hK.out _ _ ?_
            clear hK K
            go_wp2
            go_ret
            obtain ⟨g4, rfl, -⟩ := (hM.ints .here).head (by omega)
            refine .inr ⟨g4, _, HNE.out, rfl, ?_⟩
            apply Mem.pick (is := [0])
            · exact memA
            · decide
            · rfl
        · have hck2 : ¬ c = n := hcn
          go_wp2_with fail
          apply Mem.atWp
          · exact memA
          clear hM
          intro hM
          refine AtT.startA hM hM 12 (by kernel_rfl) ?_
          clear hM
          intro wd hM
          have hS := hM
          refine AtT.tk 1 ?_ 34 ?_ hS ?_
          rotate_left
          · (intro wS hSw; (try dsimp only at hSw); go_simp; (try rw [if_neg (by omega)]); try with_reducible rfl)
          simp only [Act.put, sA]
          refine AtT.tk 2 ?_ 35 ?_ hS ?_
          rotate_left
          · (intro wS hSw; (try dsimp only at hSw); go_simp; (try rw [if_neg (by omega)]); try with_reducible rfl)
          simp only [Act.put, sA]
          refine AtT.tk 3 ?_ 36 ?_ hS ?_
          rotate_left
          · (intro wS hSw; (try dsimp only at hSw); go_simp; (try rw [if_neg (by omega)]); try with_reducible rfl)
          simp only [Act.put, sA]
          refine AtT.tk 5 ?_ 38 ?_ hS ?_
          rotate_left
          · (intro wS hSw; (try dsimp only at hSw); go_simp; (try rw [if_neg (by omega)]); try with_reducible rfl)
          simp only [Act.put, sA]
          refine AtT.tk 8 ?_ 41 ?_ hS ?_
          rotate_left
          · (intro wS hSw; (try dsimp only at hSw); go_simp; (try rw [if_neg (by omega)]); try with_reducible rfl)
          simp only [Act.put, sA]
          refine AtT.tk 9 ?_ 42 ?_ hS ?_
          rotate_left
          · (intro wS hSw; (try dsimp only at hSw); go_simp; (try rw [if_neg (by omega)]); try with_reducible rfl)
          simp only [Act.put, sA]
          refine AtT.tk 10 ?_ 43 ?_ hS ?_
          rotate_left
          · (intro wS hSw; (try dsimp only at hSw); go_simp; (try rw [if_neg (by omega)]); try with_reducible rfl)
          simp only [Act.put, sA]
          refine AtT.two (i := 0) (j := 6) (by kernel_rfl) rfl rfl rfl rfl ?_ ?_
          · skip
            intro K hK
            go_simp
            refine hK.out _ _ (by apply Mem.tail; (exact memA)) ?_
            clear hK K hS
            have hMp := hM
            apply Mem.atT
            · exact memA
            clear hM
            intro hM
            (try simp only [World.size_alloc, World.size_setCell, World.heap_drewN, heapDrew, Nat.add_assoc, Nat.reduceAdd, sA, List.cons_append, List.nil_append] at hM)
            have hS := hM.tail
            refine AtT.two (i := 4) (j := 6) (by kernel_rfl) rfl rfl rfl rfl ?_ ?_
            · skip
              intro K hK
              replace hM := hM.toInts (xs := []) .here rfl (by simp) (by simp)
              refine step_appM hM (fun _ => .here) ((HI.out.ext hM.below).takeI (Nat.le_refl _)) (by first | omega | (simp; omega)) rfl _ _ _ Tryz.underlying24 rfl rfl rfl ?_
              clear hM
              intro a2 c2 w2 hM
              simp only [List.length_nil, Nat.zero_add, List.nil_append] at hM ⊢
              try dsimp only
              refine hK.out _ _ (hM.tail) ?_
              clear hK K hS
              have hS := hM.tail
              refine AtT.only (i := 6) (by kernel_rfl) rfl rfl ?_
              intro K hK
              go_simp
              refine hK.out _ _ (by apply Mem.tail; apply Mem.tail; (exact memA)) ?_
              clear hK K hS
              have hMp := hM
              apply Mem.atT
              · exact memA
              clear hM
              intro hM
              (try simp only [World.size_alloc, World.size_setCell, World.heap_drewN, heapDrew, Nat.add_assoc, Nat.reduceAdd, sA, List.cons_append, List.nil_append] at hM)
              have hS := hM.tail.tail
              refine AtT.only (i := 7) (by kernel_rfl) rfl rfl ?_
              intro K hK
              refine step_appM hM (fun _ => (.there .here)) (hM.oneI .here hxi) (by first | omega | (simp; omega)) rfl _ _ _ Tryz.underlying24 rfl rfl rfl ?_
              clear hM
              intro a3 c3 w3 hM
              try dsimp only
              refine hK.out _ _ (hM.tail.tail) ?_
              clear hK K hS
              have hS := hM.tail.tail
              refine AtT.only (i := 11) (by kernel_rfl) rfl rfl ?_
              intro K hK
              refine step_appM hM (fun _ => (.there .here)) (xa := some ⟨g, off + n, none⟩) (m := 0) (cx := c - n) (ys := []) (Ints.zeroI (by unfold maxLen; omega) (by simp)) (by first | omega | (simp; omega)) rfl _ _ _ Tryz.underlying24 rfl rfl rfl ?_
              clear hM
              intro a4 c4 w4 hM
              rw [Nat.add_zero, HEQ3.out] at hM
              rw [Nat.add_zero]
              try dsimp only
              refine hK.out _ _ (hM.tail.tail) ?_
              clear hK K hS
              have hS := hM.tail.tail
              refine AtT.last (by kernel_rfl) rfl (by kernel_rfl) ?_
              intro K hK
              clear hS
              go_simp
              refine hK.out _ _ ?_
              clear hK K
              go_wp2
              go_ret
              obtain ⟨g4, rfl, -⟩ := (hM.ints (.there .here)).head (by omega)
              refine .inr ⟨g4, _, HNE.out, rfl, ?_⟩
              apply Mem.pick (is := [1])
              · exact memA
              · decide
              · rfl
            · skip
              intro K hK
              go_simp
              refine hK.out _ _ (by apply Mem.tail; apply Mem.tail; (exact memA)) ?_
              clear hK K hS
              have hMp := hM
              apply Mem.atT
              · exact memA
              clear hM
              intro hM
              (try simp only [World.size_alloc, World.size_setCell, World.heap_drewN, heapDrew, Nat.add_assoc, Nat.reduceAdd, sA, List.cons_append, List.nil_append] at hM)
              have hS := hM.tail.tail
              refine AtT.only (i := 4) (by kernel_rfl) rfl rfl ?_
              intro K hK
              replace hM := hM.toInts (xs := []) (.there .here) rfl (by simp) (by simp)
              refine step_appM hM (fun _ => (.there .here)) ((HI.out.ext hM.below).takeI (Nat.le_refl _)) (by first | omega | (simp; omega)) rfl _ _ _ Tryz.underlying24 rfl rfl rfl ?_
              clear hM
              intro a2 c2 w2 hM
              simp only [List.length_nil, Nat.zero_add, List.nil_append] at hM ⊢
              try dsimp only
              refine hK.out _ _ (hM.tail.tail) ?_
              clear hK K hS
              have hS := hM.tail.tail
              refine AtT.only (i := 7) (by kernel_rfl) rfl rfl ?_
              intro K hK
              refine step_appM hM (fun _ => (.there .here)) (hM.oneI .here hxi) (by first | omega | (simp; omega)) rfl _ _ _ Tryz.underlying24 rfl rfl rfl ?_
              clear hM
              intro a3 c3 w3 hM
              try dsimp only
              refine hK.out _ _ (hM.tail.tail) ?_
              clear hK K hS
              have hS := hM.tail.tail
              refine AtT.only (i := 11) (by kernel_rfl) rfl rfl ?_
              intro K hK
              refine step_appM hM (fun _ => (.there .here)) (xa := some ⟨g, off + n, none⟩) (m := 0) (cx := c - n) (ys := []) (Ints.zeroI (by unfold maxLen; omega) (by simp)) (by first | omega | (simp; omega)) rfl _ _ _ Tryz.underlying24 rfl rfl rfl ?_
              clear hM
              intro a4 c4 w4 hM
              rw [Nat.add_zero, HEQ3.out] at hM
              rw [Nat.add_zero]
              try dsimp only
              refine hK.out _ _ (hM.tail.tail) ?_
              clear hK K hS
              have hS := hM.tail.tail
              refine AtT.last (by kernel_rfl) rfl (by kernel_rfl) ?_
              intro K hK
              clear hS
              go_simp
              refine hK.out _ _ ?_
              clear hK K
              go_wp2
              go_ret
              obtain ⟨g4, rfl, -⟩ := (hM.ints (.there .here)).head (by omega)
              refine .inr ⟨g4, _, HNE.out, rfl, ?_⟩
              apply Mem.pick (is := [1])
              · exact memA
              · decide
              · rfl
          · skip
            intro K hK
            go_simp
            refine hK.out _ _ (by apply Mem.tail; (exact memA)) ?_
            clear hK K hS
            have hMp := hM
            apply Mem.atT
            · exact memA
            clear hM
            intro hM
            (try simp only [World.size_alloc, World.size_setCell, World.heap_drewN, heapDrew, Nat.add_assoc, Nat.reduceAdd, sA, List.cons_append, List.nil_append] at hM)
            have hS := hM.tail
            refine AtT.only (i := 0) (by kernel_rfl) rfl rfl ?_
            intro K hK
            go_simp
            refine hK.out _ _ (by apply Mem.tail; apply Mem.tail; (exact memA)) ?_
            clear hK K hS
            have hMp := hM
            apply Mem.atT
            · exact memA
            clear hM
            intro hM
            (try simp only [World.size_alloc, World.size_setCell, World.heap_drewN, heapDrew, Nat.add_assoc, Nat.reduceAdd, sA, List.cons_append, List.nil_append] at hM)
            have hS := hM.tail.tail
            refine AtT.only (i := 4) (by kernel_rfl) rfl rfl ?_
            intro K hK
            replace hM := hM.toInts (xs := []) .here rfl (by simp) (by simp)
            refine step_appM hM (fun _ => .here) ((HI.out.ext hM.below).takeI (Nat.le_refl _)) (by first | omega | (simp; omega)) rfl _ _ _ Tryz.underlying24 rfl rfl rfl ?_
            clear hM
            intro a2 c2 w2 hM
            simp only [List.length_nil, Nat.zero_add, List.nil_append] at hM ⊢
            try dsimp only
            refine hK.out _ _ (hM.tail.tail) ?_
            clear hK K hS
            have hS := hM.tail.tail
            refine AtT.only (i := 7) (by kernel_rfl) rfl rfl ?_
            intro K hK
            refine step_appM hM (fun _ => .here) (hM.oneI (.there .here) hxi) (by first | omega | (simp; omega)) rfl _ _ _ Tryz.underlying24 rfl rfl rfl ?_
            clear hM
            intro a3 c3 w3 hM
            try dsimp only
            refine hK.out _ _ (hM.tail.tail) ?_
            clear hK K hS
            have hS := hM.tail.tail
            refine AtT.only (i := 11) (by kernel_rfl) rfl rfl ?_
            intro K hK
            refine step_appM hM (fun _ => .here) (xa := some ⟨g, off + n, none⟩) (m := 0) (cx := c - n) (ys := []) (Ints.zeroI (by unfold maxLen; omega) (by simp)) (by first | omega | (simp; omega)) rfl _ _ _ Tryz.underlying24 rfl rfl rfl ?_
            clear hM
            intro a4 c4 w4 hM
            rw [Nat.add_zero, HEQ3.out] at hM
            rw [Nat.add_zero]
            try dsimp only
            refine hK.out _ _ (hM.tail.tail) ?_
            clear hK K hS
            have hS := hM.tail.tail
            refine AtT.last (by kernel_rfl) rfl (by kernel_rfl) ?_
            intro K hK
            clear hS
            go_simp
            refine hK.out _ _ ?_
            clear hK K
            go_wp2
            go_ret
            obtain ⟨g4, rfl, -⟩ := (hM.ints .here).head (by omega)
            refine .inr ⟨g4, _, HNE.out, rfl, ?_⟩
            apply Mem.pick (is := [0])
            · exact memA
            · decide
            · rfl
theorem l1PutV_any (g off n c : Nat) (xs : List Int) (x : Int) (w : World) (h : Ints w (some ⟨g, off, none⟩) n c xs) (hxi : I64 x) (hn : n ≤ 1000) :
    Calls Tryz.prog 112 #[.slice (some ⟨g, off, none⟩) n c, .int .i64 x] w fun e w' => (x ∈ xs ∧ e = .returned (.slice (some ⟨g, off, none⟩) n c) ∧ Below w.heap.size w w') ∨ (∃ g' c', e = .returned (.slice (some ⟨g', 0, none⟩) (n + 1) c') ∧ Mem w.heap.size w w' [intE (some ⟨g', 0, none⟩) (n + 1) c' (putL xs x)]) := by
  refine (l1PutN_any g off n c xs x w h hxi hn).mono ?_
  rintro e w' (h1 | ⟨g', c', -, h2⟩)
  · exact .inl h1
  · exact .inr ⟨g', c', h2⟩
end Go.Proofs.YtojfbcgfeojdfaaGreat
