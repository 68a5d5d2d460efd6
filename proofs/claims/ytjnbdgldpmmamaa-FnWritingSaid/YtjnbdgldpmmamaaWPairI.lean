/-
  Pairs of numbers as records; ConcurrentPairs: both sides; the laws' comparisons.
-/
import Derived.Test.YtjnbdgldpmmamaaWLatI
import Derived.Test.YtjnbdgldpmmamaaWLawV
import Derived.Test.YtjnbdgldpmmamaaWMrgI
import Derived.ChangeKeysEq
/-
  Pairs of numbers as records; ConcurrentPairs: both sides; the laws' comparisons.
-/
namespace Go.Proofs.Ytjnbdgldpmmamaa
set_option linter.unusedSimpArgs false
set_option linter.unusedVariables false
open Go.RowKit

def FPair : Fl (Int × Int) where
  sz := 2
  enc x := [.int .i64 x.1, .int .i64 x.2]
  z := (0, 0)
  wf x := I64 x.1 ∧ I64 x.2
  pos := by decide
  len _ := rfl
  one := by intro x v hv; simp at hv; rcases hv with rfl | rfl <;> rfl
theorem Rd.cellPair {w : World} {b off n c : Nat} {xs : List (Int × Int)} (h : Rd FPair w (some ⟨b, off, none⟩) n c xs) {k : Nat} (hk : k < n) : b < w.heap.size ∧ w.cell? ⟨b, off + k * 2, none⟩ = some (.int .i64 (xs.getD k (0, 0)).1) ∧ w.cell? ⟨b, off + k * 2 + 1, none⟩ = some (.int .i64 (xs.getD k (0, 0)).2) := by
  obtain ⟨b', off', e, hl, hc⟩ := h.at' k hk
  simp only [Option.some.injEq, Addr.mk.injEq] at e
  obtain ⟨rfl, rfl, _⟩ := e
  exact ⟨hl, by rw [show off + k * 2 = off + (k * FPair.sz + 0) by show _ = off + (k * 2 + 0); omega]; exact hc k hk 0 (by decide), by rw [show off + k * 2 + 1 = off + (k * FPair.sz + 1) by show _ = off + (k * 2 + 1); omega]; exact hc k hk 1 (by decide)⟩
abbrev pairE (a : Option Addr) (n c : Nat) (xs : List (Int × Int)) : Ent := owE FPair 50 a n c xs
/-- pairs of places of notes none of which is before the other -/
def concIn (l : List NoteC) (i : Nat) : Nat → List (Int × Int)
  | 0 => []
  | j + 1 => if decide (i < j) && (!befC (l.getD i NoteC.zero) (l.getD j NoteC.zero) && !befC (l.getD j NoteC.zero) (l.getD i NoteC.zero)) then concIn l i j ++ [((i : Int), (j : Int))] else concIn l i j
def concTo (l : List NoteC) : Nat → List (Int × Int)
  | 0 => []
  | i + 1 => concTo l i ++ concIn l i l.length
def concR (u : Int) (l : List NoteC) : List (Int × Int) := if bookB u l then concTo l l.length else []
theorem concIn_few (l : List NoteC) (i : Nat) : ∀ j, j ≤ i + 1 → concIn l i j = []
  | 0, _ => rfl
  | j + 1, h => by
    unfold concIn
    rw [decide_eq_false (by omega), Bool.false_and]
    exact concIn_few l i j (by omega)
theorem concIn_len (l : List NoteC) (i : Nat) : ∀ j, (concIn l i j).length ≤ j
  | 0 => Nat.le_refl _
  | j + 1 => by
    have := concIn_len l i j
    unfold concIn
    split
    · rw [List.length_append, List.length_singleton]; omega
    · omega
theorem concTo_len (l : List NoteC) : ∀ i, (concTo l i).length ≤ i * l.length
  | 0 => by simp [concTo]
  | i + 1 => by
    have h1 := concTo_len l i
    have h2 := concIn_len l i l.length
    rw [concTo, List.length_append, Nat.succ_mul]
    omega
theorem concIn_mem {l : List NoteC} {i : Nat} {p : Int × Int} : ∀ {j}, p ∈ concIn l i j → ∃ k : Nat, p = ((i : Int), (k : Int)) ∧ i < k ∧ k < j ∧ befC (l.getD i NoteC.zero) (l.getD k NoteC.zero) = false ∧ befC (l.getD k NoteC.zero) (l.getD i NoteC.zero) = false
  | 0, h => by cases h
  | j + 1, h => by
    unfold concIn at h
    split at h
    · rename_i hc
      rcases List.mem_append.1 h with h | h
      · obtain ⟨k, h1, h2, h3, h4⟩ := concIn_mem h
        exact ⟨k, h1, h2, by omega, h4⟩
      · rw [List.mem_singleton] at h
        simp only [Bool.and_eq_true, decide_eq_true_eq, Bool.not_eq_true'] at hc
        exact ⟨j, h, hc.1, by omega, hc.2⟩
    · obtain ⟨k, h1, h2, h3, h4⟩ := concIn_mem h
      exact ⟨k, h1, h2, by omega, h4⟩
theorem concTo_mem {l : List NoteC} {p : Int × Int} : ∀ {m}, p ∈ concTo l m → ∃ i k : Nat, p = ((i : Int), (k : Int)) ∧ i < k ∧ k < l.length ∧ befC (l.getD i NoteC.zero) (l.getD k NoteC.zero) = false ∧ befC (l.getD k NoteC.zero) (l.getD i NoteC.zero) = false
  | 0, h => by cases h
  | m + 1, h => by
    rcases List.mem_append.1 h with h | h
    · exact concTo_mem h
    · obtain ⟨k, h1⟩ := concIn_mem h
      exact ⟨m, k, h1⟩
theorem Try.info50 : (Try.prog.info? 50).map (fun i => (i.zero, i.size, i.bytes)) = some (some (.agg #[.int .i64 0, .int .i64 0]), 2, 16) := by kernel_rfl
set_option maxRecDepth 100000 in
set_option maxHeartbeats 8000000 in
theorem implConc_any (u : Int) (a : Option Addr) (n c : Nat) (xs : List NoteI) (w : World) (hu : I64 u) (h : RdN w a n c xs) :
    Calls Try.prog 22 #[.int .i64 u, .slice a n c] w fun e w' => ∃ a' c', e = .returned (.tuple #[.slice a' (concR u (coreN xs)).length c', .bool (bookB u (coreN xs))]) ∧ Mem w.heap.size w w' [pairE a' (concR u (coreN xs)).length c' (concR u (coreN xs))] := by
  have hM := Mem.start w
  have HU := Lib.hid hu
  have HH := Lib.hid h
  clear hu h
  cases hb : bookB u (coreN xs)
  · have e2 : concR u (coreN xs) = [] := by rw [concR, hb]; rfl
    rw [e2]
    have HB := Lib.hid hb; clear hb e2
    go_enter Try.func22, Try.ntmps22
    go_wp2_with fail
    apply Mem.atA
    · (repeat' (first | with_reducible exact hM | with_reducible exact hMp | with_reducible apply Mem.drew | with_reducible apply Mem.drewN | with_reducible apply Mem.alloc | with_reducible apply Mem.set | with_reducible exact Sto.row | ((with_reducible refine Sto.rowEq2 ?_ ?_); omega; rfl) | ((with_reducible refine Sto.rowEq ?_); omega) | with_reducible apply Sto.int | with_reducible apply Sto.there | with_reducible assumption | (unfold I64; omega) | (with_reducible (have hMx := Mem.undrew hM; exact hMx)) | (with_reducible (have hMx := Mem.undrew hMp; exact hMx))))
    clear hM
    intro wst hM
    (try simp only [World.size_alloc, World.size_setCell, World.heap_drewN, heapDrew, Nat.add_assoc, Nat.reduceAdd, List.setIfInBounds_toArray, List.set_cons_zero, List.set_cons_succ, List.cons_append, List.nil_append] at hM)
    (first | refine (isNotebook_any u a n c xs _ HU.out (HH.out.ext hM.below)).mono ?_)
    rw [HB.out]
    rintro e wc1 ⟨rfl, hb⟩
    replace hM := hM.ext hb
    clear hb
    go_wp2
    go_ret2
    exact ⟨none, 0, rfl, by apply Mem.nilOwO; (repeat' (first | with_reducible exact hM | with_reducible exact hMp | with_reducible apply Mem.drew | with_reducible apply Mem.drewN | with_reducible apply Mem.alloc | with_reducible apply Mem.set | with_reducible exact Sto.row | ((with_reducible refine Sto.rowEq2 ?_ ?_); omega; rfl) | ((with_reducible refine Sto.rowEq ?_); omega) | with_reducible apply Sto.int | with_reducible apply Sto.there | with_reducible assumption | (unfold I64; omega) | (with_reducible (have hMx := Mem.undrew hM; exact hMx)) | (with_reducible (have hMx := Mem.undrew hMp; exact hMx))))⟩
  have hn12 : n ≤ 12 := by have := book_len hb; rw [coreN_len, HH.out.rd.len] at this; exact this
  have hNL : (coreN xs).length = n := by rw [coreN_len, HH.out.rd.len]
  have e2 : concR u (coreN xs) = concTo (coreN xs) n := by rw [concR, hb, hNL]; rfl
  rw [e2]
  have HPL := Lib.hid (fun (i j : Nat) (hi : i < n) (hj : j < n) => book_place hb HH.out hi hj)
  have HLT := Lib.hid (fun i j (hi : i ≤ n) (hj : j ≤ n) => (by
    have h1 := concTo_len (coreN xs) i
    have h2 := concIn_len (coreN xs) i j
    rw [hNL] at h1
    have h3 : i * n ≤ 12 * 12 := Nat.mul_le_mul (by omega) hn12
    rw [List.length_append]
    omega : (concTo (coreN xs) i ++ concIn (coreN xs) i j).length ≤ 200))
  have HB := Lib.hid hb; have HNL := Lib.hid hNL
  clear hb e2 hNL
  obtain ⟨i0, hi, hz0, hz1, hz2⟩ := info_parts Try.info50
  go_enter Try.func22, Try.ntmps22
  go_wp2_with fail
  apply Mem.atA
  · (repeat' (first | with_reducible exact hM | with_reducible exact hMp | with_reducible apply Mem.drew | with_reducible apply Mem.drewN | with_reducible apply Mem.alloc | with_reducible apply Mem.set | with_reducible exact Sto.row | ((with_reducible refine Sto.rowEq2 ?_ ?_); omega; rfl) | ((with_reducible refine Sto.rowEq ?_); omega) | with_reducible apply Sto.int | with_reducible apply Sto.there | with_reducible assumption | (unfold I64; omega) | (with_reducible (have hMx := Mem.undrew hM; exact hMx)) | (with_reducible (have hMx := Mem.undrew hMp; exact hMx))))
  clear hM
  intro wst hM
  (try simp only [World.size_alloc, World.size_setCell, World.heap_drewN, heapDrew, Nat.add_assoc, Nat.reduceAdd, List.setIfInBounds_toArray, List.set_cons_zero, List.set_cons_succ, List.cons_append, List.nil_append] at hM)
  (first | refine (isNotebook_any u a n c xs _ HU.out (HH.out.ext hM.below)).mono ?_)
  rw [HB.out]
  rintro e wc2 ⟨rfl, hb⟩
  replace hM := hM.ext hb
  clear hb
  go_upto_region 4 with fail
  apply Mem.atWpA
  · (repeat' (first | with_reducible exact hM | with_reducible exact hMp | with_reducible apply Mem.drew | with_reducible apply Mem.drewN | with_reducible apply Mem.alloc | with_reducible apply Mem.set | with_reducible exact Sto.row | ((with_reducible refine Sto.rowEq2 ?_ ?_); omega; rfl) | ((with_reducible refine Sto.rowEq ?_); omega) | with_reducible apply Sto.int | with_reducible apply Sto.there | with_reducible assumption | (unfold I64; omega) | (with_reducible (have hMx := Mem.undrew hM; exact hMx)) | (with_reducible (have hMx := Mem.undrew hMp; exact hMx))))
  clear hM
  intro wst hM
  (try simp only [World.size_alloc, World.size_setCell, World.heap_drewN, heapDrew, Nat.add_assoc, Nat.reduceAdd, List.setIfInBounds_toArray, List.set_cons_zero, List.set_cons_succ, List.cons_append, List.nil_append] at hM)
  replace hM := Mem.toOwR (F := FPair) hM
  go_wp2_with fail
  go_loopw [6, 17] (fun s6 s17 wr => ∃ (k m c' : Nat) (a' : Option Addr) (L : List (Int × Int)), k ≤ n ∧ s17 = .int .i64 k ∧ s6 = .slice a' m c' ∧ Hid (concTo (coreN xs) k = L) ∧ Mem w.heap.size w wr [pairE a' m c' L]) (fun _ s17 _ => n - (intOf s17).toNat)
  case atStart => exact ⟨0, 0, _, _, [], Nat.zero_le _, rfl, rfl, Lib.hid rfl, hM⟩
  case round =>
    clear hM
    obtain ⟨k, m, c', a', L, hk, rfl, rfl, HLL, hM⟩ := hrel
    by_cases hlt : k < n
    · obtain ⟨b, off, rfl, -, -⟩ := HH.out.rd.at' _ hlt
      obtain ⟨x0, x1, x2, x3⟩ := ((HH.out.rd.ext hM.below).cellNote hlt).2
      have hxi := HH.out.get hlt
      obtain ⟨x, hx⟩ : ∃ x, xs.getD k NoteI.zero = x := ⟨_, rfl⟩
      rw [hx] at x0 x1 x2 x3 hxi
      have HXE := Lib.hid hx
      clear hx
      obtain ⟨xu, xq, xa, xn, xc, xl, xw⟩ := x
      dsimp only at x0 x1 x2 x3 hxi
      have HXI := Lib.hid hxi; clear hxi
      have i0' : (0 : Int) ≤ (k : Int) := by omega
      have i1 : (k : Int) < (n : Int) := by omega
      obtain ⟨k1, hk1⟩ : ∃ k1, k + 1 = k1 := ⟨_, rfl⟩
      have hw1 : IntKind.i64.wrap ((k : Int) + 1) = (k1 : Int) := by rw [wrap_in (by omega)]; omega
      go_upto_region 7 with fail
      apply Mem.atWpA
      · (repeat' (first | with_reducible exact hM | with_reducible exact hMp | with_reducible apply Mem.drew | with_reducible apply Mem.drewN | with_reducible apply Mem.alloc | with_reducible apply Mem.set | with_reducible exact Sto.row | ((with_reducible refine Sto.rowEq2 ?_ ?_); omega; rfl) | ((with_reducible refine Sto.rowEq ?_); omega) | with_reducible apply Sto.int | with_reducible apply Sto.there | with_reducible assumption | (unfold I64; omega) | (with_reducible (have hMx := Mem.undrew hM; exact hMx)) | (with_reducible (have hMx := Mem.undrew hMp; exact hMx))))
      clear hM
      intro wst hM
      (try simp only [World.size_alloc, World.size_setCell, World.heap_drewN, heapDrew, Nat.add_assoc, Nat.reduceAdd, List.setIfInBounds_toArray, List.set_cons_zero, List.set_cons_succ, List.cons_append, List.nil_append] at hM)
      clear x0 x1 x2 x3
      generalize wr.heap.size = gb at hM ⊢
      go_wp2_with fail
      go_loopw [6, 9] (fun s6 s9 wq => ∃ (j m c' : Nat) (a' : Option Addr) (L : List (Int × Int)), k1 ≤ j ∧ j ≤ n ∧ s9 = .int .i64 j ∧ s6 = .slice a' m c' ∧ Hid (concTo (coreN xs) k ++ concIn (coreN xs) k j = L) ∧ Mem w.heap.size w wq [rowE gb 42 #[.int .i64 xu, .int .i64 xq, .slice xa xn xc, .string (bsA xw)], pairE a' m c' L]) (fun _ s9 _ => n - (intOf s9).toNat)
      case atStart => exact ⟨k1, m, c', a', L, Nat.le_refl _, by omega, rfl, rfl, Lib.hid (by rw [concIn_few _ _ _ (by omega), List.append_nil]; exact HLL.out), hM⟩
      case round =>
        clear hM HLL
        obtain ⟨j, m, c', a', L, hkj, hj, rfl, rfl, HLL, hM⟩ := hrel
        have hm2 : m ≤ 200 := by have := HLT.out k j hk hj; rw [HLL.out] at this; have := (hM.ow (.there .here)).len; omega
        by_cases hlj : j < n
        · have hpl := HPL.out k j hlt hlj
          have hpl2 := HPL.out j k hlj hlt
          have hyi := HH.out.get hlj
          have hsc : concIn (coreN xs) k (j + 1) = if (!befC ((coreN xs).getD k NoteC.zero) ((coreN xs).getD j NoteC.zero) && !befC ((coreN xs).getD j NoteC.zero) ((coreN xs).getD k NoteC.zero)) then concIn (coreN xs) k j ++ [((k : Int), (j : Int))] else concIn (coreN xs) k j := by rw [concIn, decide_eq_true (by omega), Bool.true_and]
          rw [coreN_getD, coreN_getD] at hsc
          rw [HXE.out] at hpl hpl2 hsc
          obtain ⟨y, hy⟩ : ∃ y, xs.getD j NoteI.zero = y := ⟨_, rfl⟩
          have HCY := Lib.hid (fun (w' : World) (hb : Below w.heap.size w w') => ((HH.out.rd.ext hb).cellNote hlj).2)
          simp only [hy] at HCY
          rw [hy] at hpl hpl2 hyi hsc
          obtain ⟨yu, yq, ya, yn, yc, yl, yw⟩ := y
          dsimp only at hpl hpl2 hyi
          have HPX := Lib.hid hpl; have HPY := Lib.hid hpl2; have HYI := Lib.hid hyi
          clear hy hpl hpl2 hyi
          obtain ⟨v1, hv1⟩ : ∃ v, befC (NoteI.core ⟨xu, xq, xa, xn, xc, xl, xw⟩) (NoteI.core ⟨yu, yq, ya, yn, yc, yl, yw⟩) = v := ⟨_, rfl⟩
          obtain ⟨v2, hv2⟩ : ∃ v, befC (NoteI.core ⟨yu, yq, ya, yn, yc, yl, yw⟩) (NoteI.core ⟨xu, xq, xa, xn, xc, xl, xw⟩) = v := ⟨_, rfl⟩
          rw [hv1, hv2] at hsc
          have HV1 := Lib.hid hv1; have HV2 := Lib.hid hv2; have HSC := Lib.hid hsc
          clear hv1 hv2 hsc
          have j0 : (0 : Int) ≤ (j : Int) := by omega
          have j1 : (j : Int) < (n : Int) := by omega
          cases v1
          · skip
            go_upto_region 10 with fail
            apply Mem.atWpA
            · (repeat' (first | with_reducible exact hM | with_reducible exact hMp | with_reducible apply Mem.drew | with_reducible apply Mem.drewN | with_reducible apply Mem.alloc | with_reducible apply Mem.set | with_reducible exact Sto.row | ((with_reducible refine Sto.rowEq2 ?_ ?_); omega; rfl) | ((with_reducible refine Sto.rowEq ?_); omega) | with_reducible apply Sto.int | with_reducible apply Sto.there | with_reducible assumption | (unfold I64; omega) | (with_reducible (have hMx := Mem.undrew hM; exact hMx)) | (with_reducible (have hMx := Mem.undrew hMp; exact hMx))))
            clear hM
            intro wst hM
            (try simp only [World.size_alloc, World.size_setCell, World.heap_drewN, heapDrew, Nat.add_assoc, Nat.reduceAdd, List.setIfInBounds_toArray, List.set_cons_zero, List.set_cons_succ, List.cons_append, List.nil_append] at hM)
            refine AtT.startA hM hM 15 (by kernel_rfl) ?_
            clear hM
            intro wd hM
            have hS := hM
            refine AtT.taked (i := 0) (v := ?_) (some 30) rfl rfl (by kernel_rfl) (by kernel_rfl) (by kernel_rfl) (by kernel_rfl) (fun _ _ _ h => h) (Or.inl ⟨by kernel_rfl, ?_⟩) hS ?_
            rotate_left
            · (intro wS hSw; (try dsimp only at hSw); have kr0 := (Mem.row hSw .here).cell; obtain ⟨y0, y1, y2, y3⟩ := HCY.out _ hSw.below; go_simp; (try rw [if_neg (by omega)]); try with_reducible rfl)
            simp only [Act.put, List.setIfInBounds_toArray, List.set_cons_zero, List.set_cons_succ]
            refine AtT.taked (i := 1) (v := ?_) (some 31) rfl rfl (by kernel_rfl) (by kernel_rfl) (by kernel_rfl) (by kernel_rfl) (fun _ _ _ h => h) (Or.inl ⟨by kernel_rfl, ?_⟩) hS ?_
            rotate_left
            · (intro wS hSw; (try dsimp only at hSw); go_simp; (try rw [if_neg (by omega)]); try with_reducible rfl)
            simp only [Act.put, List.setIfInBounds_toArray, List.set_cons_zero, List.set_cons_succ]
            refine AtT.taked (i := 2) (v := ?_) (some 32) rfl rfl (by kernel_rfl) (by kernel_rfl) (by kernel_rfl) (by kernel_rfl) (fun _ _ _ h => h) (Or.inl ⟨by kernel_rfl, ?_⟩) hS ?_
            rotate_left
            · (intro wS hSw; (try dsimp only at hSw); go_simp; (try rw [if_neg (by omega)]); try with_reducible rfl)
            simp only [Act.put, List.setIfInBounds_toArray, List.set_cons_zero, List.set_cons_succ]
            refine AtT.taked (i := 3) (v := ?_) (some 33) rfl rfl (by kernel_rfl) (by kernel_rfl) (by kernel_rfl) (by kernel_rfl) (fun _ _ _ h => h) (Or.inl ⟨by kernel_rfl, ?_⟩) hS ?_
            rotate_left
            · (intro wS hSw; (try dsimp only at hSw); have kr0 := (Mem.row hSw .here).cell; obtain ⟨y0, y1, y2, y3⟩ := HCY.out _ hSw.below; go_simp; (try rw [if_neg (by omega)]); try with_reducible rfl)
            simp only [Act.put, List.setIfInBounds_toArray, List.set_cons_zero, List.set_cons_succ]
            refine AtT.taked (i := 4) (v := ?_) (some 34) rfl rfl (by kernel_rfl) (by kernel_rfl) (by kernel_rfl) (by kernel_rfl) (fun _ _ _ h => h) (Or.inl ⟨by kernel_rfl, ?_⟩) hS ?_
            rotate_left
            · (intro wS hSw; (try dsimp only at hSw); have kr0 := (Mem.row hSw .here).cell; obtain ⟨y0, y1, y2, y3⟩ := HCY.out _ hSw.below; go_simp; (try rw [if_neg (by omega)]); try with_reducible rfl)
            simp only [Act.put, List.setIfInBounds_toArray, List.set_cons_zero, List.set_cons_succ]
            refine AtT.only (i := 5) (by kernel_rfl) rfl rfl ?_
            intro K hK
            go_simp
            refine (before_any ⟨xu, xq, xa, xn, xc, xl, xw⟩ ⟨yu, yq, ya, yn, yc, yl, yw⟩ _ (HYI.out.ext hM.below) HPX.out).mono ?_
            rw [HV1.out]
            rintro e w5 ⟨rfl, hb⟩
            replace hM := hM.ext hb
            clear hb
            try dsimp only
            refine hK.out _ _ (hM) ?_
            clear hK K hS
            have hS := hM
            refine AtT.taked (i := 6) (v := ?_) (some 36) rfl rfl (by kernel_rfl) (by kernel_rfl) (by kernel_rfl) (by kernel_rfl) (fun _ _ _ h => h) (Or.inl ⟨by kernel_rfl, ?_⟩) hS ?_
            rotate_left
            · (intro wS hSw; (try dsimp only at hSw); go_simp; (try rw [if_neg (by omega)]); try with_reducible rfl)
            simp only [Act.put, List.setIfInBounds_toArray, List.set_cons_zero, List.set_cons_succ]
            refine AtT.taked (i := 7) (v := ?_) (some 37) rfl rfl (by kernel_rfl) (by kernel_rfl) (by kernel_rfl) (by kernel_rfl) (fun _ _ _ h => h) (Or.inl ⟨by kernel_rfl, ?_⟩) hS ?_
            rotate_left
            · (intro wS hSw; (try dsimp only at hSw); go_simp; (try rw [if_neg (by omega)]); try with_reducible rfl)
            simp only [Act.put, List.setIfInBounds_toArray, List.set_cons_zero, List.set_cons_succ]
            refine AtT.taked (i := 8) (v := ?_) (some 38) rfl rfl (by kernel_rfl) (by kernel_rfl) (by kernel_rfl) (by kernel_rfl) (fun _ _ _ h => h) (Or.inl ⟨by kernel_rfl, ?_⟩) hS ?_
            rotate_left
            · (intro wS hSw; (try dsimp only at hSw); go_simp; (try rw [if_neg (by omega)]); try with_reducible rfl)
            simp only [Act.put, List.setIfInBounds_toArray, List.set_cons_zero, List.set_cons_succ]
            refine AtT.taked (i := 9) (v := ?_) (some 39) rfl rfl (by kernel_rfl) (by kernel_rfl) (by kernel_rfl) (by kernel_rfl) (fun _ _ _ h => h) (Or.inl ⟨by kernel_rfl, ?_⟩) hS ?_
            rotate_left
            · (intro wS hSw; (try dsimp only at hSw); go_simp; (try rw [if_neg (by omega)]); try with_reducible rfl)
            simp only [Act.put, List.setIfInBounds_toArray, List.set_cons_zero, List.set_cons_succ]
            refine AtT.taked (i := 10) (v := ?_) (some 40) rfl rfl (by kernel_rfl) (by kernel_rfl) (by kernel_rfl) (by kernel_rfl) (fun _ _ _ h => h) (Or.inl ⟨by kernel_rfl, ?_⟩) hS ?_
            rotate_left
            · (intro wS hSw; (try dsimp only at hSw); have kr0 := (Mem.row hSw .here).cell; obtain ⟨y0, y1, y2, y3⟩ := HCY.out _ hSw.below; go_simp; (try rw [if_neg (by omega)]); try with_reducible rfl)
            simp only [Act.put, List.setIfInBounds_toArray, List.set_cons_zero, List.set_cons_succ]
            refine AtT.taked (i := 11) (v := ?_) (some 41) rfl rfl (by kernel_rfl) (by kernel_rfl) (by kernel_rfl) (by kernel_rfl) (fun _ _ _ h => h) (Or.inl ⟨by kernel_rfl, ?_⟩) hS ?_
            rotate_left
            · (intro wS hSw; (try dsimp only at hSw); have kr0 := (Mem.row hSw .here).cell; obtain ⟨y0, y1, y2, y3⟩ := HCY.out _ hSw.below; go_simp; (try rw [if_neg (by omega)]); try with_reducible rfl)
            simp only [Act.put, List.setIfInBounds_toArray, List.set_cons_zero, List.set_cons_succ]
            refine AtT.taked (i := 12) (v := ?_) (some 42) rfl rfl (by kernel_rfl) (by kernel_rfl) (by kernel_rfl) (by kernel_rfl) (fun _ _ _ h => h) (Or.inl ⟨by kernel_rfl, ?_⟩) hS ?_
            rotate_left
            · (intro wS hSw; (try dsimp only at hSw); have kr0 := (Mem.row hSw .here).cell; obtain ⟨y0, y1, y2, y3⟩ := HCY.out _ hSw.below; go_simp; (try rw [if_neg (by omega)]); try with_reducible rfl)
            simp only [Act.put, List.setIfInBounds_toArray, List.set_cons_zero, List.set_cons_succ]
            refine AtT.only (i := 13) (by kernel_rfl) rfl rfl ?_
            intro K hK
            go_simp
            refine (before_any ⟨yu, yq, ya, yn, yc, yl, yw⟩ ⟨xu, xq, xa, xn, xc, xl, xw⟩ _ (HXI.out.ext hM.below) HPY.out).mono ?_
            rw [HV2.out]
            rintro e w6 ⟨rfl, hb⟩
            replace hM := hM.ext hb
            clear hb
            try dsimp only
            refine hK.out _ _ (hM) ?_
            clear hK K hS
            have hS := hM
            refine AtT.taked (i := 14) (v := ?_) (some 44) rfl rfl (by kernel_rfl) (by kernel_rfl) (by kernel_rfl) (by kernel_rfl) (fun _ _ _ h => h) (Or.inl ⟨by kernel_rfl, ?_⟩) hS ?_
            rotate_left
            · (intro wS hSw; (try dsimp only at hSw); go_simp; (try rw [if_neg (by omega)]); try with_reducible rfl)
            simp only [Act.put, List.setIfInBounds_toArray, List.set_cons_zero, List.set_cons_succ]
            refine AtT.last (by kernel_rfl) rfl (by kernel_rfl) ?_
            intro K hK
            clear hS
            go_simp
            refine hK.out _ _ ?_
            clear hK K
            cases v2
            · have HS := Lib.hid (show concTo (coreN xs) k ++ concIn (coreN xs) k (j + 1) = L ++ [((k : Int), (j : Int))] by rw [HSC.out, ← HLL.out]; simp)
              clear HSC
              go_wp2_with (at_builtin; apply Mem.atL; (focus ((repeat' (first | with_reducible exact hM | with_reducible exact hMp | with_reducible apply Mem.drew | with_reducible apply Mem.drewN | with_reducible apply Mem.alloc | with_reducible apply Mem.set | with_reducible exact Sto.row | ((with_reducible refine Sto.rowEq2 ?_ ?_); omega; rfl) | ((with_reducible refine Sto.rowEq ?_); omega) | with_reducible apply Sto.int | with_reducible apply Sto.there | with_reducible assumption | (unfold I64; omega) | (with_reducible (have hMx := Mem.undrew hM; exact hMx)) | (with_reducible (have hMx := Mem.undrew hMp; exact hMx)))); done)); clear hM; intro hM; refine wpList_pushR (F := FPair) ((k : Int), (j : Int)) hM (fun _ => .there .here) rfl (by refine ⟨?_, ?_⟩ <;> (unfold I64; dsimp only; omega)) (by decide) (by show (m + 1) * 2 ≤ _; omega) i0 (.agg #[.int .i64 0, .int .i64 0]) 16 hi hz0 hz1 hz2 rfl (by omega) rfl _ _ _ Try.underlying46 rfl rfl rfl ?_)
              intro a7 c7 w7 hM
              go_wp2
              go_roundw
              case rel => exact ⟨j + 1, m + 1, c7, a7, L ++ [((k : Int), (j : Int))], by omega, by omega, by go_num, rfl, HS, hM⟩
              case measure => simp [intOf]; omega
            · have HS := Lib.hid (show concTo (coreN xs) k ++ concIn (coreN xs) k (j + 1) = L by rw [HSC.out, ← HLL.out]; simp)
              clear HSC
              go_wp2
              go_roundw
              case rel => exact ⟨j + 1, m, c', a', L, by omega, by omega, by go_num, rfl, HS, hM⟩
              case measure => simp [intOf]; omega
          · have HS := Lib.hid (show concTo (coreN xs) k ++ concIn (coreN xs) k (j + 1) = L by rw [HSC.out, ← HLL.out]; simp)
            clear HSC
            go_upto_region 10 with fail
            apply Mem.atWpA
            · (repeat' (first | with_reducible exact hM | with_reducible exact hMp | with_reducible apply Mem.drew | with_reducible apply Mem.drewN | with_reducible apply Mem.alloc | with_reducible apply Mem.set | with_reducible exact Sto.row | ((with_reducible refine Sto.rowEq2 ?_ ?_); omega; rfl) | ((with_reducible refine Sto.rowEq ?_); omega) | with_reducible apply Sto.int | with_reducible apply Sto.there | with_reducible assumption | (unfold I64; omega) | (with_reducible (have hMx := Mem.undrew hM; exact hMx)) | (with_reducible (have hMx := Mem.undrew hMp; exact hMx))))
            clear hM
            intro wst hM
            (try simp only [World.size_alloc, World.size_setCell, World.heap_drewN, heapDrew, Nat.add_assoc, Nat.reduceAdd, List.setIfInBounds_toArray, List.set_cons_zero, List.set_cons_succ, List.cons_append, List.nil_append] at hM)
            refine AtT.startA hM hM 15 (by kernel_rfl) ?_
            clear hM
            intro wd hM
            have hS := hM
            refine AtT.taked (i := 0) (v := ?_) (some 30) rfl rfl (by kernel_rfl) (by kernel_rfl) (by kernel_rfl) (by kernel_rfl) (fun _ _ _ h => h) (Or.inl ⟨by kernel_rfl, ?_⟩) hS ?_
            rotate_left
            · (intro wS hSw; (try dsimp only at hSw); have kr0 := (Mem.row hSw .here).cell; obtain ⟨y0, y1, y2, y3⟩ := HCY.out _ hSw.below; go_simp; (try rw [if_neg (by omega)]); try with_reducible rfl)
            simp only [Act.put, List.setIfInBounds_toArray, List.set_cons_zero, List.set_cons_succ]
            refine AtT.taked (i := 1) (v := ?_) (some 31) rfl rfl (by kernel_rfl) (by kernel_rfl) (by kernel_rfl) (by kernel_rfl) (fun _ _ _ h => h) (Or.inl ⟨by kernel_rfl, ?_⟩) hS ?_
            rotate_left
            · (intro wS hSw; (try dsimp only at hSw); go_simp; (try rw [if_neg (by omega)]); try with_reducible rfl)
            simp only [Act.put, List.setIfInBounds_toArray, List.set_cons_zero, List.set_cons_succ]
            refine AtT.taked (i := 2) (v := ?_) (some 32) rfl rfl (by kernel_rfl) (by kernel_rfl) (by kernel_rfl) (by kernel_rfl) (fun _ _ _ h => h) (Or.inl ⟨by kernel_rfl, ?_⟩) hS ?_
            rotate_left
            · (intro wS hSw; (try dsimp only at hSw); go_simp; (try rw [if_neg (by omega)]); try with_reducible rfl)
            simp only [Act.put, List.setIfInBounds_toArray, List.set_cons_zero, List.set_cons_succ]
            refine AtT.taked (i := 3) (v := ?_) (some 33) rfl rfl (by kernel_rfl) (by kernel_rfl) (by kernel_rfl) (by kernel_rfl) (fun _ _ _ h => h) (Or.inl ⟨by kernel_rfl, ?_⟩) hS ?_
            rotate_left
            · (intro wS hSw; (try dsimp only at hSw); have kr0 := (Mem.row hSw .here).cell; obtain ⟨y0, y1, y2, y3⟩ := HCY.out _ hSw.below; go_simp; (try rw [if_neg (by omega)]); try with_reducible rfl)
            simp only [Act.put, List.setIfInBounds_toArray, List.set_cons_zero, List.set_cons_succ]
            refine AtT.taked (i := 4) (v := ?_) (some 34) rfl rfl (by kernel_rfl) (by kernel_rfl) (by kernel_rfl) (by kernel_rfl) (fun _ _ _ h => h) (Or.inl ⟨by kernel_rfl, ?_⟩) hS ?_
            rotate_left
            · (intro wS hSw; (try dsimp only at hSw); have kr0 := (Mem.row hSw .here).cell; obtain ⟨y0, y1, y2, y3⟩ := HCY.out _ hSw.below; go_simp; (try rw [if_neg (by omega)]); try with_reducible rfl)
            simp only [Act.put, List.setIfInBounds_toArray, List.set_cons_zero, List.set_cons_succ]
            refine AtT.only (i := 5) (by kernel_rfl) rfl rfl ?_
            intro K hK
            go_simp
            refine (before_any ⟨xu, xq, xa, xn, xc, xl, xw⟩ ⟨yu, yq, ya, yn, yc, yl, yw⟩ _ (HYI.out.ext hM.below) HPX.out).mono ?_
            rw [HV1.out]
            rintro e w5 ⟨rfl, hb⟩
            replace hM := hM.ext hb
            clear hb
            try dsimp only
            refine hK.out _ _ (hM) ?_
            clear hK K hS
            have hS := hM
            refine AtT.taked (i := 6) (v := ?_) (some 36) rfl rfl (by kernel_rfl) (by kernel_rfl) (by kernel_rfl) (by kernel_rfl) (fun _ _ _ h => h) (Or.inl ⟨by kernel_rfl, ?_⟩) hS ?_
            rotate_left
            · (intro wS hSw; (try dsimp only at hSw); go_simp; (try rw [if_neg (by omega)]); try with_reducible rfl)
            simp only [Act.put, List.setIfInBounds_toArray, List.set_cons_zero, List.set_cons_succ]
            refine AtT.taked (i := 7) (v := ?_) (some 37) rfl rfl (by kernel_rfl) (by kernel_rfl) (by kernel_rfl) (by kernel_rfl) (fun _ _ _ h => h) (Or.inl ⟨by kernel_rfl, ?_⟩) hS ?_
            rotate_left
            · (intro wS hSw; (try dsimp only at hSw); go_simp; (try rw [if_neg (by omega)]); try with_reducible rfl)
            simp only [Act.put, List.setIfInBounds_toArray, List.set_cons_zero, List.set_cons_succ]
            refine AtT.taked (i := 8) (v := undef) (some 38) rfl rfl (by kernel_rfl) (by kernel_rfl) (by kernel_rfl) (by kernel_rfl) (fun _ _ _ h => h) (Or.inr ⟨by kernel_rfl, rfl⟩) hS ?_
            simp only [Act.put, List.setIfInBounds_toArray, List.set_cons_zero, List.set_cons_succ]
            refine AtT.taked (i := 9) (v := undef) (some 39) rfl rfl (by kernel_rfl) (by kernel_rfl) (by kernel_rfl) (by kernel_rfl) (fun _ _ _ h => h) (Or.inr ⟨by kernel_rfl, rfl⟩) hS ?_
            simp only [Act.put, List.setIfInBounds_toArray, List.set_cons_zero, List.set_cons_succ]
            refine AtT.taked (i := 10) (v := undef) (some 40) rfl rfl (by kernel_rfl) (by kernel_rfl) (by kernel_rfl) (by kernel_rfl) (fun _ _ _ h => h) (Or.inr ⟨by kernel_rfl, rfl⟩) hS ?_
            simp only [Act.put, List.setIfInBounds_toArray, List.set_cons_zero, List.set_cons_succ]
            refine AtT.taked (i := 11) (v := undef) (some 41) rfl rfl (by kernel_rfl) (by kernel_rfl) (by kernel_rfl) (by kernel_rfl) (fun _ _ _ h => h) (Or.inr ⟨by kernel_rfl, rfl⟩) hS ?_
            simp only [Act.put, List.setIfInBounds_toArray, List.set_cons_zero, List.set_cons_succ]
            refine AtT.taked (i := 12) (v := undef) (some 42) rfl rfl (by kernel_rfl) (by kernel_rfl) (by kernel_rfl) (by kernel_rfl) (fun _ _ _ h => h) (Or.inr ⟨by kernel_rfl, rfl⟩) hS ?_
            simp only [Act.put, List.setIfInBounds_toArray, List.set_cons_zero, List.set_cons_succ]
            refine AtT.taked (i := 13) (v := undef) (some 43) rfl rfl (by kernel_rfl) (by kernel_rfl) (by kernel_rfl) (by kernel_rfl) (fun _ _ _ h => h) (Or.inr ⟨by kernel_rfl, rfl⟩) hS ?_
            simp only [Act.put, List.setIfInBounds_toArray, List.set_cons_zero, List.set_cons_succ]
            refine AtT.taked (i := 14) (v := undef) (some 44) rfl rfl (by kernel_rfl) (by kernel_rfl) (by kernel_rfl) (by kernel_rfl) (fun _ _ _ h => h) (Or.inr ⟨by kernel_rfl, rfl⟩) hS ?_
            simp only [Act.put, List.setIfInBounds_toArray, List.set_cons_zero, List.set_cons_succ]
            refine AtT.last (by kernel_rfl) rfl (by kernel_rfl) ?_
            intro K hK
            clear hS
            go_simp
            refine hK.out _ _ ?_
            clear hK K
            go_wp2
            go_roundw
            case rel => exact ⟨j + 1, m, c', a', L, by omega, by omega, by go_num, rfl, HS, hM⟩
            case measure => simp [intOf]; omega
        · obtain rfl : j = n := by omega
          have HST := Lib.hid (show concTo (coreN xs) (k + 1) = L by rw [concTo, HNL.out]; exact HLL.out)
          go_wp2
          go_roundw
          case rel => exact ⟨k + 1, m, c', a', L, by omega, by go_num, rfl, HST, hM.tail⟩
          case measure => simp [intOf]; omega
    · obtain rfl : k = n := by omega
      have HL2 := HLL.out
      subst HL2
      have hml := (hM.ow .here).len
      clear HLL
      go_wp2
      go_ret2
      exact ⟨a', c', by rw [hml]; rfl, by rw [hml]; exact hM⟩
set_option maxRecDepth 100000 in
set_option maxHeartbeats 8000000 in
theorem specConc_any (u : Int) (a : Option Addr) (n c : Nat) (xs : List NoteI) (w : World) (hu : I64 u) (h : RdN w a n c xs) :
    Calls Try.prog 23 #[.int .i64 u, .slice a n c] w fun e w' => ∃ a' c', e = .returned (.tuple #[.slice a' (concR u (coreN xs)).length c', .bool (bookB u (coreN xs))]) ∧ Mem w.heap.size w w' [pairE a' (concR u (coreN xs)).length c' (concR u (coreN xs))] := by
  have hM := Mem.start w
  have HU := Lib.hid hu
  have HH := Lib.hid h
  clear hu h
  cases hb : bookB u (coreN xs)
  · have e2 : concR u (coreN xs) = [] := by rw [concR, hb]; rfl
    rw [e2]
    have HB := Lib.hid hb; clear hb e2
    go_enter Try.func23, Try.ntmps23
    go_upto_region 2 with fail
    apply Mem.atWpA
    · (repeat' (first | with_reducible exact hM | with_reducible exact hMp | with_reducible apply Mem.drew | with_reducible apply Mem.drewN | with_reducible apply Mem.alloc | with_reducible apply Mem.set | with_reducible exact Sto.row | ((with_reducible refine Sto.rowEq2 ?_ ?_); omega; rfl) | ((with_reducible refine Sto.rowEq ?_); omega) | with_reducible apply Sto.int | with_reducible apply Sto.there | with_reducible assumption | (unfold I64; omega) | (with_reducible (have hMx := Mem.undrew hM; exact hMx)) | (with_reducible (have hMx := Mem.undrew hMp; exact hMx))))
    clear hM
    intro wst hM
    (try simp only [World.size_alloc, World.size_setCell, World.heap_drewN, heapDrew, Nat.add_assoc, Nat.reduceAdd, List.setIfInBounds_toArray, List.set_cons_zero, List.set_cons_succ, List.cons_append, List.nil_append] at hM)
    replace hM := Mem.toOwR (F := FPair) hM
    go_wp2_with fail
    apply Mem.atA
    · (repeat' (first | with_reducible exact hM | with_reducible exact hMp | with_reducible apply Mem.drew | with_reducible apply Mem.drewN | with_reducible apply Mem.alloc | with_reducible apply Mem.set | with_reducible exact Sto.row | ((with_reducible refine Sto.rowEq2 ?_ ?_); omega; rfl) | ((with_reducible refine Sto.rowEq ?_); omega) | with_reducible apply Sto.int | with_reducible apply Sto.there | with_reducible assumption | (unfold I64; omega) | (with_reducible (have hMx := Mem.undrew hM; exact hMx)) | (with_reducible (have hMx := Mem.undrew hMp; exact hMx))))
    clear hM
    intro wst hM
    (try simp only [World.size_alloc, World.size_setCell, World.heap_drewN, heapDrew, Nat.add_assoc, Nat.reduceAdd, List.setIfInBounds_toArray, List.set_cons_zero, List.set_cons_succ, List.cons_append, List.nil_append] at hM)
    (first | refine (l17Good_any u a n c xs _ HU.out (HH.out.ext hM.below)).mono ?_)
    rw [HB.out]
    rintro e wc3 ⟨rfl, hb⟩
    replace hM := hM.ext hb
    clear hb
    go_wp2
    go_ret2
    exact ⟨_, _, rfl, hM⟩
  have hn12 : n ≤ 12 := by have := book_len hb; rw [coreN_len, HH.out.rd.len] at this; exact this
  have hNL : (coreN xs).length = n := by rw [coreN_len, HH.out.rd.len]
  have e2 : concR u (coreN xs) = concTo (coreN xs) n := by rw [concR, hb, hNL]; rfl
  rw [e2]
  have HPL := Lib.hid (fun (i j : Nat) (hi : i < n) (hj : j < n) => book_place hb HH.out hi hj)
  have HSM := Lib.hid (HH.out.small hb)
  have HKE := Lib.hid (fun (i j : Nat) (hi : i < j) (hj : j < n) => (⟨ltN_key (asc_get (book_asc hb) hi (by rw [hNL]; exact hj)), by rw [sameK_symm]; exact ltN_key (asc_get (book_asc hb) hi (by rw [hNL]; exact hj))⟩ : sameK ((coreN xs).getD i NoteC.zero) ((coreN xs).getD j NoteC.zero) = false ∧ sameK ((coreN xs).getD j NoteC.zero) ((coreN xs).getD i NoteC.zero) = false))
  have HLT := Lib.hid (fun i j (hi : i ≤ n) (hj : j ≤ n) => (by
    have h1 := concTo_len (coreN xs) i
    have h2 := concIn_len (coreN xs) i j
    rw [hNL] at h1
    have h3 : i * n ≤ 12 * 12 := Nat.mul_le_mul (by omega) hn12
    rw [List.length_append]
    omega : (concTo (coreN xs) i ++ concIn (coreN xs) i j).length ≤ 200))
  have HB := Lib.hid hb; have HNL := Lib.hid hNL
  clear hb e2 hNL
  obtain ⟨i0, hi, hz0, hz1, hz2⟩ := info_parts Try.info50
  go_enter Try.func23, Try.ntmps23
  go_upto_region 2 with fail
  apply Mem.atWpA
  · (repeat' (first | with_reducible exact hM | with_reducible exact hMp | with_reducible apply Mem.drew | with_reducible apply Mem.drewN | with_reducible apply Mem.alloc | with_reducible apply Mem.set | with_reducible exact Sto.row | ((with_reducible refine Sto.rowEq2 ?_ ?_); omega; rfl) | ((with_reducible refine Sto.rowEq ?_); omega) | with_reducible apply Sto.int | with_reducible apply Sto.there | with_reducible assumption | (unfold I64; omega) | (with_reducible (have hMx := Mem.undrew hM; exact hMx)) | (with_reducible (have hMx := Mem.undrew hMp; exact hMx))))
  clear hM
  intro wst hM
  (try simp only [World.size_alloc, World.size_setCell, World.heap_drewN, heapDrew, Nat.add_assoc, Nat.reduceAdd, List.setIfInBounds_toArray, List.set_cons_zero, List.set_cons_succ, List.cons_append, List.nil_append] at hM)
  replace hM := Mem.toOwR (F := FPair) hM
  go_wp2_with fail
  apply Mem.atA
  · (repeat' (first | with_reducible exact hM | with_reducible exact hMp | with_reducible apply Mem.drew | with_reducible apply Mem.drewN | with_reducible apply Mem.alloc | with_reducible apply Mem.set | with_reducible exact Sto.row | ((with_reducible refine Sto.rowEq2 ?_ ?_); omega; rfl) | ((with_reducible refine Sto.rowEq ?_); omega) | with_reducible apply Sto.int | with_reducible apply Sto.there | with_reducible assumption | (unfold I64; omega) | (with_reducible (have hMx := Mem.undrew hM; exact hMx)) | (with_reducible (have hMx := Mem.undrew hMp; exact hMx))))
  clear hM
  intro wst hM
  (try simp only [World.size_alloc, World.size_setCell, World.heap_drewN, heapDrew, Nat.add_assoc, Nat.reduceAdd, List.setIfInBounds_toArray, List.set_cons_zero, List.set_cons_succ, List.cons_append, List.nil_append] at hM)
  (first | refine (l17Good_any u a n c xs _ HU.out (HH.out.ext hM.below)).mono ?_)
  rw [HB.out]
  rintro e wc4 ⟨rfl, hb⟩
  replace hM := hM.ext hb
  clear hb
  go_wp2_with fail
  go_loopw [6, 7] (fun s6 s7 wr => ∃ (k m c' : Nat) (a' : Option Addr) (L : List (Int × Int)), k ≤ n ∧ s7 = .int .i64 k ∧ s6 = .slice a' m c' ∧ Hid (concTo (coreN xs) k = L) ∧ Mem w.heap.size w wr [pairE a' m c' L]) (fun _ s7 _ => n - (intOf s7).toNat)
  case atStart => exact ⟨0, 0, _, _, [], Nat.zero_le _, rfl, rfl, Lib.hid rfl, hM⟩
  case round =>
    clear hM
    obtain ⟨k, m, c', a', L, hk, rfl, rfl, HLL, hM⟩ := hrel
    by_cases hlt : k < n
    · obtain ⟨b, off, rfl, -, -⟩ := HH.out.rd.at' _ hlt
      have hxi := HH.out.get hlt
      obtain ⟨x, hx⟩ : ∃ x, xs.getD k NoteI.zero = x := ⟨_, rfl⟩
      have hxm : x ∈ xs := by rw [← hx]; exact getD_memO (by rw [HH.out.rd.len]; exact hlt)
      have HSX := Lib.hid (HSM.out x hxm)
      have HCX := Lib.hid (fun (w' : World) (hb : Below w.heap.size w w') => ((HH.out.rd.ext hb).cellNote hlt).2)
      simp only [hx] at HCX
      rw [hx] at hxi
      have HXE := Lib.hid hx
      clear hx hxm
      obtain ⟨xu, xq, xa, xn, xc, xl, xw⟩ := x
      dsimp only at hxi
      have HXI := Lib.hid hxi; clear hxi
      have i0' : (0 : Int) ≤ (k : Int) := by omega
      have i1 : (k : Int) < (n : Int) := by omega
      obtain ⟨k1, hk1⟩ : ∃ k1, k + 1 = k1 := ⟨_, rfl⟩
      have hw1 : IntKind.i64.wrap ((k : Int) + 1) = (k1 : Int) := by rw [wrap_in (by omega)]; omega
      go_wp2_with fail
      go_loopw [6, 8] (fun s6 s8 wq => ∃ (j m c' : Nat) (a' : Option Addr) (L : List (Int × Int)), k1 ≤ j ∧ j ≤ n ∧ s8 = .int .i64 j ∧ s6 = .slice a' m c' ∧ Hid (concTo (coreN xs) k ++ concIn (coreN xs) k j = L) ∧ Mem w.heap.size w wq [pairE a' m c' L]) (fun _ s8 _ => n - (intOf s8).toNat)
      case atStart => exact ⟨k1, m, c', a', L, Nat.le_refl _, by omega, rfl, rfl, Lib.hid (by rw [concIn_few _ _ _ (by omega), List.append_nil]; exact HLL.out), hM⟩
      case round =>
        clear hM HLL
        obtain ⟨j, m, c', a', L, hkj, hj, rfl, rfl, HLL, hM⟩ := hrel
        have hm2 : m ≤ 200 := by have := HLT.out k j hk hj; rw [HLL.out] at this; have := (hM.ow .here).len; omega
        by_cases hlj : j < n
        · have hpl := HPL.out k j hlt hlj
          have hpl2 := HPL.out j k hlj hlt
          have hyi := HH.out.get hlj
          obtain ⟨hke, hke2⟩ := HKE.out k j (by omega) hlj
          have hsc : concIn (coreN xs) k (j + 1) = if (!befC ((coreN xs).getD k NoteC.zero) ((coreN xs).getD j NoteC.zero) && !befC ((coreN xs).getD j NoteC.zero) ((coreN xs).getD k NoteC.zero)) then concIn (coreN xs) k j ++ [((k : Int), (j : Int))] else concIn (coreN xs) k j := by rw [concIn, decide_eq_true (by omega), Bool.true_and]
          rw [coreN_getD, coreN_getD] at hsc hke hke2
          rw [HXE.out] at hpl hpl2 hsc hke hke2
          obtain ⟨y, hy⟩ : ∃ y, xs.getD j NoteI.zero = y := ⟨_, rfl⟩
          have hym : y ∈ xs := by rw [← hy]; exact getD_memO (by rw [HH.out.rd.len]; exact hlj)
          have HSY := Lib.hid (HSM.out y hym)
          have HCY := Lib.hid (fun (w' : World) (hb : Below w.heap.size w w') => ((HH.out.rd.ext hb).cellNote hlj).2)
          simp only [hy] at HCY
          rw [hy] at hpl hpl2 hyi hsc hke hke2
          obtain ⟨yu, yq, ya, yn, yc, yl, yw⟩ := y
          dsimp only at hpl hpl2 hyi
          have HPX := Lib.hid hpl; have HPY := Lib.hid hpl2; have HYI := Lib.hid hyi
          have HK1 := Lib.hid hke; have HK2 := Lib.hid hke2
          clear hy hpl hpl2 hyi hym hke hke2
          obtain ⟨v1, hv1⟩ : ∃ v, befC (NoteI.core ⟨xu, xq, xa, xn, xc, xl, xw⟩) (NoteI.core ⟨yu, yq, ya, yn, yc, yl, yw⟩) = v := ⟨_, rfl⟩
          obtain ⟨v2, hv2⟩ : ∃ v, befC (NoteI.core ⟨yu, yq, ya, yn, yc, yl, yw⟩) (NoteI.core ⟨xu, xq, xa, xn, xc, xl, xw⟩) = v := ⟨_, rfl⟩
          rw [hv1, hv2] at hsc
          have HV1 := Lib.hid hv1; have HV2 := Lib.hid hv2; have HSC := Lib.hid hsc
          clear hv1 hv2 hsc
          have j0 : (0 : Int) ≤ (j : Int) := by omega
          have j1 : (j : Int) < (n : Int) := by omega
          cases v1
          · skip
            go_upto_region 10 with fail
            apply Mem.atWpA
            · (repeat' (first | with_reducible exact hM | with_reducible exact hMp | with_reducible apply Mem.drew | with_reducible apply Mem.drewN | with_reducible apply Mem.alloc | with_reducible apply Mem.set | with_reducible exact Sto.row | ((with_reducible refine Sto.rowEq2 ?_ ?_); omega; rfl) | ((with_reducible refine Sto.rowEq ?_); omega) | with_reducible apply Sto.int | with_reducible apply Sto.there | with_reducible assumption | (unfold I64; omega) | (with_reducible (have hMx := Mem.undrew hM; exact hMx)) | (with_reducible (have hMx := Mem.undrew hMp; exact hMx))))
            clear hM
            intro wst hM
            (try simp only [World.size_alloc, World.size_setCell, World.heap_drewN, heapDrew, Nat.add_assoc, Nat.reduceAdd, List.setIfInBounds_toArray, List.set_cons_zero, List.set_cons_succ, List.cons_append, List.nil_append] at hM)
            refine AtT.startA hM hM 21 (by kernel_rfl) ?_
            clear hM
            intro wd hM
            have hS := hM
            refine AtT.taked (i := 0) (v := ?_) (some 29) rfl rfl (by kernel_rfl) (by kernel_rfl) (by kernel_rfl) (by kernel_rfl) (fun _ _ _ h => h) (Or.inl ⟨by kernel_rfl, ?_⟩) hS ?_
            rotate_left
            · (intro wS hSw; (try dsimp only at hSw); go_simp; (try rw [if_neg (by omega)]); try with_reducible rfl)
            simp only [Act.put, List.setIfInBounds_toArray, List.set_cons_zero, List.set_cons_succ]
            refine AtT.taked (i := 1) (v := ?_) (some 30) rfl rfl (by kernel_rfl) (by kernel_rfl) (by kernel_rfl) (by kernel_rfl) (fun _ _ _ h => h) (Or.inl ⟨by kernel_rfl, ?_⟩) hS ?_
            rotate_left
            · (intro wS hSw; (try dsimp only at hSw); go_simp; (try rw [if_neg (by omega)]); try with_reducible rfl)
            simp only [Act.put, List.setIfInBounds_toArray, List.set_cons_zero, List.set_cons_succ]
            refine AtT.taked (i := 2) (v := ?_) (some 31) rfl rfl (by kernel_rfl) (by kernel_rfl) (by kernel_rfl) (by kernel_rfl) (fun _ _ _ h => h) (Or.inl ⟨by kernel_rfl, ?_⟩) hS ?_
            rotate_left
            · (intro wS hSw; (try dsimp only at hSw); obtain ⟨x0, x1, x2, x3⟩ := HCX.out _ hSw.below; obtain ⟨y0, y1, y2, y3⟩ := HCY.out _ hSw.below; go_simp; (try rw [if_neg (by omega)]); try with_reducible rfl)
            simp only [Act.put, List.setIfInBounds_toArray, List.set_cons_zero, List.set_cons_succ]
            refine AtT.taked (i := 3) (v := ?_) (some 32) rfl rfl (by kernel_rfl) (by kernel_rfl) (by kernel_rfl) (by kernel_rfl) (fun _ _ _ h => h) (Or.inl ⟨by kernel_rfl, ?_⟩) hS ?_
            rotate_left
            · (intro wS hSw; (try dsimp only at hSw); obtain ⟨x0, x1, x2, x3⟩ := HCX.out _ hSw.below; obtain ⟨y0, y1, y2, y3⟩ := HCY.out _ hSw.below; go_simp; (try rw [if_neg (by omega)]); try with_reducible rfl)
            simp only [Act.put, List.setIfInBounds_toArray, List.set_cons_zero, List.set_cons_succ]
            refine AtT.taked (i := 4) (v := ?_) (some 33) rfl rfl (by kernel_rfl) (by kernel_rfl) (by kernel_rfl) (by kernel_rfl) (fun _ _ _ h => h) (Or.inl ⟨by kernel_rfl, ?_⟩) hS ?_
            rotate_left
            · (intro wS hSw; (try dsimp only at hSw); go_simp; (try rw [if_neg (by omega)]); try with_reducible rfl)
            simp only [Act.put, List.setIfInBounds_toArray, List.set_cons_zero, List.set_cons_succ]
            refine AtT.taked (i := 5) (v := ?_) (some 34) rfl rfl (by kernel_rfl) (by kernel_rfl) (by kernel_rfl) (by kernel_rfl) (fun _ _ _ h => h) (Or.inl ⟨by kernel_rfl, ?_⟩) hS ?_
            rotate_left
            · (intro wS hSw; (try dsimp only at hSw); go_simp; (try rw [if_neg (by omega)]); try with_reducible rfl)
            simp only [Act.put, List.setIfInBounds_toArray, List.set_cons_zero, List.set_cons_succ]
            refine AtT.taked (i := 6) (v := ?_) (some 35) rfl rfl (by kernel_rfl) (by kernel_rfl) (by kernel_rfl) (by kernel_rfl) (fun _ _ _ h => h) (Or.inl ⟨by kernel_rfl, ?_⟩) hS ?_
            rotate_left
            · (intro wS hSw; (try dsimp only at hSw); obtain ⟨x0, x1, x2, x3⟩ := HCX.out _ hSw.below; obtain ⟨y0, y1, y2, y3⟩ := HCY.out _ hSw.below; go_simp; (try rw [if_neg (by omega)]); try with_reducible rfl)
            simp only [Act.put, List.setIfInBounds_toArray, List.set_cons_zero, List.set_cons_succ]
            refine AtT.taked (i := 7) (v := ?_) (some 36) rfl rfl (by kernel_rfl) (by kernel_rfl) (by kernel_rfl) (by kernel_rfl) (fun _ _ _ h => h) (Or.inl ⟨by kernel_rfl, ?_⟩) hS ?_
            rotate_left
            · (intro wS hSw; (try dsimp only at hSw); obtain ⟨x0, x1, x2, x3⟩ := HCX.out _ hSw.below; obtain ⟨y0, y1, y2, y3⟩ := HCY.out _ hSw.below; go_simp; (try rw [if_neg (by omega)]); try with_reducible rfl)
            simp only [Act.put, List.setIfInBounds_toArray, List.set_cons_zero, List.set_cons_succ]
            refine AtT.only (i := 8) (by kernel_rfl) rfl rfl ?_
            intro K hK
            go_simp
            refine (l17Before_any ⟨xu, xq, xa, xn, xc, xl, xw⟩ ⟨yu, yq, ya, yn, yc, yl, yw⟩ _ (HYI.out.ext hM.below) HPX.out HSX.out HSY.out).mono ?_
            rw [HV1.out, HK1.out]
            rintro e w5 ⟨rfl, hb⟩
            replace hM := hM.ext hb
            clear hb
            try dsimp only
            refine hK.out _ _ (hM) ?_
            clear hK K hS
            have hS := hM
            refine AtT.taked (i := 9) (v := ?_) (some 38) rfl rfl (by kernel_rfl) (by kernel_rfl) (by kernel_rfl) (by kernel_rfl) (fun _ _ _ h => h) (Or.inl ⟨by kernel_rfl, ?_⟩) hS ?_
            rotate_left
            · (intro wS hSw; (try dsimp only at hSw); go_simp; (try rw [if_neg (by omega)]); try with_reducible rfl)
            simp only [Act.put, List.setIfInBounds_toArray, List.set_cons_zero, List.set_cons_succ]
            refine AtT.taked (i := 10) (v := ?_) (some 39) rfl rfl (by kernel_rfl) (by kernel_rfl) (by kernel_rfl) (by kernel_rfl) (fun _ _ _ h => h) (Or.inl ⟨by kernel_rfl, ?_⟩) hS ?_
            rotate_left
            · (intro wS hSw; (try dsimp only at hSw); go_simp; (try rw [if_neg (by omega)]); try with_reducible rfl)
            simp only [Act.put, List.setIfInBounds_toArray, List.set_cons_zero, List.set_cons_succ]
            refine AtT.taked (i := 11) (v := ?_) (some 40) rfl rfl (by kernel_rfl) (by kernel_rfl) (by kernel_rfl) (by kernel_rfl) (fun _ _ _ h => h) (Or.inl ⟨by kernel_rfl, ?_⟩) hS ?_
            rotate_left
            · (intro wS hSw; (try dsimp only at hSw); go_simp; (try rw [if_neg (by omega)]); try with_reducible rfl)
            simp only [Act.put, List.setIfInBounds_toArray, List.set_cons_zero, List.set_cons_succ]
            refine AtT.taked (i := 12) (v := ?_) (some 41) rfl rfl (by kernel_rfl) (by kernel_rfl) (by kernel_rfl) (by kernel_rfl) (fun _ _ _ h => h) (Or.inl ⟨by kernel_rfl, ?_⟩) hS ?_
            rotate_left
            · (intro wS hSw; (try dsimp only at hSw); go_simp; (try rw [if_neg (by omega)]); try with_reducible rfl)
            simp only [Act.put, List.setIfInBounds_toArray, List.set_cons_zero, List.set_cons_succ]
            refine AtT.taked (i := 13) (v := ?_) (some 42) rfl rfl (by kernel_rfl) (by kernel_rfl) (by kernel_rfl) (by kernel_rfl) (fun _ _ _ h => h) (Or.inl ⟨by kernel_rfl, ?_⟩) hS ?_
            rotate_left
            · (intro wS hSw; (try dsimp only at hSw); obtain ⟨x0, x1, x2, x3⟩ := HCX.out _ hSw.below; obtain ⟨y0, y1, y2, y3⟩ := HCY.out _ hSw.below; go_simp; (try rw [if_neg (by omega)]); try with_reducible rfl)
            simp only [Act.put, List.setIfInBounds_toArray, List.set_cons_zero, List.set_cons_succ]
            refine AtT.taked (i := 14) (v := ?_) (some 43) rfl rfl (by kernel_rfl) (by kernel_rfl) (by kernel_rfl) (by kernel_rfl) (fun _ _ _ h => h) (Or.inl ⟨by kernel_rfl, ?_⟩) hS ?_
            rotate_left
            · (intro wS hSw; (try dsimp only at hSw); obtain ⟨x0, x1, x2, x3⟩ := HCX.out _ hSw.below; obtain ⟨y0, y1, y2, y3⟩ := HCY.out _ hSw.below; go_simp; (try rw [if_neg (by omega)]); try with_reducible rfl)
            simp only [Act.put, List.setIfInBounds_toArray, List.set_cons_zero, List.set_cons_succ]
            refine AtT.taked (i := 15) (v := ?_) (some 44) rfl rfl (by kernel_rfl) (by kernel_rfl) (by kernel_rfl) (by kernel_rfl) (fun _ _ _ h => h) (Or.inl ⟨by kernel_rfl, ?_⟩) hS ?_
            rotate_left
            · (intro wS hSw; (try dsimp only at hSw); go_simp; (try rw [if_neg (by omega)]); try with_reducible rfl)
            simp only [Act.put, List.setIfInBounds_toArray, List.set_cons_zero, List.set_cons_succ]
            refine AtT.taked (i := 16) (v := ?_) (some 45) rfl rfl (by kernel_rfl) (by kernel_rfl) (by kernel_rfl) (by kernel_rfl) (fun _ _ _ h => h) (Or.inl ⟨by kernel_rfl, ?_⟩) hS ?_
            rotate_left
            · (intro wS hSw; (try dsimp only at hSw); go_simp; (try rw [if_neg (by omega)]); try with_reducible rfl)
            simp only [Act.put, List.setIfInBounds_toArray, List.set_cons_zero, List.set_cons_succ]
            refine AtT.taked (i := 17) (v := ?_) (some 46) rfl rfl (by kernel_rfl) (by kernel_rfl) (by kernel_rfl) (by kernel_rfl) (fun _ _ _ h => h) (Or.inl ⟨by kernel_rfl, ?_⟩) hS ?_
            rotate_left
            · (intro wS hSw; (try dsimp only at hSw); obtain ⟨x0, x1, x2, x3⟩ := HCX.out _ hSw.below; obtain ⟨y0, y1, y2, y3⟩ := HCY.out _ hSw.below; go_simp; (try rw [if_neg (by omega)]); try with_reducible rfl)
            simp only [Act.put, List.setIfInBounds_toArray, List.set_cons_zero, List.set_cons_succ]
            refine AtT.taked (i := 18) (v := ?_) (some 47) rfl rfl (by kernel_rfl) (by kernel_rfl) (by kernel_rfl) (by kernel_rfl) (fun _ _ _ h => h) (Or.inl ⟨by kernel_rfl, ?_⟩) hS ?_
            rotate_left
            · (intro wS hSw; (try dsimp only at hSw); obtain ⟨x0, x1, x2, x3⟩ := HCX.out _ hSw.below; obtain ⟨y0, y1, y2, y3⟩ := HCY.out _ hSw.below; go_simp; (try rw [if_neg (by omega)]); try with_reducible rfl)
            simp only [Act.put, List.setIfInBounds_toArray, List.set_cons_zero, List.set_cons_succ]
            refine AtT.only (i := 19) (by kernel_rfl) rfl rfl ?_
            intro K hK
            go_simp
            refine (l17Before_any ⟨yu, yq, ya, yn, yc, yl, yw⟩ ⟨xu, xq, xa, xn, xc, xl, xw⟩ _ (HXI.out.ext hM.below) HPY.out HSY.out HSX.out).mono ?_
            rw [HV2.out, HK2.out]
            rintro e w6 ⟨rfl, hb⟩
            replace hM := hM.ext hb
            clear hb
            try dsimp only
            refine hK.out _ _ (hM) ?_
            clear hK K hS
            have hS := hM
            refine AtT.taked (i := 20) (v := ?_) (some 49) rfl rfl (by kernel_rfl) (by kernel_rfl) (by kernel_rfl) (by kernel_rfl) (fun _ _ _ h => h) (Or.inl ⟨by kernel_rfl, ?_⟩) hS ?_
            rotate_left
            · (intro wS hSw; (try dsimp only at hSw); go_simp; (try rw [if_neg (by omega)]); try with_reducible rfl)
            simp only [Act.put, List.setIfInBounds_toArray, List.set_cons_zero, List.set_cons_succ]
            refine AtT.last (by kernel_rfl) rfl (by kernel_rfl) ?_
            intro K hK
            clear hS
            go_simp
            refine hK.out _ _ ?_
            clear hK K
            cases v2
            · have HS := Lib.hid (show concTo (coreN xs) k ++ concIn (coreN xs) k (j + 1) = L ++ [((k : Int), (j : Int))] by rw [HSC.out, ← HLL.out]; simp)
              clear HSC
              go_wp2_with (at_builtin; apply Mem.atL; (focus ((repeat' (first | with_reducible exact hM | with_reducible exact hMp | with_reducible apply Mem.drew | with_reducible apply Mem.drewN | with_reducible apply Mem.alloc | with_reducible apply Mem.set | with_reducible exact Sto.row | ((with_reducible refine Sto.rowEq2 ?_ ?_); omega; rfl) | ((with_reducible refine Sto.rowEq ?_); omega) | with_reducible apply Sto.int | with_reducible apply Sto.there | with_reducible assumption | (unfold I64; omega) | (with_reducible (have hMx := Mem.undrew hM; exact hMx)) | (with_reducible (have hMx := Mem.undrew hMp; exact hMx)))); done)); clear hM; intro hM; refine wpList_pushR (F := FPair) ((k : Int), (j : Int)) hM (fun _ => .here) rfl (by refine ⟨?_, ?_⟩ <;> (unfold I64; dsimp only; omega)) (by decide) (by show (m + 1) * 2 ≤ _; omega) i0 (.agg #[.int .i64 0, .int .i64 0]) 16 hi hz0 hz1 hz2 rfl (by omega) rfl _ _ _ Try.underlying46 rfl rfl rfl ?_)
              intro a7 c7 w7 hM
              go_wp2
              go_roundw
              case rel => exact ⟨j + 1, m + 1, c7, a7, L ++ [((k : Int), (j : Int))], by omega, by omega, by go_num, rfl, HS, hM⟩
              case measure => simp [intOf]; omega
            · have HS := Lib.hid (show concTo (coreN xs) k ++ concIn (coreN xs) k (j + 1) = L by rw [HSC.out, ← HLL.out]; simp)
              clear HSC
              go_wp2
              go_roundw
              case rel => exact ⟨j + 1, m, c', a', L, by omega, by omega, by go_num, rfl, HS, hM⟩
              case measure => simp [intOf]; omega
          · have HS := Lib.hid (show concTo (coreN xs) k ++ concIn (coreN xs) k (j + 1) = L by rw [HSC.out, ← HLL.out]; simp)
            clear HSC
            go_upto_region 10 with fail
            apply Mem.atWpA
            · (repeat' (first | with_reducible exact hM | with_reducible exact hMp | with_reducible apply Mem.drew | with_reducible apply Mem.drewN | with_reducible apply Mem.alloc | with_reducible apply Mem.set | with_reducible exact Sto.row | ((with_reducible refine Sto.rowEq2 ?_ ?_); omega; rfl) | ((with_reducible refine Sto.rowEq ?_); omega) | with_reducible apply Sto.int | with_reducible apply Sto.there | with_reducible assumption | (unfold I64; omega) | (with_reducible (have hMx := Mem.undrew hM; exact hMx)) | (with_reducible (have hMx := Mem.undrew hMp; exact hMx))))
            clear hM
            intro wst hM
            (try simp only [World.size_alloc, World.size_setCell, World.heap_drewN, heapDrew, Nat.add_assoc, Nat.reduceAdd, List.setIfInBounds_toArray, List.set_cons_zero, List.set_cons_succ, List.cons_append, List.nil_append] at hM)
            refine AtT.startA hM hM 21 (by kernel_rfl) ?_
            clear hM
            intro wd hM
            have hS := hM
            refine AtT.taked (i := 0) (v := ?_) (some 29) rfl rfl (by kernel_rfl) (by kernel_rfl) (by kernel_rfl) (by kernel_rfl) (fun _ _ _ h => h) (Or.inl ⟨by kernel_rfl, ?_⟩) hS ?_
            rotate_left
            · (intro wS hSw; (try dsimp only at hSw); go_simp; (try rw [if_neg (by omega)]); try with_reducible rfl)
            simp only [Act.put, List.setIfInBounds_toArray, List.set_cons_zero, List.set_cons_succ]
            refine AtT.taked (i := 1) (v := ?_) (some 30) rfl rfl (by kernel_rfl) (by kernel_rfl) (by kernel_rfl) (by kernel_rfl) (fun _ _ _ h => h) (Or.inl ⟨by kernel_rfl, ?_⟩) hS ?_
            rotate_left
            · (intro wS hSw; (try dsimp only at hSw); go_simp; (try rw [if_neg (by omega)]); try with_reducible rfl)
            simp only [Act.put, List.setIfInBounds_toArray, List.set_cons_zero, List.set_cons_succ]
            refine AtT.taked (i := 2) (v := ?_) (some 31) rfl rfl (by kernel_rfl) (by kernel_rfl) (by kernel_rfl) (by kernel_rfl) (fun _ _ _ h => h) (Or.inl ⟨by kernel_rfl, ?_⟩) hS ?_
            rotate_left
            · (intro wS hSw; (try dsimp only at hSw); obtain ⟨x0, x1, x2, x3⟩ := HCX.out _ hSw.below; obtain ⟨y0, y1, y2, y3⟩ := HCY.out _ hSw.below; go_simp; (try rw [if_neg (by omega)]); try with_reducible rfl)
            simp only [Act.put, List.setIfInBounds_toArray, List.set_cons_zero, List.set_cons_succ]
            refine AtT.taked (i := 3) (v := ?_) (some 32) rfl rfl (by kernel_rfl) (by kernel_rfl) (by kernel_rfl) (by kernel_rfl) (fun _ _ _ h => h) (Or.inl ⟨by kernel_rfl, ?_⟩) hS ?_
            rotate_left
            · (intro wS hSw; (try dsimp only at hSw); obtain ⟨x0, x1, x2, x3⟩ := HCX.out _ hSw.below; obtain ⟨y0, y1, y2, y3⟩ := HCY.out _ hSw.below; go_simp; (try rw [if_neg (by omega)]); try with_reducible rfl)
            simp only [Act.put, List.setIfInBounds_toArray, List.set_cons_zero, List.set_cons_succ]
            refine AtT.taked (i := 4) (v := ?_) (some 33) rfl rfl (by kernel_rfl) (by kernel_rfl) (by kernel_rfl) (by kernel_rfl) (fun _ _ _ h => h) (Or.inl ⟨by kernel_rfl, ?_⟩) hS ?_
            rotate_left
            · (intro wS hSw; (try dsimp only at hSw); go_simp; (try rw [if_neg (by omega)]); try with_reducible rfl)
            simp only [Act.put, List.setIfInBounds_toArray, List.set_cons_zero, List.set_cons_succ]
            refine AtT.taked (i := 5) (v := ?_) (some 34) rfl rfl (by kernel_rfl) (by kernel_rfl) (by kernel_rfl) (by kernel_rfl) (fun _ _ _ h => h) (Or.inl ⟨by kernel_rfl, ?_⟩) hS ?_
            rotate_left
            · (intro wS hSw; (try dsimp only at hSw); go_simp; (try rw [if_neg (by omega)]); try with_reducible rfl)
            simp only [Act.put, List.setIfInBounds_toArray, List.set_cons_zero, List.set_cons_succ]
            refine AtT.taked (i := 6) (v := ?_) (some 35) rfl rfl (by kernel_rfl) (by kernel_rfl) (by kernel_rfl) (by kernel_rfl) (fun _ _ _ h => h) (Or.inl ⟨by kernel_rfl, ?_⟩) hS ?_
            rotate_left
            · (intro wS hSw; (try dsimp only at hSw); obtain ⟨x0, x1, x2, x3⟩ := HCX.out _ hSw.below; obtain ⟨y0, y1, y2, y3⟩ := HCY.out _ hSw.below; go_simp; (try rw [if_neg (by omega)]); try with_reducible rfl)
            simp only [Act.put, List.setIfInBounds_toArray, List.set_cons_zero, List.set_cons_succ]
            refine AtT.taked (i := 7) (v := ?_) (some 36) rfl rfl (by kernel_rfl) (by kernel_rfl) (by kernel_rfl) (by kernel_rfl) (fun _ _ _ h => h) (Or.inl ⟨by kernel_rfl, ?_⟩) hS ?_
            rotate_left
            · (intro wS hSw; (try dsimp only at hSw); obtain ⟨x0, x1, x2, x3⟩ := HCX.out _ hSw.below; obtain ⟨y0, y1, y2, y3⟩ := HCY.out _ hSw.below; go_simp; (try rw [if_neg (by omega)]); try with_reducible rfl)
            simp only [Act.put, List.setIfInBounds_toArray, List.set_cons_zero, List.set_cons_succ]
            refine AtT.only (i := 8) (by kernel_rfl) rfl rfl ?_
            intro K hK
            go_simp
            refine (l17Before_any ⟨xu, xq, xa, xn, xc, xl, xw⟩ ⟨yu, yq, ya, yn, yc, yl, yw⟩ _ (HYI.out.ext hM.below) HPX.out HSX.out HSY.out).mono ?_
            rw [HV1.out, HK1.out]
            rintro e w5 ⟨rfl, hb⟩
            replace hM := hM.ext hb
            clear hb
            try dsimp only
            refine hK.out _ _ (hM) ?_
            clear hK K hS
            have hS := hM
            refine AtT.taked (i := 9) (v := ?_) (some 38) rfl rfl (by kernel_rfl) (by kernel_rfl) (by kernel_rfl) (by kernel_rfl) (fun _ _ _ h => h) (Or.inl ⟨by kernel_rfl, ?_⟩) hS ?_
            rotate_left
            · (intro wS hSw; (try dsimp only at hSw); go_simp; (try rw [if_neg (by omega)]); try with_reducible rfl)
            simp only [Act.put, List.setIfInBounds_toArray, List.set_cons_zero, List.set_cons_succ]
            refine AtT.taked (i := 10) (v := ?_) (some 39) rfl rfl (by kernel_rfl) (by kernel_rfl) (by kernel_rfl) (by kernel_rfl) (fun _ _ _ h => h) (Or.inl ⟨by kernel_rfl, ?_⟩) hS ?_
            rotate_left
            · (intro wS hSw; (try dsimp only at hSw); go_simp; (try rw [if_neg (by omega)]); try with_reducible rfl)
            simp only [Act.put, List.setIfInBounds_toArray, List.set_cons_zero, List.set_cons_succ]
            refine AtT.taked (i := 11) (v := undef) (some 40) rfl rfl (by kernel_rfl) (by kernel_rfl) (by kernel_rfl) (by kernel_rfl) (fun _ _ _ h => h) (Or.inr ⟨by kernel_rfl, rfl⟩) hS ?_
            simp only [Act.put, List.setIfInBounds_toArray, List.set_cons_zero, List.set_cons_succ]
            refine AtT.taked (i := 12) (v := undef) (some 41) rfl rfl (by kernel_rfl) (by kernel_rfl) (by kernel_rfl) (by kernel_rfl) (fun _ _ _ h => h) (Or.inr ⟨by kernel_rfl, rfl⟩) hS ?_
            simp only [Act.put, List.setIfInBounds_toArray, List.set_cons_zero, List.set_cons_succ]
            refine AtT.taked (i := 13) (v := undef) (some 42) rfl rfl (by kernel_rfl) (by kernel_rfl) (by kernel_rfl) (by kernel_rfl) (fun _ _ _ h => h) (Or.inr ⟨by kernel_rfl, rfl⟩) hS ?_
            simp only [Act.put, List.setIfInBounds_toArray, List.set_cons_zero, List.set_cons_succ]
            refine AtT.taked (i := 14) (v := undef) (some 43) rfl rfl (by kernel_rfl) (by kernel_rfl) (by kernel_rfl) (by kernel_rfl) (fun _ _ _ h => h) (Or.inr ⟨by kernel_rfl, rfl⟩) hS ?_
            simp only [Act.put, List.setIfInBounds_toArray, List.set_cons_zero, List.set_cons_succ]
            refine AtT.taked (i := 15) (v := undef) (some 44) rfl rfl (by kernel_rfl) (by kernel_rfl) (by kernel_rfl) (by kernel_rfl) (fun _ _ _ h => h) (Or.inr ⟨by kernel_rfl, rfl⟩) hS ?_
            simp only [Act.put, List.setIfInBounds_toArray, List.set_cons_zero, List.set_cons_succ]
            refine AtT.taked (i := 16) (v := undef) (some 45) rfl rfl (by kernel_rfl) (by kernel_rfl) (by kernel_rfl) (by kernel_rfl) (fun _ _ _ h => h) (Or.inr ⟨by kernel_rfl, rfl⟩) hS ?_
            simp only [Act.put, List.setIfInBounds_toArray, List.set_cons_zero, List.set_cons_succ]
            refine AtT.taked (i := 17) (v := undef) (some 46) rfl rfl (by kernel_rfl) (by kernel_rfl) (by kernel_rfl) (by kernel_rfl) (fun _ _ _ h => h) (Or.inr ⟨by kernel_rfl, rfl⟩) hS ?_
            simp only [Act.put, List.setIfInBounds_toArray, List.set_cons_zero, List.set_cons_succ]
            refine AtT.taked (i := 18) (v := undef) (some 47) rfl rfl (by kernel_rfl) (by kernel_rfl) (by kernel_rfl) (by kernel_rfl) (fun _ _ _ h => h) (Or.inr ⟨by kernel_rfl, rfl⟩) hS ?_
            simp only [Act.put, List.setIfInBounds_toArray, List.set_cons_zero, List.set_cons_succ]
            refine AtT.taked (i := 19) (v := undef) (some 48) rfl rfl (by kernel_rfl) (by kernel_rfl) (by kernel_rfl) (by kernel_rfl) (fun _ _ _ h => h) (Or.inr ⟨by kernel_rfl, rfl⟩) hS ?_
            simp only [Act.put, List.setIfInBounds_toArray, List.set_cons_zero, List.set_cons_succ]
            refine AtT.taked (i := 20) (v := undef) (some 49) rfl rfl (by kernel_rfl) (by kernel_rfl) (by kernel_rfl) (by kernel_rfl) (fun _ _ _ h => h) (Or.inr ⟨by kernel_rfl, rfl⟩) hS ?_
            simp only [Act.put, List.setIfInBounds_toArray, List.set_cons_zero, List.set_cons_succ]
            refine AtT.last (by kernel_rfl) rfl (by kernel_rfl) ?_
            intro K hK
            clear hS
            go_simp
            refine hK.out _ _ ?_
            clear hK K
            go_wp2
            go_roundw
            case rel => exact ⟨j + 1, m, c', a', L, by omega, by omega, by go_num, rfl, HS, hM⟩
            case measure => simp [intOf]; omega
        · obtain rfl : j = n := by omega
          have HST := Lib.hid (show concTo (coreN xs) (k + 1) = L by rw [concTo, HNL.out]; exact HLL.out)
          go_wp2
          go_roundw
          case rel => exact ⟨k + 1, m, c', a', L, by omega, by go_num, rfl, HST, hM⟩
          case measure => simp [intOf]; omega
    · obtain rfl : k = n := by omega
      have HL2 := HLL.out
      subst HL2
      have hml := (hM.ow .here).len
      clear HLL
      go_wp2
      go_ret2
      exact ⟨a', c', by rw [hml]; rfl, by rw [hml]; exact hM⟩
theorem cellsInt : Try.prog.cellsOf 3 = 1 := by kernel_rfl
theorem undPair : Try.prog.underlying 50 = some (.array 2 3) := by kernel_rfl
theorem eqInt_run (d : Nat) (a b : Int) (w : World) : (Op.equalIn (d + 1) 3 (.int .i64 a) (.int .i64 b)).run Try.prog w = .ok (a == b) w := by
  simp [Op.equalIn, Sem.run_bind, run_underlying Try.underlying3]
theorem partPair (a b : Int) (w : World) (k : Nat) (v : Value) (h : #[Value.int IntKind.i64 a, Value.int IntKind.i64 b][k]? = some v) : (part 3 #[Value.int IntKind.i64 a, Value.int IntKind.i64 b] k).run Try.prog w = .ok v w := by
  unfold part
  simp only [Sem.run_bind, Try.isAgg3 w, Result.andThen_ok, h]
  simp
theorem pair_eq (a b c d : Int) (w : World) : (Op.equalIn 10000 50 (.agg #[.int .i64 a, .int .i64 b]) (.agg #[.int .i64 c, .int .i64 d])).run Try.prog w = .ok (a == c && b == d) w := by
  obtain ⟨i0, hi, hz0, hz1, hz2⟩ := info_parts Try.info3
  rw [show (10000 : Nat) = 9999 + 1 from rfl, run_equalIn_array w 9999 _ _ undPair hi, cellsInt]
  simp only [show List.range 2 = [0, 1] from rfl, Op.eqItems, Sem.run_bind]
  rw [partPair a b w (0 * 1) (.int .i64 a) rfl]
  simp only [Result.andThen_ok]
  rw [partPair c d w (0 * 1) (.int .i64 c) rfl]
  simp only [Result.andThen_ok]
  rw [show (9999 : Nat) = 9998 + 1 from rfl, eqInt_run]
  simp only [Result.andThen_ok]
  cases h : (a == c)
  · simp
  · simp only [Bool.not_true, Bool.false_eq_true, if_false, Sem.run_bind]
    rw [partPair a b w (1 * 1) (.int .i64 b) rfl]
    simp only [Result.andThen_ok]
    rw [partPair c d w (1 * 1) (.int .i64 d) rfl]
    simp only [Result.andThen_ok]
    rw [eqInt_run]
    simp only [Result.andThen_ok]
    cases h2 : (b == d) <;> simp
set_option maxRecDepth 100000 in
set_option maxHeartbeats 4000000 in
theorem vPairs_same (a : Option Addr) (n c : Nat) (a' : Option Addr) (c' : Nat) (xs : List (Int × Int)) (w : World) (h : Rd FPair w a n c xs) (h' : Rd FPair w a' n c' xs) :
    Calls Try.prog 24 #[.slice a n c, .slice a' n c'] w fun e w' => e = .returned (.bool true) ∧ Below w.heap.size w w' := by
  have hM := Mem.start w
  have hrm := h.nroom
  have HH := Lib.hid h; have HH' := Lib.hid h'
  clear h h'
  have e0 : ((n : Int) != (n : Int)) = false := by simp
  go_enter Try.func24, Try.ntmps24
  go_wp2_with fail
  go_loopw [5] (fun s wr => ∃ k : Nat, k ≤ n ∧ s = .int .i64 k ∧ Mem w.heap.size w wr []) (fun s _ => n - (intOf s).toNat)
  case atStart => exact ⟨0, Nat.zero_le _, rfl, hM⟩
  case round =>
    clear hM
    obtain ⟨k, hk, rfl, hM⟩ := hrel
    by_cases hlt : k < n
    · obtain ⟨b, off, rfl, -, -⟩ := HH.out.at' _ hlt
      obtain ⟨b2, off2, rfl, -, -⟩ := HH'.out.at' _ hlt
      have hx := ((HH.out.ext hM.below).cellPair hlt).2
      have hy := ((HH'.out.ext hM.below).cellPair hlt).2
      obtain ⟨x0, x1⟩ := hx
      obtain ⟨y0, y1⟩ := hy
      have i0 : (0 : Int) ≤ (k : Int) := by omega
      have i1 : (k : Int) < (n : Int) := by omega
      obtain ⟨v0, hv0⟩ : ∃ v, (xs.getD k (0, 0)).1 = v := ⟨_, rfl⟩
      obtain ⟨v1, hv1⟩ : ∃ v, (xs.getD k (0, 0)).2 = v := ⟨_, rfl⟩
      have HCX := Lib.hid (fun (w' : World) (hb : Below w.heap.size w w') => ((HH.out.ext hb).cellPair hlt).2)
      have HCY := Lib.hid (fun (w' : World) (hb : Below w.heap.size w w') => ((HH'.out.ext hb).cellPair hlt).2)
      rw [hv0, hv1] at HCX HCY
      clear hv0 hv1 x0 x1 y0 y1
      have hpe : ∀ w' : World, (Op.equalIn 10000 50 (.agg #[.int .i64 v0, .int .i64 v1]) (.agg #[.int .i64 v0, .int .i64 v1])).run Try.prog w' = .ok true w' := fun w' => by rw [pair_eq]; simp
      go_upto_region 6 with fail
      apply Mem.atWpA
      · (repeat' (first | with_reducible exact hM | with_reducible exact hMp | with_reducible apply Mem.drew | with_reducible apply Mem.drewN | with_reducible apply Mem.alloc | with_reducible apply Mem.set | with_reducible exact Sto.row | ((with_reducible refine Sto.rowEq2 ?_ ?_); omega; rfl) | ((with_reducible refine Sto.rowEq ?_); omega) | with_reducible apply Sto.int | with_reducible apply Sto.there | with_reducible assumption | (unfold I64; omega) | (with_reducible (have hMx := Mem.undrew hM; exact hMx)) | (with_reducible (have hMx := Mem.undrew hMp; exact hMx))))
      clear hM
      intro wst hM
      (try simp only [World.size_alloc, World.size_setCell, World.heap_drewN, heapDrew, Nat.add_assoc, Nat.reduceAdd, List.setIfInBounds_toArray, List.set_cons_zero, List.set_cons_succ, List.cons_append, List.nil_append] at hM)
      refine AtT.startA hM hM 8 (by kernel_rfl) ?_
      clear hM
      intro wd hM
      have hS := hM
      refine AtT.taked (i := 0) (v := ?_) (some 17) rfl rfl (by kernel_rfl) (by kernel_rfl) (by kernel_rfl) (by kernel_rfl) (fun _ _ _ h => h) (Or.inl ⟨by kernel_rfl, ?_⟩) hS ?_
      rotate_left
      · (intro wS hSw; (try dsimp only at hSw); go_simp; (try rw [if_neg (by omega)]); try with_reducible rfl)
      simp only [Act.put, List.setIfInBounds_toArray, List.set_cons_zero, List.set_cons_succ]
      refine AtT.taked (i := 1) (v := ?_) (some 18) rfl rfl (by kernel_rfl) (by kernel_rfl) (by kernel_rfl) (by kernel_rfl) (fun _ _ _ h => h) (Or.inl ⟨by kernel_rfl, ?_⟩) hS ?_
      rotate_left
      · (intro wS hSw; (try dsimp only at hSw); go_simp; (try rw [if_neg (by omega)]); try with_reducible rfl)
      simp only [Act.put, List.setIfInBounds_toArray, List.set_cons_zero, List.set_cons_succ]
      refine AtT.taked (i := 2) (v := ?_) (some 19) rfl rfl (by kernel_rfl) (by kernel_rfl) (by kernel_rfl) (by kernel_rfl) (fun _ _ _ h => h) (Or.inl ⟨by kernel_rfl, ?_⟩) hS ?_
      rotate_left
      · (intro wS hSw; (try dsimp only at hSw); obtain ⟨x0, x1⟩ := HCX.out _ hSw.below; obtain ⟨y0, y1⟩ := HCY.out _ hSw.below; go_simp; (try rw [if_neg (by omega)]); try with_reducible rfl)
      simp only [Act.put, List.setIfInBounds_toArray, List.set_cons_zero, List.set_cons_succ]
      refine AtT.taked (i := 3) (v := ?_) (some 20) rfl rfl (by kernel_rfl) (by kernel_rfl) (by kernel_rfl) (by kernel_rfl) (fun _ _ _ h => h) (Or.inl ⟨by kernel_rfl, ?_⟩) hS ?_
      rotate_left
      · (intro wS hSw; (try dsimp only at hSw); obtain ⟨x0, x1⟩ := HCX.out _ hSw.below; obtain ⟨y0, y1⟩ := HCY.out _ hSw.below; go_simp; (try rw [if_neg (by omega)]); try with_reducible rfl)
      simp only [Act.put, List.setIfInBounds_toArray, List.set_cons_zero, List.set_cons_succ]
      refine AtT.taked (i := 4) (v := ?_) (some 21) rfl rfl (by kernel_rfl) (by kernel_rfl) (by kernel_rfl) (by kernel_rfl) (fun _ _ _ h => h) (Or.inl ⟨by kernel_rfl, ?_⟩) hS ?_
      rotate_left
      · (intro wS hSw; (try dsimp only at hSw); go_simp; (try rw [if_neg (by omega)]); try with_reducible rfl)
      simp only [Act.put, List.setIfInBounds_toArray, List.set_cons_zero, List.set_cons_succ]
      refine AtT.taked (i := 5) (v := ?_) (some 22) rfl rfl (by kernel_rfl) (by kernel_rfl) (by kernel_rfl) (by kernel_rfl) (fun _ _ _ h => h) (Or.inl ⟨by kernel_rfl, ?_⟩) hS ?_
      rotate_left
      · (intro wS hSw; (try dsimp only at hSw); go_simp; (try rw [if_neg (by omega)]); try with_reducible rfl)
      simp only [Act.put, List.setIfInBounds_toArray, List.set_cons_zero, List.set_cons_succ]
      refine AtT.taked (i := 6) (v := ?_) (some 23) rfl rfl (by kernel_rfl) (by kernel_rfl) (by kernel_rfl) (by kernel_rfl) (fun _ _ _ h => h) (Or.inl ⟨by kernel_rfl, ?_⟩) hS ?_
      rotate_left
      · (intro wS hSw; (try dsimp only at hSw); obtain ⟨x0, x1⟩ := HCX.out _ hSw.below; obtain ⟨y0, y1⟩ := HCY.out _ hSw.below; go_simp; (try rw [if_neg (by omega)]); try with_reducible rfl)
      simp only [Act.put, List.setIfInBounds_toArray, List.set_cons_zero, List.set_cons_succ]
      refine AtT.taked (i := 7) (v := ?_) (some 24) rfl rfl (by kernel_rfl) (by kernel_rfl) (by kernel_rfl) (by kernel_rfl) (fun _ _ _ h => h) (Or.inl ⟨by kernel_rfl, ?_⟩) hS ?_
      rotate_left
      · (intro wS hSw; (try dsimp only at hSw); obtain ⟨x0, x1⟩ := HCX.out _ hSw.below; obtain ⟨y0, y1⟩ := HCY.out _ hSw.below; go_simp; (try rw [if_neg (by omega)]); try with_reducible rfl)
      simp only [Act.put, List.setIfInBounds_toArray, List.set_cons_zero, List.set_cons_succ]
      refine AtT.last (by kernel_rfl) rfl (by kernel_rfl) ?_
      intro K hK
      clear hS
      go_simp
      refine hK.out _ _ ?_
      clear hK K
      go_wp2
      go_roundw
      case rel => exact ⟨k + 1, by omega, by go_num, by (repeat' (first | with_reducible exact hM | with_reducible exact hMp | with_reducible apply Mem.drew | with_reducible apply Mem.drewN | with_reducible apply Mem.alloc | with_reducible apply Mem.set | with_reducible exact Sto.row | ((with_reducible refine Sto.rowEq2 ?_ ?_); omega; rfl) | ((with_reducible refine Sto.rowEq ?_); omega) | with_reducible apply Sto.int | with_reducible apply Sto.there | with_reducible assumption | (unfold I64; omega) | (with_reducible (have hMx := Mem.undrew hM; exact hMx)) | (with_reducible (have hMx := Mem.undrew hMp; exact hMx))))⟩
      case measure => simp [intOf]; omega
    · go_wp2
      go_ret
      exact ⟨rfl, (by apply Mem.below; (repeat' (first | with_reducible exact hM | with_reducible exact hMp | with_reducible apply Mem.drew | with_reducible apply Mem.drewN | with_reducible apply Mem.alloc | with_reducible apply Mem.set | with_reducible exact Sto.row | ((with_reducible refine Sto.rowEq2 ?_ ?_); omega; rfl) | ((with_reducible refine Sto.rowEq ?_); omega) | with_reducible apply Sto.int | with_reducible apply Sto.there | with_reducible assumption | (unfold I64; omega) | (with_reducible (have hMx := Mem.undrew hM; exact hMx)) | (with_reducible (have hMx := Mem.undrew hMp; exact hMx)))))⟩
end Go.Proofs.Ytjnbdgldpmmamaa
