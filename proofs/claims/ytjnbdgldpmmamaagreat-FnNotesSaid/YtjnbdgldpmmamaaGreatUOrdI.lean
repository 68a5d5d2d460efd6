/-
  The order of a complete notebook: the program's.
-/
import Derived.Test.YtjnbdgldpmmamaaGreatUCplI
import Derived.Test.YtjnbdgldpmmamaaGreatULargestS
/-
  The order of a complete notebook: the program's.
-/
namespace Go.Proofs.YtjnbdgldpmmamaaGreat
set_option linter.unusedSimpArgs false
set_option linter.unusedVariables false
open Go.RowKit

theorem sinkL_G (lt : Int → Int → Bool) : ∀ (j : Nat) (xs : List Int), sinkL lt j xs = sinkG 0 lt j xs
  | 0, _ => rfl
  | j + 1, xs => by rw [sinkL, sinkG, sinkL_G lt j]
theorem isortK_H (lt : Int → Int → Bool) : ∀ (k : Nat) (xs : List Int), isortK lt k xs = isortH 0 lt k xs
  | 0, _ => rfl
  | k + 1, xs => by rw [isortK, isortH, isortK_H lt k, sinkL_G]
theorem idxTo_L : ∀ n : Nat, idxTo n = idxL n
  | 0 => rfl
  | n + 1 => by rw [idxTo, idxTo_L n, idxL_succ]
theorem ordL_outS (l : List NoteC) : ordL l = outS (ltSum l) l.length := by
  rw [ordL, isortG, ← isortK_H, idxTo_L, idxL_length]
  have := isortL_idx (ltSum l) l.length
  rw [isortL, idxL_length] at this
  exact this
theorem Mem.toInts0' {B : Nat} {w0 w : World} {G : List Ent} {b : Nat} (h : Mem B w0 w (rowE b 3 #[] :: G)) : Mem B w0 w (intE (some ⟨b, 0, none⟩) 0 0 [] :: G) := h.toInts (xs := []) .here rfl (by simp) (by simp)
def ordR (u : Int) (l : List NoteC) : List Int := if bookB u l && compB l then ordL l else []
set_option maxRecDepth 100000 in
set_option maxHeartbeats 1000000 in
theorem sumTo_any (a : Option Addr) (n c : Nat) (xs : List Int) (w : World) (h : Ints w a n c xs) (hn25 : n ≤ 25) (hx : ∀ x ∈ xs, 0 ≤ x ∧ x ≤ 12) :
    Calls Tryz.prog 28 #[.slice a n c] w fun e w' => e = .returned (.int .i64 (sumTo xs n)) ∧ w = w' := by
  have hn := h.cap
  have hc := h.room
  have HL := Lib.hid h.len
  have HX := Lib.hid hx
  have HB := Lib.hid (sumTo_b hx)
  clear hx
  go_enter Tryz.func28, Tryz.ntmps28
  go_wp2
  go_loop [3, 8] (fun t i => ∃ k : Nat, k ≤ n ∧ i = .int .i64 k ∧ t = .int .i64 (sumTo xs k)) (fun _ i => n - (intOf i).toNat)
  case atStart => exact ⟨0, Nat.zero_le _, rfl, rfl⟩
  case round =>
    obtain ⟨k, hk, rfl, rfl⟩ := hrel
    have hb2 := HB.out k
    have hss : sumTo xs (k + 1) = sumTo xs k + xs.getD k 0 := rfl
    obtain ⟨t, ht⟩ : ∃ t, sumTo xs k = t := ⟨_, rfl⟩
    rw [ht] at hb2 hss ⊢
    have HT := Lib.hid ht; clear ht
    obtain ⟨t0, t1⟩ := hb2
    by_cases hlt : k < n
    · obtain ⟨b, off, rfl, hb, hcell⟩ := h.at' _ hlt
      have hck := hcell k hlt
      clear hcell
      have hv := HX.out _ (getD_mem (xs := xs) (k := k) (by rw [HL.out]; exact hlt))
      obtain ⟨v, hv'⟩ : ∃ v, xs.getD k 0 = v := ⟨_, rfl⟩
      rw [hv'] at hck hv hss
      have HS2 := Lib.hid hss
      clear hv' hss
      obtain ⟨v0, v1⟩ := hv
      have hw : IntKind.i64.wrap (t + v) = t + v := wrap_in (by omega)
      go_wp2
      go_round
      case rel => exact ⟨k + 1, by omega, by go_num, by rw [HS2.out]⟩
      case measure => simp [intOf]; omega
    · obtain rfl : k = n := by omega
      go_wp2
      go_ret
      exact ⟨ri HT.out.symm, rfl⟩
/-- what is known of the clocks of a valid notebook -/
theorem book_sum {u : Int} {w : World} {a : Option Addr} {n c : Nat} {xs : List NoteI} (hb : bookB u (coreN xs) = true) (h : RdN w a n c xs) {i : Nat} (hi : i < n) : (xs.getD i NoteI.zero).n ≤ 25 ∧ (∀ x ∈ (xs.getD i NoteI.zero).cl, 0 ≤ x ∧ x ≤ 12) ∧ sumC ((coreN xs).getD i NoteC.zero) = sumTo (xs.getD i NoteI.zero).cl (xs.getD i NoteI.zero).n := by
  have h1 := noteB_true (book_note hb (k := i) (by rw [coreN_len, h.rd.len]; exact hi))
  have hu := book_u hb
  rw [coreN_getD] at h1 ⊢
  have h2 : ((xs.getD i NoteI.zero).cl.length : Int) = u := h1.1
  have hl := (h.get hi).len
  refine ⟨by omega, h1.2.1, ?_⟩
  unfold sumC
  show sumTo (xs.getD i NoteI.zero).cl (xs.getD i NoteI.zero).cl.length = _
  rw [hl]
set_option maxRecDepth 100000 in
set_option maxHeartbeats 4000000 in
theorem order1_any (u : Int) (a : Option Addr) (n c : Nat) (xs : List NoteI) (i k : Nat) (b : Nat) (w : World) (hbk : bookB u (coreN xs) = true) (h : RdN w a n c xs) (hi : i < n) (hk : k < n) (hr : Row w b #[.slice a n c]) :
    Calls Tryz.prog 26 #[.int .i64 i, .int .i64 k, .pointer (some ⟨b, 0, none⟩)] w fun e w' => e = .returned (.int .i64 (cmpI (sumC ((coreN xs).getD i NoteC.zero)) (sumC ((coreN xs).getD k NoteC.zero)))) ∧ Below w.heap.size w w' := by
  have hn := h.rd.cap
  have hc := h.rd.nroom
  have hM := Mem.start w
  obtain ⟨bb, off, rfl, _⟩ := h.rd.at' _ hi
  obtain ⟨x25, xw, xs1⟩ := book_sum hbk h hi
  obtain ⟨y25, yw, ys1⟩ := book_sum hbk h hk
  have hix := h.get hi
  have hiy := h.get hk
  have hcx := fun (w1 : World) (hb : Below w.heap.size w w1) => ((h.rd.ext hb).cellNote hi).2.2.2.1
  have hcy := fun (w1 : World) (hb : Below w.heap.size w w1) => ((h.rd.ext hb).cellNote hk).2.2.2.1
  rw [xs1, ys1]
  obtain ⟨x, hx⟩ : ∃ x, xs.getD i NoteI.zero = x := ⟨_, rfl⟩
  obtain ⟨y, hy⟩ : ∃ y, xs.getD k NoteI.zero = y := ⟨_, rfl⟩
  simp only [hx] at x25 xw hix hcx ⊢
  simp only [hy] at y25 yw hiy hcy ⊢
  clear hx hy xs1 ys1 hbk
  obtain ⟨xu, xq, xa, xn, xc, xl, xwd⟩ := x
  obtain ⟨yu, yq, ya, yn, yc, yl, ywd⟩ := y
  dsimp only at x25 xw hix hcx y25 yw hiy hcy ⊢
  have hcap := hr.cell 0
  have HS : Hid (∀ w1 : World, Mem w.heap.size w w1 [] → w1.cell? ⟨b, 0, none⟩ = some (.slice (some ⟨bb, off, none⟩) n c) ∧ w1.cell? ⟨bb, off + i * 4 + 2, none⟩ = some (.slice xa xn xc) ∧ w1.cell? ⟨bb, off + k * 4 + 2, none⟩ = some (.slice ya yn yc)) := by
    intro w1 h1
    refine ⟨?_, hcx _ h1.below, hcy _ h1.below⟩
    rw [h1.below.cell (p := ⟨b, 0, none⟩) hr.lt]; exact hcap
  have HIX := Lib.hid hix; have HIY := Lib.hid hiy; have HXW := Lib.hid xw; have HYW := Lib.hid yw
  clear hcap hcx hcy hix hiy xw yw
  obtain ⟨sx, hsx⟩ : ∃ s, sumTo xl xn = s := ⟨_, rfl⟩
  obtain ⟨sy, hsy⟩ : ∃ s, sumTo yl yn = s := ⟨_, rfl⟩
  rw [hsx, hsy]
  have HSX := Lib.hid hsx; have HSY := Lib.hid hsy
  clear hsx hsy
  have i0 : (0 : Int) ≤ (i : Int) := by omega
  have i1 : (i : Int) < (n : Int) := by omega
  have j0 : (0 : Int) ≤ (k : Int) := by omega
  have j1 : (k : Int) < (n : Int) := by omega
  go_enter Tryz.func26, Tryz.ntmps26
  go_wp2_with fail
  refine AtT.startA hM hM 13 (by kernel_rfl) ?_
  clear hM
  intro wd hM
  have hS := hM
  refine AtT.tk 0 ?_ 6 ?_ hS ?_
  rotate_left
  · (intro wS hSw; (try dsimp only at hSw); have q1 := (HS.out _ hSw).1; have q2 := (HS.out _ hSw).2.1; have q3 := (HS.out _ hSw).2.2; go_simp; (try rw [if_neg (by omega)]); try with_reducible rfl)
  simp only [Act.put, sA]
  refine AtT.tk 1 ?_ 7 ?_ hS ?_
  rotate_left
  · (intro wS hSw; (try dsimp only at hSw); go_simp; (try rw [if_neg (by omega)]); try with_reducible rfl)
  simp only [Act.put, sA]
  refine AtT.tk 2 ?_ 8 ?_ hS ?_
  rotate_left
  · (intro wS hSw; (try dsimp only at hSw); have q1 := (HS.out _ hSw).1; have q2 := (HS.out _ hSw).2.1; have q3 := (HS.out _ hSw).2.2; go_simp; (try rw [if_neg (by omega)]); try with_reducible rfl)
  simp only [Act.put, sA]
  refine AtT.tk 3 ?_ 9 ?_ hS ?_
  rotate_left
  · (intro wS hSw; (try dsimp only at hSw); go_simp; (try rw [if_neg (by omega)]); try with_reducible rfl)
  simp only [Act.put, sA]
  refine AtT.tk 4 ?_ 10 ?_ hS ?_
  rotate_left
  · (intro wS hSw; (try dsimp only at hSw); have q1 := (HS.out _ hSw).1; have q2 := (HS.out _ hSw).2.1; have q3 := (HS.out _ hSw).2.2; go_simp; (try rw [if_neg (by omega)]); try with_reducible rfl)
  simp only [Act.put, sA]
  refine AtT.tk 6 ?_ 12 ?_ hS ?_
  rotate_left
  · (intro wS hSw; (try dsimp only at hSw); have q1 := (HS.out _ hSw).1; have q2 := (HS.out _ hSw).2.1; have q3 := (HS.out _ hSw).2.2; go_simp; (try rw [if_neg (by omega)]); try with_reducible rfl)
  simp only [Act.put, sA]
  refine AtT.tk 7 ?_ 13 ?_ hS ?_
  rotate_left
  · (intro wS hSw; (try dsimp only at hSw); go_simp; (try rw [if_neg (by omega)]); try with_reducible rfl)
  simp only [Act.put, sA]
  refine AtT.tk 8 ?_ 14 ?_ hS ?_
  rotate_left
  · (intro wS hSw; (try dsimp only at hSw); have q1 := (HS.out _ hSw).1; have q2 := (HS.out _ hSw).2.1; have q3 := (HS.out _ hSw).2.2; go_simp; (try rw [if_neg (by omega)]); try with_reducible rfl)
  simp only [Act.put, sA]
  refine AtT.tk 9 ?_ 15 ?_ hS ?_
  rotate_left
  · (intro wS hSw; (try dsimp only at hSw); go_simp; (try rw [if_neg (by omega)]); try with_reducible rfl)
  simp only [Act.put, sA]
  refine AtT.tk 10 ?_ 16 ?_ hS ?_
  rotate_left
  · (intro wS hSw; (try dsimp only at hSw); have q1 := (HS.out _ hSw).1; have q2 := (HS.out _ hSw).2.1; have q3 := (HS.out _ hSw).2.2; go_simp; (try rw [if_neg (by omega)]); try with_reducible rfl)
  simp only [Act.put, sA]
  refine AtT.only (i := 5) (by kernel_rfl) rfl rfl ?_
  intro K hK
  go_simp
  refine (sumTo_any xa xn xc xl _ (HIX.out.ext hM.below) x25 HXW.out).mono ?_
  rw [HSX.out]
  rintro e w2 ⟨rfl, rfl⟩
  try dsimp only
  refine hK.out _ _ (hM) ?_
  clear hK K hS
  have hS := hM
  refine AtT.only (i := 11) (by kernel_rfl) rfl rfl ?_
  intro K hK
  go_simp
  refine (sumTo_any ya yn yc yl _ (HIY.out.ext hM.below) y25 HYW.out).mono ?_
  rw [HSY.out]
  rintro e w2 ⟨rfl, rfl⟩
  try dsimp only
  refine hK.out _ _ (hM) ?_
  clear hK K hS
  have hS := hM
  refine AtT.only (i := 12) (by kernel_rfl) rfl rfl ?_
  intro K hK
  go_simp
  refine (compare_any _ _ _).mono ?_
  rintro e w2 ⟨rfl, rfl⟩
  try dsimp only
  refine hK.out _ _ (hM) ?_
  clear hK K hS
  have hS := hM
  refine AtT.last (by kernel_rfl) rfl (by kernel_rfl) ?_
  intro K hK
  clear hS
  go_simp
  refine hK.out _ _ ?_
  clear hK K
  go_wp2
  go_ret
  exact ⟨rfl, (by apply Mem.below; (exact memA))⟩
set_option maxRecDepth 100000 in
set_option maxHeartbeats 4000000 in
theorem implOrder_any (u : Int) (a : Option Addr) (n c : Nat) (xs : List NoteI) (w : World) (hu : I64 u) (h : RdN w a n c xs) (hf : bookB u (coreN xs) = true → (rawM (coreN xs)).length ≤ 12) :
    Calls Tryz.prog 6 #[.int .i64 u, .slice a n c] w fun e w' => ∃ a' c', e = .returned (.tuple #[.slice a' (ordR u (coreN xs)).length c', .bool (bookB u (coreN xs) && compB (coreN xs))]) ∧ Mem w.heap.size w w' [intE a' (ordR u (coreN xs)).length c' (ordR u (coreN xs))] := by
  have hM := Mem.start w
  have HU := Lib.hid hu
  have HH := Lib.hid h
  have hmf : ∀ (fn : Fn) (first cap : Array Value) (w : World), (Instr.makeFunc fn first cap).run Tryz.prog w = .ok (.func fn first cap) w := fun _ _ _ _ => rfl
  have hn := h.rd.cap
  have hc := h.rd.nroom
  clear hu
  cases hb : bookB u (coreN xs)
  · have hr : ordR u (coreN xs) = [] := by rw [ordR, hb]; rfl
    rw [hr]
    have HB := Lib.hid hb; clear hb hf hr
    go_enter Tryz.func6, Tryz.ntmps6
    go_upto_region 1 with fail
    apply Mem.atWpA
    · exact memA
    clear hM
    intro wst hM
    (try simp only [World.size_alloc, World.size_setCell, World.heap_drewN, heapDrew, Nat.add_assoc, Nat.reduceAdd, sA, List.cons_append, List.nil_append] at hM)
    obtain ⟨k0, f0, l0⟩ := hM.row .here
    go_wp2_with fail
    clear k0 f0 l0
    apply Mem.atA
    · exact memA
    clear hM
    intro wst hM
    (try simp only [World.size_alloc, World.size_setCell, World.heap_drewN, heapDrew, Nat.add_assoc, Nat.reduceAdd, sA, List.cons_append, List.nil_append] at hM)
    (first | refine (isNotebook_any u a n c xs _ HU.out (HH.out.ext hM.below)).mono ?_)
    rw [HB.out]
    rintro e wc1 ⟨rfl, hb⟩
    replace hM := hM.ext hb
    clear hb
    go_wp2
    go_ret2
    exact ⟨none, 0, rfl, hM.nilInts⟩
  have HC := Lib.hid (fun (w' : World) (hb' : Below w.heap.size w w') => complete_any u a n c xs w' hb (HH.out.ext hb') (hf hb))
  have HO1 := Lib.hid (fun (i k b : Nat) (w' : World) (hb' : Below w.heap.size w w') (hi : i < n) (hk : k < n) (hr : Row w' b #[.slice a n c]) => order1_any u a n c xs i k b w' hb (HH.out.ext hb') hi hk hr)
  have hn12 : n ≤ 12 := by have := book_len hb; rw [coreN_len, h.rd.len] at this; exact this
  have hNL : (coreN xs).length = n := by rw [coreN_len, h.rd.len]
  have hr : ordR u (coreN xs) = if compB (coreN xs) then ordL (coreN xs) else [] := by rw [ordR, hb, Bool.true_and]
  rw [hr]
  have HB := Lib.hid hb
  clear hb hf h hr
  cases hq : compB (coreN xs)
  · rw [hq] at HC
    have HQ := Lib.hid hq; clear hq HO1
    simp only [Bool.false_eq_true, if_false]
    go_enter Tryz.func6, Tryz.ntmps6
    go_upto_region 1 with fail
    apply Mem.atWpA
    · exact memA
    clear hM
    intro wst hM
    (try simp only [World.size_alloc, World.size_setCell, World.heap_drewN, heapDrew, Nat.add_assoc, Nat.reduceAdd, sA, List.cons_append, List.nil_append] at hM)
    obtain ⟨k0, f0, l0⟩ := hM.row .here
    go_wp2_with fail
    clear k0 f0 l0
    apply Mem.atA
    · exact memA
    clear hM
    intro wst hM
    (try simp only [World.size_alloc, World.size_setCell, World.heap_drewN, heapDrew, Nat.add_assoc, Nat.reduceAdd, sA, List.cons_append, List.nil_append] at hM)
    (first | refine (isNotebook_any u a n c xs _ HU.out (HH.out.ext hM.below)).mono ?_)
    rw [HB.out]
    rintro e wc2 ⟨rfl, hb⟩
    replace hM := hM.ext hb
    clear hb
    obtain ⟨k0, f0, l0⟩ := hM.row .here
    go_wp2_with fail
    clear k0 f0 l0
    apply Mem.atA
    · exact memA
    clear hM
    intro wst hM
    (try simp only [World.size_alloc, World.size_setCell, World.heap_drewN, heapDrew, Nat.add_assoc, Nat.reduceAdd, sA, List.cons_append, List.nil_append] at hM)
    (first | refine (HC.out _ hM.below).mono ?_)
    rintro e wc3 ⟨rfl, hb⟩
    replace hM := hM.ext hb
    clear hb
    go_wp2
    go_ret2
    exact ⟨none, 0, rfl, hM.nilInts⟩
  rw [hq] at HC
  simp only [if_true]
  have hle : (ordL (coreN xs)).length = n := by rw [ordL_len, hNL]
  rw [hle]
  have HOE := Lib.hid (show ordL (coreN xs) = outS (ltSum (coreN xs)) n by rw [ordL_outS, hNL])
  clear hq hle hNL
  obtain ⟨i0, hi, hz0, hz1, hz2⟩ := info_parts Tryz.info3
  go_enter Tryz.func6, Tryz.ntmps6
  go_upto_region 1 with fail
  apply Mem.atWpA
  · exact memA
  clear hM
  intro wst hM
  (try simp only [World.size_alloc, World.size_setCell, World.heap_drewN, heapDrew, Nat.add_assoc, Nat.reduceAdd, sA, List.cons_append, List.nil_append] at hM)
  obtain ⟨k0, f0, l0⟩ := hM.row .here
  go_wp2_with fail
  clear k0 f0 l0
  apply Mem.atA
  · exact memA
  clear hM
  intro wst hM
  (try simp only [World.size_alloc, World.size_setCell, World.heap_drewN, heapDrew, Nat.add_assoc, Nat.reduceAdd, sA, List.cons_append, List.nil_append] at hM)
  (first | refine (isNotebook_any u a n c xs _ HU.out (HH.out.ext hM.below)).mono ?_)
  rw [HB.out]
  rintro e wc4 ⟨rfl, hb⟩
  replace hM := hM.ext hb
  clear hb
  obtain ⟨k0, f0, l0⟩ := hM.row .here
  go_wp2_with fail
  clear k0 f0 l0
  apply Mem.atA
  · exact memA
  clear hM
  intro wst hM
  (try simp only [World.size_alloc, World.size_setCell, World.heap_drewN, heapDrew, Nat.add_assoc, Nat.reduceAdd, sA, List.cons_append, List.nil_append] at hM)
  (first | refine (HC.out _ hM.below).mono ?_)
  rintro e wc5 ⟨rfl, hb⟩
  replace hM := hM.ext hb
  clear hb
  obtain ⟨k0, f0, l0⟩ := hM.row .here
  go_upto_region 4 with fail
  clear k0 f0 l0
  apply Mem.atWpA
  · exact memA
  clear hM
  intro wst hM
  (try simp only [World.size_alloc, World.size_setCell, World.heap_drewN, heapDrew, Nat.add_assoc, Nat.reduceAdd, sA, List.cons_append, List.nil_append] at hM)
  replace hM := Mem.toInts0' hM
  obtain ⟨k1, f1, l1⟩ := hM.row (.there .here)
  go_wp2_with fail
  clear k1 f1 l1
  go_loopw [6, 20] (fun s i wr => ∃ (k g c' : Nat), k ≤ n ∧ i = .int .i64 k ∧ s = .slice (some ⟨g, 0, none⟩) k c' ∧ Mem w.heap.size w wr [intE (some ⟨g, 0, none⟩) k c' (idxL k), rowE w.heap.size 24 #[.slice a n c]]) (fun _ i _ => n - (intOf i).toNat)
  case atStart => exact ⟨0, _, _, Nat.zero_le _, rfl, rfl, hM⟩
  case round =>
    clear hM
    obtain ⟨k, g, c', hk, rfl, rfl, hM⟩ := hrel
    by_cases hlt : k < n
    · go_wp2_with (at_builtin; apply Mem.atL; (focus ((repeat' (first | with_reducible exact hM | with_reducible exact hMp | with_reducible apply Mem.drew | with_reducible apply Mem.drewN | with_reducible apply Mem.alloc | with_reducible apply Mem.set | with_reducible exact Sto.row | ((with_reducible refine Sto.rowEq2 ?_ ?_); omega; rfl) | ((with_reducible refine Sto.rowEq ?_); omega) | with_reducible apply Sto.int | with_reducible apply Sto.there | with_reducible assumption | (unfold I64; omega) | (with_reducible (have hMx := Mem.undrew hM; exact hMx)) | (with_reducible (have hMx := Mem.undrew hMp; exact hMx)))); done)); clear hM; intro hM; refine wpList_appendI rfl (.tmp 23) (.tmp 25) 27 rfl 3 i0 Tryz.underlying27 hi hz0 hz1 hz2 w.heap.size (some ⟨g, 0, none⟩) k c' (idxL k) rfl (hM.ints (.there .here)).row (some ⟨wr.heap.size, 0, none⟩) 1 1 [(k : Int)] rfl (hM.oneInt .here (by unfold I64; omega)) ?c2 hM.size ?_)
      case c2 => omega
      intro a2 c2 w2 hrow hg hbl
      have hO := own_of hrow (by simp [idxL_length]) (by omega) (by rw [← idxL_succ]; exact idxL_wf (by omega))
      rw [← idxL_succ] at hO
      replace hM := hM.appended (.there .here) hO hg (fun k hk => by simpa using hbl k hk)
      obtain ⟨g2, rfl, _⟩ := hO.head (by omega)
      clear hO hrow hg hbl
      go_wp2
      go_roundw
      case rel => exact ⟨k + 1, g2, c2, by omega, by go_num, rfl, hM.tail⟩
      case measure => simp [intOf]; omega
    · obtain rfl : k = n := by omega
      obtain ⟨k1, f1, l1⟩ := hM.row (.there .here)
      go_wp2_with fail
      clear k1 f1 l1
      apply Mem.at
      · exact memA
      clear hM
      intro hM
      (try simp only [World.size_alloc, World.size_setCell, World.heap_drewN, heapDrew, Nat.add_assoc, Nat.reduceAdd, sA, List.cons_append, List.nil_append] at hM)
      refine (sortStable_any w.heap.size w _ g k c' (idxL k) _ _ (ltSum (coreN xs)) _ hM (by omega) (enters Tryz.func26 (by kernel_rfl) rfl) ?_).mono ?_
      · intro x hx y hy w' hM'
        obtain ⟨i, hi', rfl⟩ := List.mem_map.1 hx
        obtain ⟨j, hj', rfl⟩ := List.mem_map.1 hy
        refine (HO1.out i j w.heap.size w' hM'.below (List.mem_range.1 hi') (List.mem_range.1 hj') (hM'.row .here)).mono ?_
        rintro e w'' ⟨rfl, hb⟩
        exact ⟨⟨_, rfl, by rw [cmpI_neg]; rfl⟩, hb⟩
      rintro e w3 ⟨rfl, hM3⟩
      clear hM
      rw [isortL_idx] at hM3
      go_wp2
      go_ret2
      exact ⟨_, _, rfl, by rw [HOE.out]; exact hM3.first⟩
end Go.Proofs.YtjnbdgldpmmamaaGreat
