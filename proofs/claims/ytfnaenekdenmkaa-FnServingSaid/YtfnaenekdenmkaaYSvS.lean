/-
  Orders: what each gets, the reference's.
-/
import Derived.Test.YtfnaenekdenmkaaYSvI
import Derived.Deep.LoopGhost
/-
  Orders: what each gets, the reference's.
-/
namespace Go.Proofs.Ytfnaenekdenmkaa
set_option linter.unusedSimpArgs false
set_option linter.unusedVariables false
open Go.RowKit

theorem Mem.toOwAtS {α : Type} {F : Fl α} {E : TypeId} {B : Nat} {w0 w : World} {G G' : List Ent} {b : Nat} (h : Mem B w0 w G) (p : Put G (rowE b E #[]) (owE F E (some ⟨b, 0, none⟩) 0 0 []) G') : Mem B w0 w G' := by
  obtain ⟨h2, h3⟩ := h.ents _ p.mem
  refine h.put p (Keeps.refl _ _) ?_ (fun k hk => ?_)
  · refine ⟨rfl, by omega, by simp, by simp [Fl.cells], .inr ⟨b, 0, #[], rfl, h2, h3, Nat.le_refl _, Nat.zero_le _, by simp, by simp [Fl.cells]⟩⟩
  · obtain ⟨ad, e1, e2⟩ := hk
    simp only [Option.some.injEq] at e1
    subst e1
    exact .inl e2
theorem l1LeastO_any (x y : Int) (w : World) : Calls Try.prog 113 #[.int .i64 x, .int .i64 y] w fun e w' => e = .returned (.int .i64 (minO x y)) ∧ w = w' := by
  by_cases h : x < y
  · have hm : minO x y = x := if_pos h
    go_enter Try.func113, Try.ntmps113
    go_wp2
    go_ret
    exact ⟨ri (by first | rfl | exact hm.symm), rfl⟩
  · have hm : minO x y = y := if_neg h
    go_enter Try.func113, Try.ntmps113
    go_wp2
    go_ret
    exact ⟨ri (by first | rfl | exact hm.symm), rfl⟩
/-- an order is served as far as the first k kinds of the store -/
def partS (os : List OrderI) (x : List Int × List StockI) (q : Int) (k : Nat) : List Int × List StockI :=
  if hasK x.2 (os.getD q.toNat OrderI.zero).kd && decide (plK x.2 (os.getD q.toNat OrderI.zero).kd < k) then stepS os x q else x
theorem partS_zero (os : List OrderI) (x : List Int × List StockI) (q : Int) : partS os x q 0 = x := by
  unfold partS
  rw [if_neg (by simp)]
theorem partS_all (os : List OrderI) (x : List Int × List StockI) (q : Int) : partS os x q x.2.length = stepS os x q := by
  unfold partS
  cases hh : hasK x.2 (os.getD q.toNat OrderI.zero).kd
  · rw [if_neg (by simp), stepS, hh]
    rfl
  · rw [if_pos (by simpa using (hasK_pl hh).1)]
theorem partS_len (os : List OrderI) (x : List Int × List StockI) (q : Int) (k : Nat) : (partS os x q k).1.length = x.1.length ∧ (partS os x q k).2.length = x.2.length ∧ kindL (partS os x q k).2 = kindL x.2 := by
  unfold partS
  split
  · exact ⟨stepS_fst_length _ _ _, stepS_snd_length _ _ _, stepS_kinds _ _ _⟩
  · exact ⟨rfl, rfl, rfl⟩
theorem partS_no {os : List OrderI} {x : List Int × List StockI} {q : Int} (hd : ∀ i j, i < x.2.length → j < x.2.length → (x.2.getD i StockI.zero).kd = (x.2.getD j StockI.zero).kd → i = j) {k : Nat} (hk : k < x.2.length) (h : ((partS os x q k).2.getD k StockI.zero).kd ≠ (os.getD q.toNat OrderI.zero).kd) : partS os x q (k + 1) = partS os x q k := by
  rw [← kindL_getD, (partS_len os x q k).2.2, kindL_getD] at h
  have h1 := isK_pl hd hk (kd := (os.getD q.toNat OrderI.zero).kd)
  rw [show isK (os.getD q.toNat OrderI.zero).kd (x.2.getD k StockI.zero) = false by simpa [isK] using h] at h1
  unfold partS
  cases hh : hasK x.2 (os.getD q.toNat OrderI.zero).kd
  · rfl
  · rw [hh, Bool.true_and] at h1
    have h2 : k ≠ plK x.2 (os.getD q.toNat OrderI.zero).kd := of_decide_eq_false h1.symm
    have h3 : decide (plK x.2 (os.getD q.toNat OrderI.zero).kd < k + 1) = decide (plK x.2 (os.getD q.toNat OrderI.zero).kd < k) := decide_eq_decide.2 (by omega)
    rw [h3]
theorem partS_yes {os : List OrderI} {x : List Int × List StockI} {q : Int} (hd : ∀ i j, i < x.2.length → j < x.2.length → (x.2.getD i StockI.zero).kd = (x.2.getD j StockI.zero).kd → i = j) {k : Nat} (hk : k < x.2.length) (h : ((partS os x q k).2.getD k StockI.zero).kd = (os.getD q.toNat OrderI.zero).kd) :
    partS os x q k = x ∧ partS os x q (k + 1) = (x.1.set q.toNat (minO (os.getD q.toNat OrderI.zero).ct (x.2.getD k StockI.zero).ct), x.2.set k ⟨(os.getD q.toNat OrderI.zero).kd, (x.2.getD k StockI.zero).ct - minO (os.getD q.toNat OrderI.zero).ct (x.2.getD k StockI.zero).ct⟩) := by
  rw [← kindL_getD, (partS_len os x q k).2.2, kindL_getD] at h
  have h1 := isK_pl hd hk (kd := (os.getD q.toNat OrderI.zero).kd)
  rw [show isK (os.getD q.toNat OrderI.zero).kd (x.2.getD k StockI.zero) = true by simpa [isK] using h] at h1
  have h2 := h1.symm
  rw [Bool.and_eq_true] at h2
  obtain ⟨h3, h4⟩ := h2
  have h5 := of_decide_eq_true h4
  unfold partS
  rw [h3, ← h5]
  refine ⟨if_neg (by simp), ?_⟩
  rw [if_pos (by simp), stepS, if_pos h3, ← h5]

set_option maxRecDepth 100000 in
set_option maxHeartbeats 8000000 in
theorem l15Serve_any (a1 : Option Addr) (n1 c1 : Nat) (os : List OrderI) (a2 : Option Addr) (n2 c2 : Nat) (ss : List StockI) (w : World) (h1 : Rd FOrder w a1 n1 c1 os) (h2 : Rd FStock w a2 n2 c2 ss) (ho : ordersB os = true) (hs : storeB ss = true) :
    Calls Try.prog 61 #[.slice a1 n1 c1, .slice a2 n2 c2] w fun e w' => ∃ a' c' a'' c'', e = .returned (.tuple #[.slice a' n1 c', .slice a'' n2 c'']) ∧ Mem w.heap.size w w' [intE a' n1 c' (gotL os ss), owE FStock 46 a'' n2 c'' (leftL os ss)] := by
  have hM := Mem.start w
  have BL := bsA_list
  have HL := Lib.hid h1.len
  have HL2 := Lib.hid h2.len
  have hn10 : n1 ≤ 10 := by have := ord_len ho; rw [h1.len] at this; exact this
  have hm10 : n2 ≤ 10 := by have := store_len hs; rw [h2.len] at this; exact this
  have HO := Lib.hid ho; have HS := Lib.hid hs
  clear ho hs
  obtain ⟨i0, hi, hz0, hz1, hz2⟩ := info_parts Try.info3
  obtain ⟨j0, hj, hy0, hy1, hy2⟩ := info_parts Try.info46
  go_enter Try.func61, Try.ntmps61
  go_upto_region 1 with fail
  apply Mem.atWpA
  · (repeat' (first | with_reducible exact hM | with_reducible exact hMp | with_reducible apply Mem.drew | with_reducible apply Mem.drewN | with_reducible apply Mem.alloc | with_reducible apply Mem.set | with_reducible exact Sto.row | ((with_reducible refine Sto.rowEq2 ?_ ?_); omega; rfl) | ((with_reducible refine Sto.rowEq ?_); omega) | with_reducible apply Sto.int | with_reducible apply Sto.there | with_reducible assumption | (unfold I64; omega) | (with_reducible (have hMx := Mem.undrew hM; exact hMx)) | (with_reducible (have hMx := Mem.undrew hMp; exact hMx))))
  clear hM
  intro wst hM
  (try simp only [World.size_alloc, World.size_setCell, World.heap_drewN, heapDrew, Nat.add_assoc, Nat.reduceAdd, List.setIfInBounds_toArray, List.set_cons_zero, List.set_cons_succ, List.cons_append, List.nil_append] at hM)
  go_cut [6, 7] (fun s6 s7 wx => ∃ (b6 : Nat) (a7 : Option Addr) (c7 : Nat), s6 = .slice (some ⟨b6, 0, none⟩) n1 n1 ∧ s7 = .slice a7 n2 c7 ∧ Mem w.heap.size w wx [intE (some ⟨b6, 0, none⟩) n1 n1 (List.replicate n1 0), owE FStock 46 a7 n2 c7 ss])
  case first =>
    refine AtT.startA hM hM 7 (by kernel_rfl) ?_
    clear hM
    intro wd hM
    have hS := hM
    refine AtT.taked (i := 0) (v := ?_) (some 13) rfl rfl (by kernel_rfl) (by kernel_rfl) (by kernel_rfl) (by kernel_rfl) (fun _ _ _ h => h) (Or.inl ⟨by kernel_rfl, ?_⟩) hS ?_
    rotate_left
    · (intro wS hSw; (try dsimp only at hSw); go_simp; (try rw [if_neg (by omega)]); try with_reducible rfl)
    simp only [Act.put, List.setIfInBounds_toArray, List.set_cons_zero, List.set_cons_succ]
    refine AtT.taked (i := 1) (v := ?_) (some 14) rfl rfl (by kernel_rfl) (by kernel_rfl) (by kernel_rfl) (by kernel_rfl) (fun _ _ _ h => h) (Or.inl ⟨by kernel_rfl, ?_⟩) hS ?_
    rotate_left
    · (intro wS hSw; (try dsimp only at hSw); go_simp; (try rw [if_neg (by omega)]); try with_reducible rfl)
    simp only [Act.put, List.setIfInBounds_toArray, List.set_cons_zero, List.set_cons_succ]
    refine AtT.taked (i := 4) (v := ?_) (some 17) rfl rfl (by kernel_rfl) (by kernel_rfl) (by kernel_rfl) (by kernel_rfl) (fun _ _ _ h => h) (Or.inl ⟨by kernel_rfl, ?_⟩) hS ?_
    rotate_left
    · (intro wS hSw; (try dsimp only at hSw); go_simp; (try rw [if_neg (by omega)]); try with_reducible rfl)
    simp only [Act.put, List.setIfInBounds_toArray, List.set_cons_zero, List.set_cons_succ]
    refine AtT.two (i := 2) (j := 3) (by kernel_rfl) rfl rfl rfl rfl ?_ ?_
    · skip
      intro K hK
      refine step_makeI hM rfl (.tmp 14) (.tmp 14) 41 rfl i0 Try.underlying41 hi hz0 hz1 hz2 n1 rfl rfl (by omega) ?_
      clear hM
      intro b6 w6 hM
      try dsimp only
      refine hK.out _ _ (hM.tail) ?_
      clear hK K hS
      have hS := hM.tail
      refine AtT.only (i := 3) (by kernel_rfl) rfl rfl ?_
      intro K hK
      go_simp
      refine hK.out _ _ (by apply Mem.tail; apply Mem.tail; (repeat' (first | with_reducible exact hM | with_reducible exact hMp | with_reducible apply Mem.drew | with_reducible apply Mem.drewN | with_reducible apply Mem.alloc | with_reducible apply Mem.set | with_reducible exact Sto.row | ((with_reducible refine Sto.rowEq2 ?_ ?_); omega; rfl) | ((with_reducible refine Sto.rowEq ?_); omega) | with_reducible apply Sto.int | with_reducible apply Sto.there | with_reducible assumption | (unfold I64; omega) | (with_reducible (have hMx := Mem.undrew hM; exact hMx)) | (with_reducible (have hMx := Mem.undrew hMp; exact hMx))))) ?_
      clear hK K hS
      have hMp := hM
      apply Mem.atT
      · (repeat' (first | with_reducible exact hM | with_reducible exact hMp | with_reducible apply Mem.drew | with_reducible apply Mem.drewN | with_reducible apply Mem.alloc | with_reducible apply Mem.set | with_reducible exact Sto.row | ((with_reducible refine Sto.rowEq2 ?_ ?_); omega; rfl) | ((with_reducible refine Sto.rowEq ?_); omega) | with_reducible apply Sto.int | with_reducible apply Sto.there | with_reducible assumption | (unfold I64; omega) | (with_reducible (have hMx := Mem.undrew hM; exact hMx)) | (with_reducible (have hMx := Mem.undrew hMp; exact hMx))))
      clear hM
      intro hM
      (try simp only [World.size_alloc, World.size_setCell, World.heap_drewN, heapDrew, Nat.add_assoc, Nat.reduceAdd, List.setIfInBounds_toArray, List.set_cons_zero, List.set_cons_succ, List.cons_append, List.nil_append] at hM)
      have hS := hM.tail.tail
      refine AtT.only (i := 5) (by kernel_rfl) rfl rfl ?_
      intro K hK
      refine step_appRM (F := FStock) (Mem.toOwAtS hM .here) (fun _ => .here) (h2.ext hM.below) (by show (0 + n2) * 2 ≤ _; omega) j0 (.agg #[.string ⟨#[]⟩, .int .i64 0]) 24 hj hy0 hy1 hy2 rfl (by omega) rfl _ _ _ Try.underlying30 rfl rfl rfl ?_
      clear hM
      intro a7 c7 w7 hM
      try dsimp only
      refine hK.out _ _ (hM.tail.tail) ?_
      clear hK K hS
      have hS := hM.tail.tail
      refine AtT.taked (i := 6) (v := ?_) (some 6) rfl rfl (by kernel_rfl) (by kernel_rfl) (by kernel_rfl) (by kernel_rfl) (fun _ _ _ h => h) (Or.inl ⟨by kernel_rfl, ?_⟩) hS ?_
      rotate_left
      · (intro wS hSw; (try dsimp only at hSw); go_simp; (try rw [if_neg (by omega)]); try with_reducible rfl)
      simp only [Act.put, List.setIfInBounds_toArray, List.set_cons_zero, List.set_cons_succ]
      refine AtT.last (by kernel_rfl) rfl (by kernel_rfl) ?_
      intro K hK
      clear hS
      go_simp
      refine hK.out _ _ ?_
      clear hK K
      go_wp2
      go_meet
      exact ⟨b6, a7, c7, rfl, by first | rfl | rw [Nat.zero_add], by have hM2 := Mem.pick (is := [1, 0]) hM (by decide) rfl; rw [Nat.zero_add, List.nil_append] at hM2; exact hM2⟩
    · skip
      intro K hK
      go_simp
      refine hK.out _ _ (by apply Mem.tail; (repeat' (first | with_reducible exact hM | with_reducible exact hMp | with_reducible apply Mem.drew | with_reducible apply Mem.drewN | with_reducible apply Mem.alloc | with_reducible apply Mem.set | with_reducible exact Sto.row | ((with_reducible refine Sto.rowEq2 ?_ ?_); omega; rfl) | ((with_reducible refine Sto.rowEq ?_); omega) | with_reducible apply Sto.int | with_reducible apply Sto.there | with_reducible assumption | (unfold I64; omega) | (with_reducible (have hMx := Mem.undrew hM; exact hMx)) | (with_reducible (have hMx := Mem.undrew hMp; exact hMx))))) ?_
      clear hK K hS
      have hMp := hM
      apply Mem.atT
      · (repeat' (first | with_reducible exact hM | with_reducible exact hMp | with_reducible apply Mem.drew | with_reducible apply Mem.drewN | with_reducible apply Mem.alloc | with_reducible apply Mem.set | with_reducible exact Sto.row | ((with_reducible refine Sto.rowEq2 ?_ ?_); omega; rfl) | ((with_reducible refine Sto.rowEq ?_); omega) | with_reducible apply Sto.int | with_reducible apply Sto.there | with_reducible assumption | (unfold I64; omega) | (with_reducible (have hMx := Mem.undrew hM; exact hMx)) | (with_reducible (have hMx := Mem.undrew hMp; exact hMx))))
      clear hM
      intro hM
      (try simp only [World.size_alloc, World.size_setCell, World.heap_drewN, heapDrew, Nat.add_assoc, Nat.reduceAdd, List.setIfInBounds_toArray, List.set_cons_zero, List.set_cons_succ, List.cons_append, List.nil_append] at hM)
      have hS := hM.tail
      refine AtT.two (i := 2) (j := 5) (by kernel_rfl) rfl rfl rfl rfl ?_ ?_
      · skip
        intro K hK
        refine step_makeI hM rfl (.tmp 14) (.tmp 14) 41 rfl i0 Try.underlying41 hi hz0 hz1 hz2 n1 rfl rfl (by omega) ?_
        clear hM
        intro b6 w6 hM
        try dsimp only
        refine hK.out _ _ (hM.tail.tail) ?_
        clear hK K hS
        have hS := hM.tail.tail
        refine AtT.only (i := 5) (by kernel_rfl) rfl rfl ?_
        intro K hK
        refine step_appRM (F := FStock) (Mem.toOwAtS hM (.there .here)) (fun _ => (.there .here)) (h2.ext hM.below) (by show (0 + n2) * 2 ≤ _; omega) j0 (.agg #[.string ⟨#[]⟩, .int .i64 0]) 24 hj hy0 hy1 hy2 rfl (by omega) rfl _ _ _ Try.underlying30 rfl rfl rfl ?_
        clear hM
        intro a7 c7 w7 hM
        try dsimp only
        refine hK.out _ _ (hM.tail.tail) ?_
        clear hK K hS
        have hS := hM.tail.tail
        refine AtT.taked (i := 6) (v := ?_) (some 6) rfl rfl (by kernel_rfl) (by kernel_rfl) (by kernel_rfl) (by kernel_rfl) (fun _ _ _ h => h) (Or.inl ⟨by kernel_rfl, ?_⟩) hS ?_
        rotate_left
        · (intro wS hSw; (try dsimp only at hSw); go_simp; (try rw [if_neg (by omega)]); try with_reducible rfl)
        simp only [Act.put, List.setIfInBounds_toArray, List.set_cons_zero, List.set_cons_succ]
        refine AtT.last (by kernel_rfl) rfl (by kernel_rfl) ?_
        intro K hK
        clear hS
        go_simp
        refine hK.out _ _ ?_
        clear hK K
        go_wp2
        go_meet
        exact ⟨b6, a7, c7, rfl, by first | rfl | rw [Nat.zero_add], by have hM2 := Mem.pick (is := [0, 1]) hM (by decide) rfl; rw [Nat.zero_add, List.nil_append] at hM2; exact hM2⟩
      · skip
        intro K hK
        refine step_appRM (F := FStock) (Mem.toOwAtS hM .here) (fun _ => .here) (h2.ext hM.below) (by show (0 + n2) * 2 ≤ _; omega) j0 (.agg #[.string ⟨#[]⟩, .int .i64 0]) 24 hj hy0 hy1 hy2 rfl (by omega) rfl _ _ _ Try.underlying30 rfl rfl rfl ?_
        clear hM
        intro a7 c7 w7 hM
        try dsimp only
        refine hK.out _ _ (hM.tail) ?_
        clear hK K hS
        have hS := hM.tail
        refine AtT.only (i := 2) (by kernel_rfl) rfl rfl ?_
        intro K hK
        refine step_makeI hM rfl (.tmp 14) (.tmp 14) 41 rfl i0 Try.underlying41 hi hz0 hz1 hz2 n1 rfl rfl (by omega) ?_
        clear hM
        intro b6 w6 hM
        try dsimp only
        refine hK.out _ _ (hM.tail.tail) ?_
        clear hK K hS
        have hS := hM.tail.tail
        refine AtT.taked (i := 6) (v := ?_) (some 6) rfl rfl (by kernel_rfl) (by kernel_rfl) (by kernel_rfl) (by kernel_rfl) (fun _ _ _ h => h) (Or.inl ⟨by kernel_rfl, ?_⟩) hS ?_
        rotate_left
        · (intro wS hSw; (try dsimp only at hSw); go_simp; (try rw [if_neg (by omega)]); try with_reducible rfl)
        simp only [Act.put, List.setIfInBounds_toArray, List.set_cons_zero, List.set_cons_succ]
        refine AtT.last (by kernel_rfl) rfl (by kernel_rfl) ?_
        intro K hK
        clear hS
        go_simp
        refine hK.out _ _ ?_
        clear hK K
        go_wp2
        go_meet
        exact ⟨b6, a7, c7, rfl, by first | rfl | rw [Nat.zero_add], by have hM2 := Mem.pick (is := [0, 1]) hM (by decide) rfl; rw [Nat.zero_add, List.nil_append] at hM2; exact hM2⟩
  case rest =>
    clear hM
    obtain ⟨b6, a7, c7, rfl, rfl, hM⟩ := hcut
    rw [servK_zero (ss := ss) HL.out] at hM
    go_wp2_with fail
    apply Mem.atA
    · (repeat' (first | with_reducible exact hM | with_reducible exact hMp | with_reducible apply Mem.drew | with_reducible apply Mem.drewN | with_reducible apply Mem.alloc | with_reducible apply Mem.set | with_reducible exact Sto.row | ((with_reducible refine Sto.rowEq2 ?_ ?_); omega; rfl) | ((with_reducible refine Sto.rowEq ?_); omega) | with_reducible apply Sto.int | with_reducible apply Sto.there | with_reducible assumption | (unfold I64; omega) | (with_reducible (have hMx := Mem.undrew hM; exact hMx)) | (with_reducible (have hMx := Mem.undrew hMp; exact hMx))))
    clear hM
    intro wst hM
    (try simp only [World.size_alloc, World.size_setCell, World.heap_drewN, heapDrew, Nat.add_assoc, Nat.reduceAdd, List.setIfInBounds_toArray, List.set_cons_zero, List.set_cons_succ, List.cons_append, List.nil_append] at hM)
    (first | refine (l15Queue_any a1 n1 c1 os _ (h1.ext hM.below) HO.out).mono ?_)
    rintro e wc1 ⟨a8, c8, rfl, hm⟩
    replace hM := hM.join hm
    clear hm
    (try simp only [World.size_alloc, World.size_setCell, World.heap_drewN, heapDrew, Nat.add_assoc, Nat.reduceAdd, List.setIfInBounds_toArray, List.set_cons_zero, List.set_cons_succ, List.cons_append, List.nil_append] at hM)
    go_wp2_with fail
    go_loopw [9] (fun s9 wr => ∃ t : Nat, t ≤ n1 ∧ s9 = .int .i64 t ∧ Mem w.heap.size w wr [intE a8 n1 c8 (servL os), intE (some ⟨b6, 0, none⟩) n1 n1 (servK os ss t).1, owE FStock 46 a7 n2 c7 (servK os ss t).2]) (fun s9 _ => n1 - (intOf s9).toNat)
    case atStart => exact ⟨0, Nat.zero_le _, rfl, hM⟩
    case round =>
      clear hM
      obtain ⟨t, ht, rfl, hM⟩ := hrel
      by_cases hlt : t < n1
      · obtain ⟨q, hq, hqn⟩ := servL_mem (os := os) (t := t) (by rw [HL.out]; exact hlt)
        rw [HL.out] at hqn
        have HINJ := Lib.hid (servK_inj (os := os) HS.out t)
        have HSM := Lib.hid (servK_small HO.out HS.out t)
        have hstep : servK os ss (t + 1) = stepS os (servK os ss t) q := by rw [servK, hq]
        have hl1 := servK_len1 os ss t
        have hl2 := servK_len2 os ss t
        rw [HL.out] at hl1
        rw [HL2.out] at hl2
        obtain ⟨x, hx⟩ : ∃ x, servK os ss t = x := ⟨_, rfl⟩
        rw [hx] at hM HINJ HSM hstep hl1 hl2
        clear hx
        have HST := Lib.hid hstep; have HG := Lib.hid hl1; have HF := Lib.hid hl2
        clear hstep hl1 hl2
        obtain ⟨g8, rfl, -⟩ := (hM.ints .here).head (by omega)
        have k8 := (hM.ints .here).cellAt hlt
        rw [hq] at k8
        have HQ := Lib.hid hq
        clear hq
        have t0 : (0 : Int) ≤ (t : Int) := by omega
        have t1 : (t : Int) < (n1 : Int) := by omega
        have q0 : (0 : Int) ≤ (q : Int) := by omega
        have q1 : (q : Int) < (n1 : Int) := by omega
        obtain ⟨bo, off, rfl, -, -⟩ := h1.at' _ hqn
        obtain ⟨v, hv⟩ : ∃ v, os.getD q OrderI.zero = v := ⟨_, rfl⟩
        have hoc := (orderB_true (ord_get HO.out (k := q) (by rw [HL.out]; exact hqn))).2.2.1
        have hcx := (h1.ext hM.below).cellOrder hqn
        rw [hv] at hcx hoc
        have HV := Lib.hid hv
        clear hv
        obtain ⟨oi, ok, oc, ou, ot⟩ := v
        have x0 := hcx.2.1
        have x1 := hcx.2.2.1
        have x2 := hcx.2.2.2.1
        have x3 := hcx.2.2.2.2.1
        have x4 := hcx.2.2.2.2.2
        clear hcx
        dsimp only at x0 x1 x2 x3 x4 hoc
        go_upto_region 8 with fail
        clear x0 x1 x2 x3 x4 k8
        apply Mem.atWpA
        · (repeat' (first | with_reducible exact hM | with_reducible exact hMp | with_reducible apply Mem.drew | with_reducible apply Mem.drewN | with_reducible apply Mem.alloc | with_reducible apply Mem.set | with_reducible exact Sto.row | ((with_reducible refine Sto.rowEq2 ?_ ?_); omega; rfl) | ((with_reducible refine Sto.rowEq ?_); omega) | with_reducible apply Sto.int | with_reducible apply Sto.there | with_reducible assumption | (unfold I64; omega) | (with_reducible (have hMx := Mem.undrew hM; exact hMx)) | (with_reducible (have hMx := Mem.undrew hMp; exact hMx))))
        clear hM
        intro wst hM
        (try simp only [World.size_alloc, World.size_setCell, World.heap_drewN, heapDrew, Nat.add_assoc, Nat.reduceAdd, List.setIfInBounds_toArray, List.set_cons_zero, List.set_cons_succ, List.cons_append, List.nil_append] at hM)
        go_loopw [11] (fun s11 wq => ∃ k : Nat, k ≤ n2 ∧ s11 = .int .i64 k ∧ Mem w.heap.size w wq [rowE wr.heap.size 48 #[.int .i64 oi, .string (bsA ok), .int .i64 oc, .int .i64 ou, .int .i64 ot], intE (some ⟨g8, 0, none⟩) n1 c8 (servL os), intE (some ⟨b6, 0, none⟩) n1 n1 (partS os x q k).1, owE FStock 46 a7 n2 c7 (partS os x q k).2]) (fun s11 _ => n2 - (intOf s11).toNat)
        case atStart => exact ⟨0, Nat.zero_le _, rfl, by rw [partS_zero]; exact hM⟩
        case round =>
          clear hM
          obtain ⟨k, hk, rfl, hM⟩ := hrel
          by_cases hkt : k < n2
          · obtain ⟨g7, rfl, -⟩ := (hM.ow (.there (.there (.there .here)))).head (by omega)
            have k0 : (0 : Int) ≤ (k : Int) := by omega
            have k1 : (k : Int) < (n2 : Int) := by omega
            have hn := partS_no (os := os) (q := (q : Int)) HINJ.out (k := k) (by rw [HF.out]; exact hkt)
            have hy := partS_yes (os := os) (q := (q : Int)) HINJ.out (k := k) (by rw [HF.out]; exact hkt)
            have hpl := partS_len os x q k
            rw [Int.toNat_natCast, HV.out] at hn hy
            obtain ⟨z, hz⟩ : ∃ z, partS os x q k = z := ⟨_, rfl⟩
            rw [hz] at hn hy hM hpl
            clear hz
            obtain ⟨gs, lf⟩ := z
            dsimp only at hn hy hM hpl
            obtain ⟨y, hyy⟩ : ∃ y, lf.getD k StockI.zero = y := ⟨_, rfl⟩
            rw [hyy] at hn hy
            obtain ⟨yk, yc⟩ := y
            dsimp only at hn hy
            have HN := Lib.hid hn; have HY := Lib.hid hy; have HYY := Lib.hid hyy; have HPL := Lib.hid hpl
            clear hn hy hyy hpl
            by_cases hke : yk = ok
            · obtain ⟨hy1, hy2⟩ := HY.out hke
              subst hke
              have hbe : (yk == yk) = true := by simp
              have hsm := HSM.out.2
              have e1 : x.1 = gs := by rw [← hy1]
              have e2 : x.2 = lf := by rw [← hy1]
              rw [e1, e2] at hy2
              rw [e2] at hsm
              rw [HYY.out] at hy2
              have hsk := hsm _ (getD_memO (d := StockI.zero) (xs := lf) (k := k) (by rw [HPL.out.2.1, HF.out]; exact hkt))
              rw [HYY.out] at hsk
              dsimp only at hy2 hsk
              have HY2 := Lib.hid hy2
              clear hy1 hy2 hsm e1 e2
              have hms : I64 (yc - minO oc yc) := by unfold minO I64; split <;> omega
              have hmw : I64 (minO oc yc) := by unfold minO I64; split <;> omega
              have hwr : IntKind.i64.wrap (yc - minO oc yc) = yc - minO oc yc := wrap_in (by unfold minO; split <;> omega)
              go_upto_region 10 with fail
              apply Mem.atWpA
              · (repeat' (first | with_reducible exact hM | with_reducible exact hMp | with_reducible apply Mem.drew | with_reducible apply Mem.drewN | with_reducible apply Mem.alloc | with_reducible apply Mem.set | with_reducible exact Sto.row | ((with_reducible refine Sto.rowEq2 ?_ ?_); omega; rfl) | ((with_reducible refine Sto.rowEq ?_); omega) | with_reducible apply Sto.int | with_reducible apply Sto.there | with_reducible assumption | (unfold I64; omega) | (with_reducible (have hMx := Mem.undrew hM; exact hMx)) | (with_reducible (have hMx := Mem.undrew hMp; exact hMx))))
              clear hM
              intro wst hM
              (try simp only [World.size_alloc, World.size_setCell, World.heap_drewN, heapDrew, Nat.add_assoc, Nat.reduceAdd, List.setIfInBounds_toArray, List.set_cons_zero, List.set_cons_succ, List.cons_append, List.nil_append] at hM)
              refine AtT.startA hM hM 7 (by kernel_rfl) ?_
              clear hM
              intro wd hM
              have hS := hM
              refine AtT.taked (i := 0) (v := ?_) (some 40) rfl rfl (by kernel_rfl) (by kernel_rfl) (by kernel_rfl) (by kernel_rfl) (fun _ _ _ h => h) (Or.inl ⟨by kernel_rfl, ?_⟩) hS ?_
              rotate_left
              · (intro wS hSw; (try dsimp only at hSw); go_simp; (try rw [if_neg (by omega)]); try with_reducible rfl)
              simp only [Act.put, List.setIfInBounds_toArray, List.set_cons_zero, List.set_cons_succ]
              refine AtT.taked (i := 1) (v := ?_) (some 41) rfl rfl (by kernel_rfl) (by kernel_rfl) (by kernel_rfl) (by kernel_rfl) (fun _ _ _ h => h) (Or.inl ⟨by kernel_rfl, ?_⟩) hS ?_
              rotate_left
              · (intro wS hSw; (try dsimp only at hSw); go_simp; (try rw [if_neg (by omega)]); try with_reducible rfl)
              simp only [Act.put, List.setIfInBounds_toArray, List.set_cons_zero, List.set_cons_succ]
              refine AtT.taked (i := 2) (v := ?_) (some 42) rfl rfl (by kernel_rfl) (by kernel_rfl) (by kernel_rfl) (by kernel_rfl) (fun _ _ _ h => h) (Or.inl ⟨by kernel_rfl, ?_⟩) hS ?_
              rotate_left
              · (intro wS hSw; (try dsimp only at hSw); have kr0 := (Mem.row hSw .here).cell; have r3 := (hSw.ow (.there (.there (.there .here)))).cellStock hkt; rw [HYY.out] at r3; have r4 := r3.1; dsimp only at r4; go_simp; (try rw [if_neg (by omega)]); try with_reducible rfl)
              simp only [Act.put, List.setIfInBounds_toArray, List.set_cons_zero, List.set_cons_succ]
              refine AtT.taked (i := 3) (v := ?_) (some 43) rfl rfl (by kernel_rfl) (by kernel_rfl) (by kernel_rfl) (by kernel_rfl) (fun _ _ _ h => h) (Or.inl ⟨by kernel_rfl, ?_⟩) hS ?_
              rotate_left
              · (intro wS hSw; (try dsimp only at hSw); go_simp; (try rw [if_neg (by omega)]); try with_reducible rfl)
              simp only [Act.put, List.setIfInBounds_toArray, List.set_cons_zero, List.set_cons_succ]
              refine AtT.taked (i := 4) (v := ?_) (some 44) rfl rfl (by kernel_rfl) (by kernel_rfl) (by kernel_rfl) (by kernel_rfl) (fun _ _ _ h => h) (Or.inl ⟨by kernel_rfl, ?_⟩) hS ?_
              rotate_left
              · (intro wS hSw; (try dsimp only at hSw); have kr0 := (Mem.row hSw .here).cell; have r3 := (hSw.ow (.there (.there (.there .here)))).cellStock hkt; rw [HYY.out] at r3; have r4 := r3.1; dsimp only at r4; go_simp; (try rw [if_neg (by omega)]); try with_reducible rfl)
              simp only [Act.put, List.setIfInBounds_toArray, List.set_cons_zero, List.set_cons_succ]
              refine AtT.taked (i := 5) (v := ?_) (some 45) rfl rfl (by kernel_rfl) (by kernel_rfl) (by kernel_rfl) (by kernel_rfl) (fun _ _ _ h => h) (Or.inl ⟨by kernel_rfl, ?_⟩) hS ?_
              rotate_left
              · (intro wS hSw; (try dsimp only at hSw); go_simp; (try rw [if_neg (by omega)]); try with_reducible rfl)
              simp only [Act.put, List.setIfInBounds_toArray, List.set_cons_zero, List.set_cons_succ]
              refine AtT.taked (i := 6) (v := ?_) (some 46) rfl rfl (by kernel_rfl) (by kernel_rfl) (by kernel_rfl) (by kernel_rfl) (fun _ _ _ h => h) (Or.inl ⟨by kernel_rfl, ?_⟩) hS ?_
              rotate_left
              · (intro wS hSw; (try dsimp only at hSw); have kr0 := (Mem.row hSw .here).cell; have r3 := (hSw.ow (.there (.there (.there .here)))).cellStock hkt; rw [HYY.out] at r3; have r4 := r3.1; dsimp only at r4; go_simp; (try rw [if_neg (by omega)]); try with_reducible rfl)
              simp only [Act.put, List.setIfInBounds_toArray, List.set_cons_zero, List.set_cons_succ]
              refine AtT.last (by kernel_rfl) rfl (by kernel_rfl) ?_
              intro K hK
              clear hS
              go_simp
              refine hK.out _ _ ?_
              clear hK K
              go_upto_region 11 with fail
              apply Mem.atWpA
              · (repeat' (first | with_reducible exact hM | with_reducible exact hMp | with_reducible apply Mem.drew | with_reducible apply Mem.drewN | with_reducible apply Mem.alloc | with_reducible apply Mem.set | with_reducible exact Sto.row | ((with_reducible refine Sto.rowEq2 ?_ ?_); omega; rfl) | ((with_reducible refine Sto.rowEq ?_); omega) | with_reducible apply Sto.int | with_reducible apply Sto.there | with_reducible assumption | (unfold I64; omega) | (with_reducible (have hMx := Mem.undrew hM; exact hMx)) | (with_reducible (have hMx := Mem.undrew hMp; exact hMx))))
              clear hM
              intro wst hM
              (try simp only [World.size_alloc, World.size_setCell, World.heap_drewN, heapDrew, Nat.add_assoc, Nat.reduceAdd, List.setIfInBounds_toArray, List.set_cons_zero, List.set_cons_succ, List.cons_append, List.nil_append] at hM)
              refine AtT.startA hM hM 8 (by kernel_rfl) ?_
              clear hM
              intro wd hM
              have hS := hM
              refine AtT.taked (i := 0) (v := ?_) (some 48) rfl rfl (by kernel_rfl) (by kernel_rfl) (by kernel_rfl) (by kernel_rfl) (fun _ _ _ h => h) (Or.inl ⟨by kernel_rfl, ?_⟩) hS ?_
              rotate_left
              · (intro wS hSw; (try dsimp only at hSw); go_simp; (try rw [if_neg (by omega)]); try with_reducible rfl)
              simp only [Act.put, List.setIfInBounds_toArray, List.set_cons_zero, List.set_cons_succ]
              refine AtT.taked (i := 1) (v := ?_) (some 49) rfl rfl (by kernel_rfl) (by kernel_rfl) (by kernel_rfl) (by kernel_rfl) (fun _ _ _ h => h) (Or.inl ⟨by kernel_rfl, ?_⟩) hS ?_
              rotate_left
              · (intro wS hSw; (try dsimp only at hSw); have kr0 := (Mem.row hSw .here).cell; have r3 := (hSw.ow (.there (.there (.there .here)))).cellStock hkt; rw [HYY.out] at r3; have r4 := r3.2; dsimp only at r4; go_simp; (try rw [if_neg (by omega)]); try with_reducible rfl)
              simp only [Act.put, List.setIfInBounds_toArray, List.set_cons_zero, List.set_cons_succ]
              refine AtT.taked (i := 2) (v := ?_) (some 50) rfl rfl (by kernel_rfl) (by kernel_rfl) (by kernel_rfl) (by kernel_rfl) (fun _ _ _ h => h) (Or.inl ⟨by kernel_rfl, ?_⟩) hS ?_
              rotate_left
              · (intro wS hSw; (try dsimp only at hSw); go_simp; (try rw [if_neg (by omega)]); try with_reducible rfl)
              simp only [Act.put, List.setIfInBounds_toArray, List.set_cons_zero, List.set_cons_succ]
              refine AtT.taked (i := 3) (v := ?_) (some 51) rfl rfl (by kernel_rfl) (by kernel_rfl) (by kernel_rfl) (by kernel_rfl) (fun _ _ _ h => h) (Or.inl ⟨by kernel_rfl, ?_⟩) hS ?_
              rotate_left
              · (intro wS hSw; (try dsimp only at hSw); go_simp; (try rw [if_neg (by omega)]); try with_reducible rfl)
              simp only [Act.put, List.setIfInBounds_toArray, List.set_cons_zero, List.set_cons_succ]
              refine AtT.taked (i := 4) (v := ?_) (some 52) rfl rfl (by kernel_rfl) (by kernel_rfl) (by kernel_rfl) (by kernel_rfl) (fun _ _ _ h => h) (Or.inl ⟨by kernel_rfl, ?_⟩) hS ?_
              rotate_left
              · (intro wS hSw; (try dsimp only at hSw); have kr0 := (Mem.row hSw .here).cell; have r3 := (hSw.ow (.there (.there (.there .here)))).cellStock hkt; rw [HYY.out] at r3; have r4 := r3.2; dsimp only at r4; go_simp; (try rw [if_neg (by omega)]); try with_reducible rfl)
              simp only [Act.put, List.setIfInBounds_toArray, List.set_cons_zero, List.set_cons_succ]
              refine AtT.taked (i := 5) (v := ?_) (some 53) rfl rfl (by kernel_rfl) (by kernel_rfl) (by kernel_rfl) (by kernel_rfl) (fun _ _ _ h => h) (Or.inl ⟨by kernel_rfl, ?_⟩) hS ?_
              rotate_left
              · (intro wS hSw; (try dsimp only at hSw); go_simp; (try rw [if_neg (by omega)]); try with_reducible rfl)
              simp only [Act.put, List.setIfInBounds_toArray, List.set_cons_zero, List.set_cons_succ]
              refine AtT.taked (i := 6) (v := ?_) (some 54) rfl rfl (by kernel_rfl) (by kernel_rfl) (by kernel_rfl) (by kernel_rfl) (fun _ _ _ h => h) (Or.inl ⟨by kernel_rfl, ?_⟩) hS ?_
              rotate_left
              · (intro wS hSw; (try dsimp only at hSw); have kr0 := (Mem.row hSw .here).cell; have r3 := (hSw.ow (.there (.there (.there .here)))).cellStock hkt; rw [HYY.out] at r3; have r4 := r3.2; dsimp only at r4; go_simp; (try rw [if_neg (by omega)]); try with_reducible rfl)
              simp only [Act.put, List.setIfInBounds_toArray, List.set_cons_zero, List.set_cons_succ]
              refine AtT.only (i := 7) (by kernel_rfl) rfl rfl ?_
              intro K hK
              go_simp
              refine (l1LeastO_any _ _ _).mono ?_
              rintro e w3 ⟨rfl, rfl⟩
              try dsimp only
              refine hK.out _ _ (hM) ?_
              clear hK K hS
              have hS := hM
              refine AtT.last (by kernel_rfl) rfl (by kernel_rfl) ?_
              intro K hK
              clear hS
              go_simp
              refine hK.out _ _ ?_
              clear hK K
              generalize minO oc yc = m at hmw hms hwr HY2 ⊢
              have k8 := (hM.ints (.there .here)).cellAt hlt
              rw [HQ.out] at k8
              have hce := (hM.ints (.there (.there .here))).cellAt (k := q) hqn
              have hfe := (hM.ints (.there (.there .here))).freeAt q
              go_upto_region 13 with fail
              clear k8 hce hfe
              apply Mem.atWpA
              · (repeat' (first | with_reducible exact hM | with_reducible exact hMp | with_reducible apply Mem.drew | with_reducible apply Mem.drewN | with_reducible apply Mem.alloc | with_reducible apply Mem.set | with_reducible exact Sto.row | ((with_reducible refine Sto.rowEq2 ?_ ?_); omega; rfl) | ((with_reducible refine Sto.rowEq ?_); omega) | with_reducible apply Sto.int | with_reducible apply Sto.there | with_reducible assumption | (unfold I64; omega) | (with_reducible (have hMx := Mem.undrew hM; exact hMx)) | (with_reducible (have hMx := Mem.undrew hMp; exact hMx))))
              clear hM
              intro wst hM
              (try simp only [World.size_alloc, World.size_setCell, World.heap_drewN, heapDrew, Nat.add_assoc, Nat.reduceAdd, List.setIfInBounds_toArray, List.set_cons_zero, List.set_cons_succ, List.cons_append, List.nil_append] at hM)
              refine AtT.startA hM hM 13 (by kernel_rfl) ?_
              clear hM
              intro wd hM
              have hS := hM
              refine AtT.taked (i := 0) (v := ?_) (some 63) rfl rfl (by kernel_rfl) (by kernel_rfl) (by kernel_rfl) (by kernel_rfl) (fun _ _ _ h => h) (Or.inl ⟨by kernel_rfl, ?_⟩) hS ?_
              rotate_left
              · (intro wS hSw; (try dsimp only at hSw); go_simp; (try rw [if_neg (by omega)]); try with_reducible rfl)
              simp only [Act.put, List.setIfInBounds_toArray, List.set_cons_zero, List.set_cons_succ]
              refine AtT.taked (i := 1) (v := ?_) (some 64) rfl rfl (by kernel_rfl) (by kernel_rfl) (by kernel_rfl) (by kernel_rfl) (fun _ _ _ h => h) (Or.inl ⟨by kernel_rfl, ?_⟩) hS ?_
              rotate_left
              · (intro wS hSw; (try dsimp only at hSw); go_simp; (try rw [if_neg (by omega)]); try with_reducible rfl)
              simp only [Act.put, List.setIfInBounds_toArray, List.set_cons_zero, List.set_cons_succ]
              refine AtT.taked (i := 2) (v := ?_) (some 65) rfl rfl (by kernel_rfl) (by kernel_rfl) (by kernel_rfl) (by kernel_rfl) (fun _ _ _ h => h) (Or.inl ⟨by kernel_rfl, ?_⟩) hS ?_
              rotate_left
              · (intro wS hSw; (try dsimp only at hSw); go_simp; (try rw [if_neg (by omega)]); try with_reducible rfl)
              simp only [Act.put, List.setIfInBounds_toArray, List.set_cons_zero, List.set_cons_succ]
              refine AtT.taked (i := 3) (v := ?_) (some 66) rfl rfl (by kernel_rfl) (by kernel_rfl) (by kernel_rfl) (by kernel_rfl) (fun _ _ _ h => h) (Or.inl ⟨by kernel_rfl, ?_⟩) hS ?_
              rotate_left
              · (intro wS hSw; (try dsimp only at hSw); have kr0 := (Mem.row hSw .here).cell; have r3 := (hSw.ow (.there (.there (.there .here)))).cellStock hkt; rw [HYY.out] at r3; have r4 := r3.2; dsimp only at r4; go_simp; (try rw [if_neg (by omega)]); try with_reducible rfl)
              simp only [Act.put, List.setIfInBounds_toArray, List.set_cons_zero, List.set_cons_succ]
              refine AtT.taked (i := 4) (v := ?_) (some 67) rfl rfl (by kernel_rfl) (by kernel_rfl) (by kernel_rfl) (by kernel_rfl) (fun _ _ _ h => h) (Or.inl ⟨by kernel_rfl, ?_⟩) hS ?_
              rotate_left
              · (intro wS hSw; (try dsimp only at hSw); go_simp; (try rw [if_neg (by omega)]); try with_reducible rfl)
              simp only [Act.put, List.setIfInBounds_toArray, List.set_cons_zero, List.set_cons_succ]
              refine AtT.taked (i := 5) (v := ?_) (some 68) rfl rfl (by kernel_rfl) (by kernel_rfl) (by kernel_rfl) (by kernel_rfl) (fun _ _ _ h => h) (Or.inl ⟨by kernel_rfl, ?_⟩) hS ?_
              rotate_left
              · (intro wS hSw; (try dsimp only at hSw); go_simp; (try rw [if_neg (by omega)]); try with_reducible rfl)
              simp only [Act.put, List.setIfInBounds_toArray, List.set_cons_zero, List.set_cons_succ]
              refine AtT.taked (i := 6) (v := ?_) (some 69) rfl rfl (by kernel_rfl) (by kernel_rfl) (by kernel_rfl) (by kernel_rfl) (fun _ _ _ h => h) (Or.inl ⟨by kernel_rfl, ?_⟩) hS ?_
              rotate_left
              · (intro wS hSw; (try dsimp only at hSw); have kr0 := (Mem.row hSw .here).cell; have r3 := (hSw.ow (.there (.there (.there .here)))).cellStock hkt; rw [HYY.out] at r3; have r4 := r3.2; dsimp only at r4; go_simp; (try rw [if_neg (by omega)]); try with_reducible rfl)
              simp only [Act.put, List.setIfInBounds_toArray, List.set_cons_zero, List.set_cons_succ]
              refine AtT.taked (i := 7) (v := ?_) (some 70) rfl rfl (by kernel_rfl) (by kernel_rfl) (by kernel_rfl) (by kernel_rfl) (fun _ _ _ h => h) (Or.inl ⟨by kernel_rfl, ?_⟩) hS ?_
              rotate_left
              · (intro wS hSw; (try dsimp only at hSw); go_simp; (try rw [if_neg (by omega)]); try with_reducible rfl)
              simp only [Act.put, List.setIfInBounds_toArray, List.set_cons_zero, List.set_cons_succ]
              refine AtT.taked (i := 8) (v := ?_) (some 71) rfl rfl (by kernel_rfl) (by kernel_rfl) (by kernel_rfl) (by kernel_rfl) (fun _ _ _ h => h) (Or.inl ⟨by kernel_rfl, ?_⟩) hS ?_
              rotate_left
              · (intro wS hSw; (try dsimp only at hSw); have kr0 := (Mem.row hSw .here).cell; have r3 := (hSw.ow (.there (.there (.there .here)))).cellStock hkt; rw [HYY.out] at r3; have r4 := r3.2; dsimp only at r4; go_simp; (try rw [if_neg (by omega)]); try with_reducible rfl)
              simp only [Act.put, List.setIfInBounds_toArray, List.set_cons_zero, List.set_cons_succ]
              refine AtT.taked (i := 9) (v := ?_) (some 72) rfl rfl (by kernel_rfl) (by kernel_rfl) (by kernel_rfl) (by kernel_rfl) (fun _ _ _ h => h) (Or.inl ⟨by kernel_rfl, ?_⟩) hS ?_
              rotate_left
              · (intro wS hSw; (try dsimp only at hSw); go_simp; (try rw [if_neg (by omega)]); try with_reducible rfl)
              simp only [Act.put, List.setIfInBounds_toArray, List.set_cons_zero, List.set_cons_succ]
              refine AtT.taked (i := 10) (v := ?_) (some 73) rfl rfl (by kernel_rfl) (by kernel_rfl) (by kernel_rfl) (by kernel_rfl) (fun _ _ _ h => h) (Or.inl ⟨by kernel_rfl, ?_⟩) hS ?_
              rotate_left
              · (intro wS hSw; (try dsimp only at hSw); go_simp; (try rw [if_neg (by omega)]); try with_reducible rfl)
              simp only [Act.put, List.setIfInBounds_toArray, List.set_cons_zero, List.set_cons_succ]
              refine AtT.taked (i := 11) (v := ?_) (some 74) rfl rfl (by kernel_rfl) (by kernel_rfl) (by kernel_rfl) (by kernel_rfl) (fun _ _ _ h => h) (Or.inl ⟨by kernel_rfl, ?_⟩) hS ?_
              rotate_left
              · (intro wS hSw; (try dsimp only at hSw); go_simp; (try rw [if_neg (by omega)]); try with_reducible rfl)
              simp only [Act.put, List.setIfInBounds_toArray, List.set_cons_zero, List.set_cons_succ]
              refine AtT.taked (i := 12) (v := ?_) (some 75) rfl rfl (by kernel_rfl) (by kernel_rfl) (by kernel_rfl) (by kernel_rfl) (fun _ _ _ h => h) (Or.inl ⟨by kernel_rfl, ?_⟩) hS ?_
              rotate_left
              · (intro wS hSw; (try dsimp only at hSw); have kr0 := (Mem.row hSw .here).cell; have r3 := (hSw.ow (.there (.there (.there .here)))).cellStock hkt; rw [HYY.out] at r3; have r4 := r3.2; dsimp only at r4; go_simp; (try rw [if_neg (by omega)]); try with_reducible rfl)
              simp only [Act.put, List.setIfInBounds_toArray, List.set_cons_zero, List.set_cons_succ]
              refine AtT.last (by kernel_rfl) rfl (by kernel_rfl) ?_
              intro K hK
              clear hS
              have kk0 := (hM.row .here).cell
              have ff0 := (hM.row .here).free
              have ll0 := (hM.row .here).lt
              have hce := ((hM.ow (.there (.there (.there .here)))).cellStock hkt).1
              have hcf := ((hM.ow (.there (.there (.there .here)))).cellStock hkt).2
              have hfe := (hM.ow (.there (.there (.there .here)))).free
              go_simp
              clear kk0 ff0 ll0
              refine hK.out _ _ ?_
              clear hK K
              have hM2 := hM.putStock hkt ⟨yk, yc - m⟩ ⟨by show yk.length ≤ maxLen; unfold maxLen; omega, hms⟩ (.there (.there (.there .here)))
              clear hM
              go_wp2
              go_roundw
              case rel => exact ⟨k + 1, by omega, by go_num, by rw [HY2.out]; exact hM2⟩
              case measure => simp [intOf]; omega
            · have hbe : (yk == ok) = false := by simpa using hke
              have HN2 := Lib.hid (HN.out hke)
              go_upto_region 10 with fail
              apply Mem.atWpA
              · (repeat' (first | with_reducible exact hM | with_reducible exact hMp | with_reducible apply Mem.drew | with_reducible apply Mem.drewN | with_reducible apply Mem.alloc | with_reducible apply Mem.set | with_reducible exact Sto.row | ((with_reducible refine Sto.rowEq2 ?_ ?_); omega; rfl) | ((with_reducible refine Sto.rowEq ?_); omega) | with_reducible apply Sto.int | with_reducible apply Sto.there | with_reducible assumption | (unfold I64; omega) | (with_reducible (have hMx := Mem.undrew hM; exact hMx)) | (with_reducible (have hMx := Mem.undrew hMp; exact hMx))))
              clear hM
              intro wst hM
              (try simp only [World.size_alloc, World.size_setCell, World.heap_drewN, heapDrew, Nat.add_assoc, Nat.reduceAdd, List.setIfInBounds_toArray, List.set_cons_zero, List.set_cons_succ, List.cons_append, List.nil_append] at hM)
              refine AtT.startA hM hM 7 (by kernel_rfl) ?_
              clear hM
              intro wd hM
              have hS := hM
              refine AtT.taked (i := 0) (v := ?_) (some 40) rfl rfl (by kernel_rfl) (by kernel_rfl) (by kernel_rfl) (by kernel_rfl) (fun _ _ _ h => h) (Or.inl ⟨by kernel_rfl, ?_⟩) hS ?_
              rotate_left
              · (intro wS hSw; (try dsimp only at hSw); go_simp; (try rw [if_neg (by omega)]); try with_reducible rfl)
              simp only [Act.put, List.setIfInBounds_toArray, List.set_cons_zero, List.set_cons_succ]
              refine AtT.taked (i := 1) (v := ?_) (some 41) rfl rfl (by kernel_rfl) (by kernel_rfl) (by kernel_rfl) (by kernel_rfl) (fun _ _ _ h => h) (Or.inl ⟨by kernel_rfl, ?_⟩) hS ?_
              rotate_left
              · (intro wS hSw; (try dsimp only at hSw); go_simp; (try rw [if_neg (by omega)]); try with_reducible rfl)
              simp only [Act.put, List.setIfInBounds_toArray, List.set_cons_zero, List.set_cons_succ]
              refine AtT.taked (i := 2) (v := ?_) (some 42) rfl rfl (by kernel_rfl) (by kernel_rfl) (by kernel_rfl) (by kernel_rfl) (fun _ _ _ h => h) (Or.inl ⟨by kernel_rfl, ?_⟩) hS ?_
              rotate_left
              · (intro wS hSw; (try dsimp only at hSw); have kr0 := (Mem.row hSw .here).cell; have r3 := (hSw.ow (.there (.there (.there .here)))).cellStock hkt; rw [HYY.out] at r3; have r4 := r3.1; dsimp only at r4; go_simp; (try rw [if_neg (by omega)]); try with_reducible rfl)
              simp only [Act.put, List.setIfInBounds_toArray, List.set_cons_zero, List.set_cons_succ]
              refine AtT.taked (i := 3) (v := ?_) (some 43) rfl rfl (by kernel_rfl) (by kernel_rfl) (by kernel_rfl) (by kernel_rfl) (fun _ _ _ h => h) (Or.inl ⟨by kernel_rfl, ?_⟩) hS ?_
              rotate_left
              · (intro wS hSw; (try dsimp only at hSw); go_simp; (try rw [if_neg (by omega)]); try with_reducible rfl)
              simp only [Act.put, List.setIfInBounds_toArray, List.set_cons_zero, List.set_cons_succ]
              refine AtT.taked (i := 4) (v := ?_) (some 44) rfl rfl (by kernel_rfl) (by kernel_rfl) (by kernel_rfl) (by kernel_rfl) (fun _ _ _ h => h) (Or.inl ⟨by kernel_rfl, ?_⟩) hS ?_
              rotate_left
              · (intro wS hSw; (try dsimp only at hSw); have kr0 := (Mem.row hSw .here).cell; have r3 := (hSw.ow (.there (.there (.there .here)))).cellStock hkt; rw [HYY.out] at r3; have r4 := r3.1; dsimp only at r4; go_simp; (try rw [if_neg (by omega)]); try with_reducible rfl)
              simp only [Act.put, List.setIfInBounds_toArray, List.set_cons_zero, List.set_cons_succ]
              refine AtT.taked (i := 5) (v := ?_) (some 45) rfl rfl (by kernel_rfl) (by kernel_rfl) (by kernel_rfl) (by kernel_rfl) (fun _ _ _ h => h) (Or.inl ⟨by kernel_rfl, ?_⟩) hS ?_
              rotate_left
              · (intro wS hSw; (try dsimp only at hSw); go_simp; (try rw [if_neg (by omega)]); try with_reducible rfl)
              simp only [Act.put, List.setIfInBounds_toArray, List.set_cons_zero, List.set_cons_succ]
              refine AtT.taked (i := 6) (v := ?_) (some 46) rfl rfl (by kernel_rfl) (by kernel_rfl) (by kernel_rfl) (by kernel_rfl) (fun _ _ _ h => h) (Or.inl ⟨by kernel_rfl, ?_⟩) hS ?_
              rotate_left
              · (intro wS hSw; (try dsimp only at hSw); have kr0 := (Mem.row hSw .here).cell; have r3 := (hSw.ow (.there (.there (.there .here)))).cellStock hkt; rw [HYY.out] at r3; have r4 := r3.1; dsimp only at r4; go_simp; (try rw [if_neg (by omega)]); try with_reducible rfl)
              simp only [Act.put, List.setIfInBounds_toArray, List.set_cons_zero, List.set_cons_succ]
              refine AtT.last (by kernel_rfl) rfl (by kernel_rfl) ?_
              intro K hK
              clear hS
              go_simp
              refine hK.out _ _ ?_
              clear hK K
              go_wp2
              go_roundw
              case rel => exact ⟨k + 1, by omega, by go_num, by rw [HN2.out]; exact hM⟩
              case measure => simp [intOf]; omega
          · obtain rfl : k = n2 := by omega
            have hpa : partS os x q k = servK os ss (t + 1) := by rw [HST.out, ← HF.out, partS_all]
            rw [hpa] at hM
            go_wp2
            go_roundw
            case rel => exact ⟨t + 1, by omega, by go_num, hM.tail⟩
            case measure => simp [intOf]; omega
      · obtain rfl : t = n1 := by omega
        have hl1 : servK os ss t = servK os ss os.length := by rw [HL.out]
        rw [hl1] at hM
        go_wp2
        go_ret2
        exact ⟨_, _, _, _, rfl, Mem.pick (is := [1, 2]) hM (by decide) rfl⟩
end Go.Proofs.Ytfnaenekdenmkaa
