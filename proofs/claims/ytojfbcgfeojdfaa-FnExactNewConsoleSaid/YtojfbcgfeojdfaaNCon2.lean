/-
  NewConsole of both sides.
-/
import Derived.Test.YtojfbcgfeojdfaaNCon
/-
  NewConsole of both sides.
-/
namespace Go.Proofs.Ytojfbcgfeojdfaa
set_option linter.unusedSimpArgs false
set_option linter.unusedVariables false
open Go.RowKit

theorem Mem.nilE4 {B : Nat} {w0 w : World} {a b c d : Ent} (h : Mem B w0 w [a, b, c, d]) : Mem B w0 w [a, b, c, d, intE none 0 0 []] := (Mem.nilI h).rot
theorem Mem.unpack3 {B : Nat} {w0 w : World} {a b c x y : Ent} (h : Mem B w0 w [packE [a, b, c], x, y]) : Mem B w0 w [a, b, c, x, y] := Mem.unpackAt (X := []) h
theorem Mem.toOwAt {α : Type} {F : Fl α} {E : TypeId} {B : Nat} {w0 w : World} {G G' : List Ent} {b : Nat} (h : Mem B w0 w G) (p : Put G (rowE b E #[]) (owE F E (some ⟨b, 0, none⟩) 0 0 []) G') : Mem B w0 w G' := by
  obtain ⟨h2, h3⟩ := h.ents _ p.mem
  refine h.put p (Keeps.refl _ _) ?_ (fun k hk => ?_)
  · refine ⟨rfl, by omega, by simp, by simp [Fl.cells], .inr ⟨b, 0, #[], rfl, h2, h3, Nat.le_refl _, Nat.zero_le _, by simp, by simp [Fl.cells]⟩⟩
  · obtain ⟨ad, e1, e2⟩ := hk
    injection e1 with e1
    subst e1
    exact .inl e2
theorem newR_true {W H : Int} {xs cells : List Int} {i : IncI} (h : newR W H xs cells = ⟨i, true⟩) : goodB 20 W H xs = true ∧ i = ⟨W, H, xs, fireL xs cells, List.replicate xs.length 0, 0⟩ := by
  unfold newR at h
  split at h
  · rename_i hq
    rw [Bool.and_eq_true] at hq
    injection h with h1 _
    exact ⟨hq.1, h1.symm⟩
  · injection h with _ h2
    cases h2
set_option maxRecDepth 100000 in
set_option maxHeartbeats 8000000 in
theorem l28Own_any (W Hn : Nat) (a : Option Addr) (n c : Nat) (xs : List Int) (af : Option Addr) (cf : Nat) (fs : List Int) (aw : Option Addr) (cw : Nat) (ws : List Int) (t : Int) (a4 : Option Addr) (n4 c4 : Nat) (ph : List PhaseI) (a5 : Option Addr) (n5 c5 : Nat) (av : List Int) (du pe : ByteArray) (ct : Int) (w : World)
    (h : Ints w a n c xs) (hf : Ints w af n cf fs) (hw : Ints w aw n cw ws) (h4 : Rd FPhase w a4 n4 c4 ph) (h5 : Ints w a5 n5 c5 av) (hnp : 0 < n) (hn25 : n ≤ 25) :
    Calls Try.prog 23 #[conV W Hn a n c af n cf aw n cw t a4 n4 c4 a5 n5 c5 du pe ct] w fun e w' => ∃ b1 d1 b2 d2 b3 d3 b4 d4 b5 d5, e = .returned (conV W Hn b1 n d1 b2 n d2 b3 n d3 t b4 n4 d4 b5 n5 d5 du pe ct) ∧ Mem w.heap.size w w' [intE b1 n d1 xs, intE b2 n d2 fs, intE b3 n d3 ws, owE FPhase 55 b4 n4 d4 ph, intE b5 n5 d5 av] := by
  have hM := Mem.start w
  have hr : n4 * 2 ≤ 17592186044416 := h4.room
  obtain ⟨i0, hi, hz0, hz1, hz2⟩ := info_parts Try.info55
  go_enter Try.func23, Try.ntmps23
  go_wp2_with fail
  apply Mem.atWpA
  · (repeat' (first | with_reducible exact hM | with_reducible exact hMp | with_reducible apply Mem.drew | with_reducible apply Mem.drewN | with_reducible apply Mem.alloc | with_reducible apply Mem.set | with_reducible exact Sto.row | ((with_reducible refine Sto.rowEq2 ?_ ?_); omega; rfl) | ((with_reducible refine Sto.rowEq ?_); omega) | with_reducible apply Sto.int | with_reducible apply Sto.there | with_reducible assumption | (unfold I64; omega) | (with_reducible (have hMx := Mem.undrew hM; exact hMx)) | (with_reducible (have hMx := Mem.undrew hMp; exact hMx))))
  clear hM
  intro wst hM
  (try simp only [World.size_alloc, World.size_setCell, World.heap_drewN, heapDrew, Nat.add_assoc, Nat.reduceAdd, List.setIfInBounds_toArray, List.set_cons_zero, List.set_cons_succ, List.cons_append, List.nil_append] at hM)
  refine AtT.startA hM hM 13 (by kernel_rfl) ?_
  clear hM
  intro wd hM
  have hS := hM
  refine AtT.taked (i := 0) (v := ?_) (some 3) rfl rfl (by kernel_rfl) (by kernel_rfl) (by kernel_rfl) (by kernel_rfl) (fun _ _ _ h => h) (Or.inl ⟨by kernel_rfl, ?_⟩) hS ?_
  rotate_left
  · (intro wS hSw; (try dsimp only at hSw); go_simp; (try rw [if_neg (by omega)]); try with_reducible rfl)
  simp only [Act.put, List.setIfInBounds_toArray, List.set_cons_zero, List.set_cons_succ]
  refine AtT.taked (i := 1) (v := ?_) (some 4) rfl rfl (by kernel_rfl) (by kernel_rfl) (by kernel_rfl) (by kernel_rfl) (fun _ _ _ h => h) (Or.inl ⟨by kernel_rfl, ?_⟩) hS ?_
  rotate_left
  · (intro wS hSw; (try dsimp only at hSw); have kr0 := (Mem.row hSw .here).cell; have kr1 := (Mem.row hSw (.there .here)).cell; go_simp; (try rw [if_neg (by omega)]); try with_reducible rfl)
  simp only [Act.put, List.setIfInBounds_toArray, List.set_cons_zero, List.set_cons_succ]
  refine AtT.taked (i := 4) (v := ?_) (some 7) rfl rfl (by kernel_rfl) (by kernel_rfl) (by kernel_rfl) (by kernel_rfl) (fun _ _ _ h => h) (Or.inl ⟨by kernel_rfl, ?_⟩) hS ?_
  rotate_left
  · (intro wS hSw; (try dsimp only at hSw); go_simp; (try rw [if_neg (by omega)]); try with_reducible rfl)
  simp only [Act.put, List.setIfInBounds_toArray, List.set_cons_zero, List.set_cons_succ]
  refine AtT.taked (i := 5) (v := ?_) (some 8) rfl rfl (by kernel_rfl) (by kernel_rfl) (by kernel_rfl) (by kernel_rfl) (fun _ _ _ h => h) (Or.inl ⟨by kernel_rfl, ?_⟩) hS ?_
  rotate_left
  · (intro wS hSw; (try dsimp only at hSw); have kr0 := (Mem.row hSw .here).cell; have kr1 := (Mem.row hSw (.there .here)).cell; go_simp; (try rw [if_neg (by omega)]); try with_reducible rfl)
  simp only [Act.put, List.setIfInBounds_toArray, List.set_cons_zero, List.set_cons_succ]
  refine AtT.taked (i := 7) (v := ?_) (some 10) rfl rfl (by kernel_rfl) (by kernel_rfl) (by kernel_rfl) (by kernel_rfl) (fun _ _ _ h => h) (Or.inl ⟨by kernel_rfl, ?_⟩) hS ?_
  rotate_left
  · (intro wS hSw; (try dsimp only at hSw); go_simp; (try rw [if_neg (by omega)]); try with_reducible rfl)
  simp only [Act.put, List.setIfInBounds_toArray, List.set_cons_zero, List.set_cons_succ]
  refine AtT.taked (i := 8) (v := ?_) (some 11) rfl rfl (by kernel_rfl) (by kernel_rfl) (by kernel_rfl) (by kernel_rfl) (fun _ _ _ h => h) (Or.inl ⟨by kernel_rfl, ?_⟩) hS ?_
  rotate_left
  · (intro wS hSw; (try dsimp only at hSw); have kr0 := (Mem.row hSw .here).cell; have kr1 := (Mem.row hSw (.there .here)).cell; go_simp; (try rw [if_neg (by omega)]); try with_reducible rfl)
  simp only [Act.put, List.setIfInBounds_toArray, List.set_cons_zero, List.set_cons_succ]
  refine AtT.taked (i := 10) (v := ?_) (some 13) rfl rfl (by kernel_rfl) (by kernel_rfl) (by kernel_rfl) (by kernel_rfl) (fun _ _ _ h => h) (Or.inl ⟨by kernel_rfl, ?_⟩) hS ?_
  rotate_left
  · (intro wS hSw; (try dsimp only at hSw); go_simp; (try rw [if_neg (by omega)]); try with_reducible rfl)
  simp only [Act.put, List.setIfInBounds_toArray, List.set_cons_zero, List.set_cons_succ]
  refine AtT.taked (i := 11) (v := ?_) (some 14) rfl rfl (by kernel_rfl) (by kernel_rfl) (by kernel_rfl) (by kernel_rfl) (fun _ _ _ h => h) (Or.inl ⟨by kernel_rfl, ?_⟩) hS ?_
  rotate_left
  · (intro wS hSw; (try dsimp only at hSw); have kr0 := (Mem.row hSw .here).cell; have kr1 := (Mem.row hSw (.there .here)).cell; go_simp; (try rw [if_neg (by omega)]); try with_reducible rfl)
  simp only [Act.put, List.setIfInBounds_toArray, List.set_cons_zero, List.set_cons_succ]
  refine AtT.two (i := 2) (j := 3) (by kernel_rfl) rfl rfl rfl rfl ?_ ?_
  · skip
    intro K hK
    go_simp
    refine (l21Own_any W Hn a n c xs af cf fs aw cw ws t _ (h.ext hM.below) (hf.ext hM.below) (hw.ext hM.below) hnp hn25).mono ?_
    rintro e w3 ⟨b1, d1, b2, d2, b3, d3, rfl, hm⟩
    replace hM := Mem.packAt (X := []) (G := [intE b1 n d1 xs, intE b2 n d2 fs, intE b3 n d3 ws]) (hM.join hm)
    clear hm
    (try simp only [World.size_alloc, World.size_setCell, World.heap_drewN, heapDrew, Nat.add_assoc, Nat.reduceAdd, List.setIfInBounds_toArray, List.set_cons_zero, List.set_cons_succ, List.cons_append, List.nil_append] at hM)
    try dsimp only
    refine hK.out _ _ (hM.tail) ?_
    clear hK K hS
    have hS := hM.tail
    refine AtT.only (i := 3) (by kernel_rfl) rfl rfl ?_
    intro K hK
    go_simp
    refine hK.out _ _ (by apply Mem.tail; apply Mem.tail; (repeat' (first | with_reducible exact hM | with_reducible exact hMp | with_reducible apply Mem.drew | with_reducible apply Mem.drewN | with_reducible apply Mem.alloc | with_reducible apply Mem.set | with_reducible exact Sto.row | ((with_reducible refine Sto.rowEq2 ?_ ?_); omega; rfl) | ((with_reducible refine Sto.rowEq ?_); omega) | with_reducible apply Sto.int | with_reducible apply Sto.there | with_reducible assumption | (unfold I64; omega) | (with_reducible (have hMx := Mem.undrew hM; exact hMx)) | (with_reducible (have hMx := Mem.undrew hMp; exact hMx))))) ?_
    clear hK K hS
    have hMp := hM
    apply Mem.atT
    · (repeat' (first | with_reducible exact hM | with_reducible exact hMp | with_reducible apply Mem.drew | with_reducible apply Mem.drewN | with_reducible apply Mem.alloc | with_reducible apply Mem.set | with_reducible exact Sto.row | ((with_reducible refine Sto.rowEq2 ?_ ?_); omega; rfl) | ((with_reducible refine Sto.rowEq ?_); omega) | with_reducible apply Sto.int | with_reducible apply Sto.there | with_reducible assumption | (unfold I64; omega) | (with_reducible (have hMx := Mem.undrew hM; exact hMx)) | (with_reducible (have hMx := Mem.undrew hMp; exact hMx))))
    clear hM
    intro hM
    (try simp only [World.size_alloc, World.size_setCell, World.heap_drewN, heapDrew, Nat.add_assoc, Nat.reduceAdd, List.setIfInBounds_toArray, List.set_cons_zero, List.set_cons_succ, List.cons_append, List.nil_append] at hM)
    have hS := hM.tail.tail
    refine AtT.only (i := 6) (by kernel_rfl) rfl rfl ?_
    intro K hK
    refine step_appRM (F := FPhase) (Mem.toOwAt hM .here) (fun _ => .here) (h4.ext hM.below) (by show (0 + n4) * 2 ≤ _; omega) i0 (.agg #[.int .i64 0, .int .i64 0]) 16 hi hz0 hz1 hz2 rfl (by omega) rfl _ _ _ Try.underlying31 rfl rfl rfl ?_
    clear hM
    intro a6 c6 w6 hM
    simp only [Nat.zero_add, List.nil_append] at hM ⊢
    try dsimp only
    refine hK.out _ _ (hM.tail.tail) ?_
    clear hK K hS
    have hS := hM.tail.tail
    refine AtT.only (i := 9) (by kernel_rfl) rfl rfl ?_
    intro K hK
    go_simp
    refine (l1Own_any a5 n5 c5 av _ (h5.ext hM.below)).mono ?_
    rintro e w7 ⟨a7, c7, rfl, hO, hb⟩
    replace hM := hM.own hb hO
    clear hb hO
    (try simp only [World.size_alloc, World.size_setCell, World.heap_drewN, heapDrew, Nat.add_assoc, Nat.reduceAdd, List.setIfInBounds_toArray, List.set_cons_zero, List.set_cons_succ, List.cons_append, List.nil_append] at hM)
    try dsimp only
    refine hK.out _ _ (hM.tail.tail.tail) ?_
    clear hK K hS
    have hS := hM.tail.tail.tail
    refine AtT.taked (i := 12) (v := ?_) (some 15) rfl rfl (by kernel_rfl) (by kernel_rfl) (by kernel_rfl) (by kernel_rfl) (fun _ _ _ h => h) (Or.inl ⟨by kernel_rfl, ?_⟩) hS ?_
    rotate_left
    · (intro wS hSw; (try dsimp only at hSw); go_simp; (try rw [if_neg (by omega)]); try with_reducible rfl)
    simp only [Act.put, List.setIfInBounds_toArray, List.set_cons_zero, List.set_cons_succ]
    refine AtT.last (by kernel_rfl) rfl (by kernel_rfl) ?_
    intro K hK
    clear hS
    have kk3 := (hM.row (.there (.there (.there .here)))).cell
    have ff3 := (hM.row (.there (.there (.there .here)))).free
    have ll3 := (hM.row (.there (.there (.there .here)))).lt
    have kk4 := (hM.row (.there (.there (.there (.there .here))))).cell
    have ff4 := (hM.row (.there (.there (.there (.there .here))))).free
    have ll4 := (hM.row (.there (.there (.there (.there .here))))).lt
    go_simp
    clear kk3 ff3 ll3 kk4 ff4 ll4
    refine hK.out _ _ ?_
    clear hK K
    obtain ⟨k1, f1, l1⟩ := hM.row (.there (.there (.there .here)))
    go_wp2
    refine bodyPost_ret (v := conV W Hn b1 n d1 b2 n d2 b3 n d3 t a6 n4 c6 a7 n5 c7 du pe ct) (by simp [results, Try.results23, go_sem, k1]) rfl ⟨b1, d1, b2, d2, b3, d3, a6, c6, a7, c7, rfl, ?_⟩
    refine Mem.unpack3 ?_
    apply Mem.pick (is := [2, 1, 0])
    · (repeat' (first | with_reducible exact hM | with_reducible exact hMp | with_reducible apply Mem.drew | with_reducible apply Mem.drewN | with_reducible apply Mem.alloc | with_reducible apply Mem.set | with_reducible exact Sto.row | ((with_reducible refine Sto.rowEq2 ?_ ?_); omega; rfl) | ((with_reducible refine Sto.rowEq ?_); omega) | with_reducible apply Sto.int | with_reducible apply Sto.there | with_reducible assumption | (unfold I64; omega) | (with_reducible (have hMx := Mem.undrew hM; exact hMx)) | (with_reducible (have hMx := Mem.undrew hMp; exact hMx))))
    · decide
    · rfl
  · skip
    intro K hK
    go_simp
    refine hK.out _ _ (by apply Mem.tail; (repeat' (first | with_reducible exact hM | with_reducible exact hMp | with_reducible apply Mem.drew | with_reducible apply Mem.drewN | with_reducible apply Mem.alloc | with_reducible apply Mem.set | with_reducible exact Sto.row | ((with_reducible refine Sto.rowEq2 ?_ ?_); omega; rfl) | ((with_reducible refine Sto.rowEq ?_); omega) | with_reducible apply Sto.int | with_reducible apply Sto.there | with_reducible assumption | (unfold I64; omega) | (with_reducible (have hMx := Mem.undrew hM; exact hMx)) | (with_reducible (have hMx := Mem.undrew hMp; exact hMx))))) ?_
    clear hK K hS
    have hMp := hM
    apply Mem.atT
    · (repeat' (first | with_reducible exact hM | with_reducible exact hMp | with_reducible apply Mem.drew | with_reducible apply Mem.drewN | with_reducible apply Mem.alloc | with_reducible apply Mem.set | with_reducible exact Sto.row | ((with_reducible refine Sto.rowEq2 ?_ ?_); omega; rfl) | ((with_reducible refine Sto.rowEq ?_); omega) | with_reducible apply Sto.int | with_reducible apply Sto.there | with_reducible assumption | (unfold I64; omega) | (with_reducible (have hMx := Mem.undrew hM; exact hMx)) | (with_reducible (have hMx := Mem.undrew hMp; exact hMx))))
    clear hM
    intro hM
    (try simp only [World.size_alloc, World.size_setCell, World.heap_drewN, heapDrew, Nat.add_assoc, Nat.reduceAdd, List.setIfInBounds_toArray, List.set_cons_zero, List.set_cons_succ, List.cons_append, List.nil_append] at hM)
    have hS := hM.tail
    refine AtT.only (i := 2) (by kernel_rfl) rfl rfl ?_
    intro K hK
    go_simp
    refine (l21Own_any W Hn a n c xs af cf fs aw cw ws t _ (h.ext hM.below) (hf.ext hM.below) (hw.ext hM.below) hnp hn25).mono ?_
    rintro e w3 ⟨b1, d1, b2, d2, b3, d3, rfl, hm⟩
    replace hM := Mem.packAt (X := []) (G := [intE b1 n d1 xs, intE b2 n d2 fs, intE b3 n d3 ws]) (hM.join hm)
    clear hm
    (try simp only [World.size_alloc, World.size_setCell, World.heap_drewN, heapDrew, Nat.add_assoc, Nat.reduceAdd, List.setIfInBounds_toArray, List.set_cons_zero, List.set_cons_succ, List.cons_append, List.nil_append] at hM)
    try dsimp only
    refine hK.out _ _ (hM.tail.tail) ?_
    clear hK K hS
    have hS := hM.tail.tail
    refine AtT.only (i := 6) (by kernel_rfl) rfl rfl ?_
    intro K hK
    refine step_appRM (F := FPhase) (Mem.toOwAt hM (.there .here)) (fun _ => (.there .here)) (h4.ext hM.below) (by show (0 + n4) * 2 ≤ _; omega) i0 (.agg #[.int .i64 0, .int .i64 0]) 16 hi hz0 hz1 hz2 rfl (by omega) rfl _ _ _ Try.underlying31 rfl rfl rfl ?_
    clear hM
    intro a6 c6 w6 hM
    simp only [Nat.zero_add, List.nil_append] at hM ⊢
    try dsimp only
    refine hK.out _ _ (hM.tail.tail) ?_
    clear hK K hS
    have hS := hM.tail.tail
    refine AtT.only (i := 9) (by kernel_rfl) rfl rfl ?_
    intro K hK
    go_simp
    refine (l1Own_any a5 n5 c5 av _ (h5.ext hM.below)).mono ?_
    rintro e w7 ⟨a7, c7, rfl, hO, hb⟩
    replace hM := hM.own hb hO
    clear hb hO
    (try simp only [World.size_alloc, World.size_setCell, World.heap_drewN, heapDrew, Nat.add_assoc, Nat.reduceAdd, List.setIfInBounds_toArray, List.set_cons_zero, List.set_cons_succ, List.cons_append, List.nil_append] at hM)
    try dsimp only
    refine hK.out _ _ (hM.tail.tail.tail) ?_
    clear hK K hS
    have hS := hM.tail.tail.tail
    refine AtT.taked (i := 12) (v := ?_) (some 15) rfl rfl (by kernel_rfl) (by kernel_rfl) (by kernel_rfl) (by kernel_rfl) (fun _ _ _ h => h) (Or.inl ⟨by kernel_rfl, ?_⟩) hS ?_
    rotate_left
    · (intro wS hSw; (try dsimp only at hSw); go_simp; (try rw [if_neg (by omega)]); try with_reducible rfl)
    simp only [Act.put, List.setIfInBounds_toArray, List.set_cons_zero, List.set_cons_succ]
    refine AtT.last (by kernel_rfl) rfl (by kernel_rfl) ?_
    intro K hK
    clear hS
    have kk3 := (hM.row (.there (.there (.there .here)))).cell
    have ff3 := (hM.row (.there (.there (.there .here)))).free
    have ll3 := (hM.row (.there (.there (.there .here)))).lt
    have kk4 := (hM.row (.there (.there (.there (.there .here))))).cell
    have ff4 := (hM.row (.there (.there (.there (.there .here))))).free
    have ll4 := (hM.row (.there (.there (.there (.there .here))))).lt
    go_simp
    clear kk3 ff3 ll3 kk4 ff4 ll4
    refine hK.out _ _ ?_
    clear hK K
    obtain ⟨k1, f1, l1⟩ := hM.row (.there (.there (.there .here)))
    go_wp2
    refine bodyPost_ret (v := conV W Hn b1 n d1 b2 n d2 b3 n d3 t a6 n4 c6 a7 n5 c7 du pe ct) (by simp [results, Try.results23, go_sem, k1]) rfl ⟨b1, d1, b2, d2, b3, d3, a6, c6, a7, c7, rfl, ?_⟩
    refine Mem.unpack3 ?_
    apply Mem.pick (is := [1, 2, 0])
    · (repeat' (first | with_reducible exact hM | with_reducible exact hMp | with_reducible apply Mem.drew | with_reducible apply Mem.drewN | with_reducible apply Mem.alloc | with_reducible apply Mem.set | with_reducible exact Sto.row | ((with_reducible refine Sto.rowEq2 ?_ ?_); omega; rfl) | ((with_reducible refine Sto.rowEq ?_); omega) | with_reducible apply Sto.int | with_reducible apply Sto.there | with_reducible assumption | (unfold I64; omega) | (with_reducible (have hMx := Mem.undrew hM; exact hMx)) | (with_reducible (have hMx := Mem.undrew hMp; exact hMx))))
    · decide
    · rfl
set_option maxRecDepth 100000 in
set_option maxHeartbeats 8000000 in
theorem implNewCon_any (W H : Int) (a : Option Addr) (n c : Nat) (xs : List Int) (a' : Option Addr) (n' c' : Nat) (cells : List Int) (a4 : Option Addr) (n4 c4 : Nat) (ph : List PhaseI) (w : World) (h : Ints w a n c xs) (h' : Ints w a' n' c' cells) (h4 : Rd FPhase w a4 n4 c4 ph) :
    Calls Try.prog 10 #[.agg #[.int .i64 W, .int .i64 H, .slice a n c], .slice a' n' c', .slice a4 n4 c4] w (ConRes w (newConR W H xs cells ph)) := by
  have hM := Mem.start w
  obtain ⟨⟨i, ok⟩, hq⟩ : ∃ r, newR W H xs cells = r := ⟨_, rfl⟩
  obtain ⟨q, hq2⟩ : ∃ q, phasesB ph = q := ⟨_, rfl⟩
  have HF := Lib.hid (show newConR W H xs cells ph = if ok && q then ⟨⟨i, ph, [], ⟨#[]⟩, ⟨#[]⟩, 0⟩, true⟩ else ⟨ConI.zero, false⟩ by rw [newConR, hq, hq2])
  have HQ := Lib.hid hq; have HQ2 := Lib.hid hq2
  clear hq hq2
  cases ok
  · have HR := Lib.hid (show newConR W H xs cells ph = ⟨ConI.zero, false⟩ from HF.out)
    go_enter Try.func10, Try.ntmps10
    go_wp2_with fail
    apply Mem.atA
    · (repeat' (first | with_reducible exact hM | with_reducible exact hMp | with_reducible apply Mem.drew | with_reducible apply Mem.drewN | with_reducible apply Mem.alloc | with_reducible apply Mem.set | with_reducible exact Sto.row | ((with_reducible refine Sto.rowEq2 ?_ ?_); omega; rfl) | ((with_reducible refine Sto.rowEq ?_); omega) | with_reducible apply Sto.int | with_reducible apply Sto.there | with_reducible assumption | (unfold I64; omega) | (with_reducible (have hMx := Mem.undrew hM; exact hMx)) | (with_reducible (have hMx := Mem.undrew hMp; exact hMx))))
    clear hM
    intro wst hM
    (try simp only [World.size_alloc, World.size_setCell, World.heap_drewN, heapDrew, Nat.add_assoc, Nat.reduceAdd, List.setIfInBounds_toArray, List.set_cons_zero, List.set_cons_succ, List.cons_append, List.nil_append] at hM)
    (first | refine (implNewInc_any W H a n c xs a' n' c' cells _ (h.ext hM.below) (h'.ext hM.below)).mono ?_)
    rw [HQ.out]
    rintro e wc ⟨b1, n1, d1, b2, n2, d2, b3, n3, d3, rfl, hm⟩
    replace hM := hM.join hm
    clear hm
    (try simp only [World.size_alloc, World.size_setCell, World.heap_drewN, heapDrew, Nat.add_assoc, Nat.reduceAdd, List.setIfInBounds_toArray, List.set_cons_zero, List.set_cons_succ, List.cons_append, List.nil_append] at hM)
    go_upto_region 2 with fail
    apply Mem.atWpA
    · (repeat' (first | with_reducible exact hM | with_reducible exact hMp | with_reducible apply Mem.drew | with_reducible apply Mem.drewN | with_reducible apply Mem.alloc | with_reducible apply Mem.set | with_reducible exact Sto.row | ((with_reducible refine Sto.rowEq2 ?_ ?_); omega; rfl) | ((with_reducible refine Sto.rowEq ?_); omega) | with_reducible apply Sto.int | with_reducible apply Sto.there | with_reducible assumption | (unfold I64; omega) | (with_reducible (have hMx := Mem.undrew hM; exact hMx)) | (with_reducible (have hMx := Mem.undrew hMp; exact hMx))))
    clear hM
    intro wst hM
    (try simp only [World.size_alloc, World.size_setCell, World.heap_drewN, heapDrew, Nat.add_assoc, Nat.reduceAdd, List.setIfInBounds_toArray, List.set_cons_zero, List.set_cons_succ, List.cons_append, List.nil_append] at hM)
    obtain ⟨k4, f4, l4⟩ := hM.row (.there (.there (.there (.there .here))))
    go_wp2
    rw [HR.out]
    refine bodyPost_ret (v := .tuple #[conV 0 0 none 0 0 none 0 0 none 0 0 0 none 0 0 none 0 0 ⟨#[]⟩ ⟨#[]⟩ 0, .bool false]) (by simp [results, Try.results10, go_sem, k4]) rfl ⟨none, 0, 0, none, 0, 0, none, 0, 0, none, 0, 0, none, 0, 0, rfl, ?_⟩
    apply Mem.nil5
    (repeat' (first | with_reducible exact hM | with_reducible exact hMp | with_reducible apply Mem.drew | with_reducible apply Mem.drewN | with_reducible apply Mem.alloc | with_reducible apply Mem.set | with_reducible exact Sto.row | ((with_reducible refine Sto.rowEq2 ?_ ?_); omega; rfl) | ((with_reducible refine Sto.rowEq ?_); omega) | with_reducible apply Sto.int | with_reducible apply Sto.there | with_reducible assumption | (unfold I64; omega) | (with_reducible (have hMx := Mem.undrew hM; exact hMx)) | (with_reducible (have hMx := Mem.undrew hMp; exact hMx))))
  cases q
  · have HR := Lib.hid (show newConR W H xs cells ph = ⟨ConI.zero, false⟩ from HF.out)
    go_enter Try.func10, Try.ntmps10
    go_wp2_with fail
    apply Mem.atA
    · (repeat' (first | with_reducible exact hM | with_reducible exact hMp | with_reducible apply Mem.drew | with_reducible apply Mem.drewN | with_reducible apply Mem.alloc | with_reducible apply Mem.set | with_reducible exact Sto.row | ((with_reducible refine Sto.rowEq2 ?_ ?_); omega; rfl) | ((with_reducible refine Sto.rowEq ?_); omega) | with_reducible apply Sto.int | with_reducible apply Sto.there | with_reducible assumption | (unfold I64; omega) | (with_reducible (have hMx := Mem.undrew hM; exact hMx)) | (with_reducible (have hMx := Mem.undrew hMp; exact hMx))))
    clear hM
    intro wst hM
    (try simp only [World.size_alloc, World.size_setCell, World.heap_drewN, heapDrew, Nat.add_assoc, Nat.reduceAdd, List.setIfInBounds_toArray, List.set_cons_zero, List.set_cons_succ, List.cons_append, List.nil_append] at hM)
    (first | refine (implNewInc_any W H a n c xs a' n' c' cells _ (h.ext hM.below) (h'.ext hM.below)).mono ?_)
    rw [HQ.out]
    rintro e wc ⟨b1, n1, d1, b2, n2, d2, b3, n3, d3, rfl, hm⟩
    replace hM := hM.join hm
    clear hm
    (try simp only [World.size_alloc, World.size_setCell, World.heap_drewN, heapDrew, Nat.add_assoc, Nat.reduceAdd, List.setIfInBounds_toArray, List.set_cons_zero, List.set_cons_succ, List.cons_append, List.nil_append] at hM)
    go_wp2_with fail
    apply Mem.atA
    · (repeat' (first | with_reducible exact hM | with_reducible exact hMp | with_reducible apply Mem.drew | with_reducible apply Mem.drewN | with_reducible apply Mem.alloc | with_reducible apply Mem.set | with_reducible exact Sto.row | ((with_reducible refine Sto.rowEq2 ?_ ?_); omega; rfl) | ((with_reducible refine Sto.rowEq ?_); omega) | with_reducible apply Sto.int | with_reducible apply Sto.there | with_reducible assumption | (unfold I64; omega) | (with_reducible (have hMx := Mem.undrew hM; exact hMx)) | (with_reducible (have hMx := Mem.undrew hMp; exact hMx))))
    clear hM
    intro wst hM
    (try simp only [World.size_alloc, World.size_setCell, World.heap_drewN, heapDrew, Nat.add_assoc, Nat.reduceAdd, List.setIfInBounds_toArray, List.set_cons_zero, List.set_cons_succ, List.cons_append, List.nil_append] at hM)
    (first | refine (arePhases_any a4 n4 c4 ph _ (h4.ext hM.below)).mono ?_)
    rw [HQ2.out]
    rintro e wc3 ⟨rfl, hb⟩
    replace hM := hM.ext hb
    clear hb
    obtain ⟨k4, f4, l4⟩ := hM.row (.there (.there (.there (.there .here))))
    go_wp2
    rw [HR.out]
    refine bodyPost_ret (v := .tuple #[conV 0 0 none 0 0 none 0 0 none 0 0 0 none 0 0 none 0 0 ⟨#[]⟩ ⟨#[]⟩ 0, .bool false]) (by simp [results, Try.results10, go_sem, k4]) rfl ⟨none, 0, 0, none, 0, 0, none, 0, 0, none, 0, 0, none, 0, 0, rfl, ?_⟩
    apply Mem.nil5
    (repeat' (first | with_reducible exact hM | with_reducible exact hMp | with_reducible apply Mem.drew | with_reducible apply Mem.drewN | with_reducible apply Mem.alloc | with_reducible apply Mem.set | with_reducible exact Sto.row | ((with_reducible refine Sto.rowEq2 ?_ ?_); omega; rfl) | ((with_reducible refine Sto.rowEq ?_); omega) | with_reducible apply Sto.int | with_reducible apply Sto.there | with_reducible assumption | (unfold I64; omega) | (with_reducible (have hMx := Mem.undrew hM; exact hMx)) | (with_reducible (have hMx := Mem.undrew hMp; exact hMx))))
  have HR := Lib.hid (show newConR W H xs cells ph = ⟨⟨i, ph, [], ⟨#[]⟩, ⟨#[]⟩, 0⟩, true⟩ from HF.out)
  go_enter Try.func10, Try.ntmps10
  go_wp2_with fail
  apply Mem.atA
  · (repeat' (first | with_reducible exact hM | with_reducible exact hMp | with_reducible apply Mem.drew | with_reducible apply Mem.drewN | with_reducible apply Mem.alloc | with_reducible apply Mem.set | with_reducible exact Sto.row | ((with_reducible refine Sto.rowEq2 ?_ ?_); omega; rfl) | ((with_reducible refine Sto.rowEq ?_); omega) | with_reducible apply Sto.int | with_reducible apply Sto.there | with_reducible assumption | (unfold I64; omega) | (with_reducible (have hMx := Mem.undrew hM; exact hMx)) | (with_reducible (have hMx := Mem.undrew hMp; exact hMx))))
  clear hM
  intro wst hM
  (try simp only [World.size_alloc, World.size_setCell, World.heap_drewN, heapDrew, Nat.add_assoc, Nat.reduceAdd, List.setIfInBounds_toArray, List.set_cons_zero, List.set_cons_succ, List.cons_append, List.nil_append] at hM)
  (first | refine (implNewInc_any W H a n c xs a' n' c' cells _ (h.ext hM.below) (h'.ext hM.below)).mono ?_)
  rw [HQ.out]
  rintro e wc ⟨b1, n1, d1, b2, n2, d2, b3, n3, d3, rfl, hm⟩
  replace hM := hM.join hm
  clear hm
  (try simp only [World.size_alloc, World.size_setCell, World.heap_drewN, heapDrew, Nat.add_assoc, Nat.reduceAdd, List.setIfInBounds_toArray, List.set_cons_zero, List.set_cons_succ, List.cons_append, List.nil_append] at hM)
  go_wp2_with fail
  apply Mem.atA
  · (repeat' (first | with_reducible exact hM | with_reducible exact hMp | with_reducible apply Mem.drew | with_reducible apply Mem.drewN | with_reducible apply Mem.alloc | with_reducible apply Mem.set | with_reducible exact Sto.row | ((with_reducible refine Sto.rowEq2 ?_ ?_); omega; rfl) | ((with_reducible refine Sto.rowEq ?_); omega) | with_reducible apply Sto.int | with_reducible apply Sto.there | with_reducible assumption | (unfold I64; omega) | (with_reducible (have hMx := Mem.undrew hM; exact hMx)) | (with_reducible (have hMx := Mem.undrew hMp; exact hMx))))
  clear hM
  intro wst hM
  (try simp only [World.size_alloc, World.size_setCell, World.heap_drewN, heapDrew, Nat.add_assoc, Nat.reduceAdd, List.setIfInBounds_toArray, List.set_cons_zero, List.set_cons_succ, List.cons_append, List.nil_append] at hM)
  (first | refine (arePhases_any a4 n4 c4 ph _ (h4.ext hM.below)).mono ?_)
  rw [HQ2.out]
  rintro e wc5 ⟨rfl, hb⟩
  replace hM := hM.ext hb
  clear hb
  go_wp2_with fail
  apply Mem.atWpA
  · (repeat' (first | with_reducible exact hM | with_reducible exact hMp | with_reducible apply Mem.drew | with_reducible apply Mem.drewN | with_reducible apply Mem.alloc | with_reducible apply Mem.set | with_reducible exact Sto.row | ((with_reducible refine Sto.rowEq2 ?_ ?_); omega; rfl) | ((with_reducible refine Sto.rowEq ?_); omega) | with_reducible apply Sto.int | with_reducible apply Sto.there | with_reducible assumption | (unfold I64; omega) | (with_reducible (have hMx := Mem.undrew hM; exact hMx)) | (with_reducible (have hMx := Mem.undrew hMp; exact hMx))))
  clear hM
  intro wst hM
  (try simp only [World.size_alloc, World.size_setCell, World.heap_drewN, heapDrew, Nat.add_assoc, Nat.reduceAdd, List.setIfInBounds_toArray, List.set_cons_zero, List.set_cons_succ, List.cons_append, List.nil_append] at hM)
  replace hM := hM.pick (is := [4, 0, 1, 2, 3, 5]) (by decide) rfl
  dsimp only [List.filterMap_cons, List.filterMap_nil, List.getElem?_cons_zero, List.getElem?_cons_succ] at hM
  refine AtT.startA hM.tail hM 5 (by kernel_rfl) ?_
  clear hM
  intro wd hM
  have hS := hM.tail
  refine AtT.taked (i := 0) (v := ?_) (some 24) rfl rfl (by kernel_rfl) (by kernel_rfl) (by kernel_rfl) (by kernel_rfl) (fun _ _ _ h => h) (Or.inl ⟨by kernel_rfl, ?_⟩) hS ?_
  rotate_left
  · (intro wS hSw; (try dsimp only at hSw); have kr1 := (Mem.row hSw .here).cell; go_simp; (try rw [if_neg (by omega)]); try with_reducible rfl)
  simp only [Act.put, List.setIfInBounds_toArray, List.set_cons_zero, List.set_cons_succ]
  refine AtT.taked (i := 1) (v := ?_) (some 25) rfl rfl (by kernel_rfl) (by kernel_rfl) (by kernel_rfl) (by kernel_rfl) (fun _ _ _ h => h) (Or.inl ⟨by kernel_rfl, ?_⟩) hS ?_
  rotate_left
  · (intro wS hSw; (try dsimp only at hSw); go_simp; (try rw [if_neg (by omega)]); try with_reducible rfl)
  simp only [Act.put, List.setIfInBounds_toArray, List.set_cons_zero, List.set_cons_succ]
  refine AtT.only (i := 2) (by kernel_rfl) rfl rfl ?_
  intro K hK
  go_simp
  refine (copyPhase_any a4 n4 c4 ph _ (h4.ext hM.below)).mono ?_
  rintro e w3 ⟨a6, c6, rfl, hm⟩
  replace hM := hM.join hm
  clear hm
  (try simp only [World.size_alloc, World.size_setCell, World.heap_drewN, heapDrew, Nat.add_assoc, Nat.reduceAdd, List.setIfInBounds_toArray, List.set_cons_zero, List.set_cons_succ, List.cons_append, List.nil_append] at hM)
  try dsimp only
  refine hK.out _ _ (hM.tail.tail) ?_
  clear hK K hS
  have hS := hM.tail.tail
  refine AtT.taked (i := 3) (v := ?_) (some 27) rfl rfl (by kernel_rfl) (by kernel_rfl) (by kernel_rfl) (by kernel_rfl) (fun _ _ _ h => h) (Or.inl ⟨by kernel_rfl, ?_⟩) hS ?_
  rotate_left
  · (intro wS hSw; (try dsimp only at hSw); go_simp; (try rw [if_neg (by omega)]); try with_reducible rfl)
  simp only [Act.put, List.setIfInBounds_toArray, List.set_cons_zero, List.set_cons_succ]
  refine AtT.only (i := 4) (by kernel_rfl) rfl rfl ?_
  intro K hK
  have kk1 := (hM.row (.there .here)).cell
  have ff1 := (hM.row (.there .here)).free
  have ll1 := (hM.row (.there .here)).lt
  have kk2 := (hM.row (.there (.there .here))).cell
  have ff2 := (hM.row (.there (.there .here))).free
  have ll2 := (hM.row (.there (.there .here))).lt
  go_simp
  clear kk1 ff1 ll1 kk2 ff2 ll2
  refine hK.out _ _ (by apply Mem.tail; apply Mem.tail; (repeat' (first | with_reducible exact hM | with_reducible exact hMp | with_reducible apply Mem.drew | with_reducible apply Mem.drewN | with_reducible apply Mem.alloc | with_reducible apply Mem.set | with_reducible exact Sto.row | ((with_reducible refine Sto.rowEq2 ?_ ?_); omega; rfl) | ((with_reducible refine Sto.rowEq ?_); omega) | with_reducible apply Sto.int | with_reducible apply Sto.there | with_reducible assumption | (unfold I64; omega) | (with_reducible (have hMx := Mem.undrew hM; exact hMx)) | (with_reducible (have hMx := Mem.undrew hMp; exact hMx))))) ?_
  clear hK K hS
  apply Mem.atT
  · (repeat' (first | with_reducible exact hM | with_reducible exact hMp | with_reducible apply Mem.drew | with_reducible apply Mem.drewN | with_reducible apply Mem.alloc | with_reducible apply Mem.set | with_reducible exact Sto.row | ((with_reducible refine Sto.rowEq2 ?_ ?_); omega; rfl) | ((with_reducible refine Sto.rowEq ?_); omega) | with_reducible apply Sto.int | with_reducible apply Sto.there | with_reducible assumption | (unfold I64; omega) | (with_reducible (have hMx := Mem.undrew hM; exact hMx)) | (with_reducible (have hMx := Mem.undrew hMp; exact hMx))))
  clear hM
  intro hM
  (try simp only [World.size_alloc, World.size_setCell, World.heap_drewN, heapDrew, Nat.add_assoc, Nat.reduceAdd, List.setIfInBounds_toArray, List.set_cons_zero, List.set_cons_succ, List.cons_append, List.nil_append] at hM)
  have hS := hM.tail.tail
  refine AtT.last (by kernel_rfl) rfl (by kernel_rfl) ?_
  intro K hK
  clear hS
  go_simp
  refine hK.out _ _ ?_
  clear hK K
  obtain ⟨k1, f1, l1⟩ := hM.row (.there .here)
  go_wp2
  rw [HR.out]
  refine bodyPost_ret (v := .tuple #[conV i.W i.H b1 n1 d1 b2 n2 d2 b3 n3 d3 i.t a6 n4 c6 none 0 0 ⟨#[]⟩ ⟨#[]⟩ 0, .bool true]) (by simp [results, Try.results10, go_sem, k1]) rfl ⟨b1, n1, d1, b2, n2, d2, b3, n3, d3, a6, n4, c6, none, 0, 0, rfl, ?_⟩
  apply Mem.nilE4
  apply Mem.pick (is := [3, 4, 5, 0])
  · (repeat' (first | with_reducible exact hM | with_reducible exact hMp | with_reducible apply Mem.drew | with_reducible apply Mem.drewN | with_reducible apply Mem.alloc | with_reducible apply Mem.set | with_reducible exact Sto.row | ((with_reducible refine Sto.rowEq2 ?_ ?_); omega; rfl) | ((with_reducible refine Sto.rowEq ?_); omega) | with_reducible apply Sto.int | with_reducible apply Sto.there | with_reducible assumption | (unfold I64; omega) | (with_reducible (have hMx := Mem.undrew hM; exact hMx)) | (with_reducible (have hMx := Mem.undrew hMp; exact hMx))))
  · decide
  · rfl
set_option maxRecDepth 100000 in
set_option maxHeartbeats 8000000 in
theorem specNewCon_any (W H : Int) (a : Option Addr) (n c : Nat) (xs : List Int) (a' : Option Addr) (n' c' : Nat) (cells : List Int) (a4 : Option Addr) (n4 c4 : Nat) (ph : List PhaseI) (w : World) (h : Ints w a n c xs) (h' : Ints w a' n' c' cells) (h4 : Rd FPhase w a4 n4 c4 ph) :
    Calls Try.prog 6 #[.agg #[.int .i64 W, .int .i64 H, .slice a n c], .slice a' n' c', .slice a4 n4 c4] w (ConRes w (newConR W H xs cells ph)) := by
  have hM := Mem.start w
  obtain ⟨⟨i, ok⟩, hq⟩ : ∃ r, newR W H xs cells = r := ⟨_, rfl⟩
  obtain ⟨q, hq2⟩ : ∃ q, phasesB ph = q := ⟨_, rfl⟩
  have HF := Lib.hid (show newConR W H xs cells ph = if ok && q then ⟨⟨i, ph, [], ⟨#[]⟩, ⟨#[]⟩, 0⟩, true⟩ else ⟨ConI.zero, false⟩ by rw [newConR, hq, hq2])
  have HQ := Lib.hid hq; have HQ2 := Lib.hid hq2
  cases ok
  · clear hq hq2
    have HR := Lib.hid (show newConR W H xs cells ph = ⟨ConI.zero, false⟩ from HF.out)
    go_enter Try.func6, Try.ntmps6
    go_wp2_with fail
    apply Mem.atA
    · (repeat' (first | with_reducible exact hM | with_reducible exact hMp | with_reducible apply Mem.drew | with_reducible apply Mem.drewN | with_reducible apply Mem.alloc | with_reducible apply Mem.set | with_reducible exact Sto.row | ((with_reducible refine Sto.rowEq2 ?_ ?_); omega; rfl) | ((with_reducible refine Sto.rowEq ?_); omega) | with_reducible apply Sto.int | with_reducible apply Sto.there | with_reducible assumption | (unfold I64; omega) | (with_reducible (have hMx := Mem.undrew hM; exact hMx)) | (with_reducible (have hMx := Mem.undrew hMp; exact hMx))))
    clear hM
    intro wst hM
    (try simp only [World.size_alloc, World.size_setCell, World.heap_drewN, heapDrew, Nat.add_assoc, Nat.reduceAdd, List.setIfInBounds_toArray, List.set_cons_zero, List.set_cons_succ, List.cons_append, List.nil_append] at hM)
    (first | refine (specNewInc_any W H a n c xs a' n' c' cells _ (h.ext hM.below) (h'.ext hM.below)).mono ?_)
    rw [HQ.out]
    rintro e wc ⟨b1, n1, d1, b2, n2, d2, b3, n3, d3, rfl, hm⟩
    replace hM := hM.join hm
    clear hm
    (try simp only [World.size_alloc, World.size_setCell, World.heap_drewN, heapDrew, Nat.add_assoc, Nat.reduceAdd, List.setIfInBounds_toArray, List.set_cons_zero, List.set_cons_succ, List.cons_append, List.nil_append] at hM)
    go_upto_region 2 with fail
    apply Mem.atWpA
    · (repeat' (first | with_reducible exact hM | with_reducible exact hMp | with_reducible apply Mem.drew | with_reducible apply Mem.drewN | with_reducible apply Mem.alloc | with_reducible apply Mem.set | with_reducible exact Sto.row | ((with_reducible refine Sto.rowEq2 ?_ ?_); omega; rfl) | ((with_reducible refine Sto.rowEq ?_); omega) | with_reducible apply Sto.int | with_reducible apply Sto.there | with_reducible assumption | (unfold I64; omega) | (with_reducible (have hMx := Mem.undrew hM; exact hMx)) | (with_reducible (have hMx := Mem.undrew hMp; exact hMx))))
    clear hM
    intro wst hM
    (try simp only [World.size_alloc, World.size_setCell, World.heap_drewN, heapDrew, Nat.add_assoc, Nat.reduceAdd, List.setIfInBounds_toArray, List.set_cons_zero, List.set_cons_succ, List.cons_append, List.nil_append] at hM)
    obtain ⟨k4, f4, l4⟩ := hM.row (.there (.there (.there (.there .here))))
    go_wp2
    rw [HR.out]
    refine bodyPost_ret (v := .tuple #[conV 0 0 none 0 0 none 0 0 none 0 0 0 none 0 0 none 0 0 ⟨#[]⟩ ⟨#[]⟩ 0, .bool false]) (by simp [results, Try.results6, go_sem, k4]) rfl ⟨none, 0, 0, none, 0, 0, none, 0, 0, none, 0, 0, none, 0, 0, rfl, ?_⟩
    apply Mem.nil5
    (repeat' (first | with_reducible exact hM | with_reducible exact hMp | with_reducible apply Mem.drew | with_reducible apply Mem.drewN | with_reducible apply Mem.alloc | with_reducible apply Mem.set | with_reducible exact Sto.row | ((with_reducible refine Sto.rowEq2 ?_ ?_); omega; rfl) | ((with_reducible refine Sto.rowEq ?_); omega) | with_reducible apply Sto.int | with_reducible apply Sto.there | with_reducible assumption | (unfold I64; omega) | (with_reducible (have hMx := Mem.undrew hM; exact hMx)) | (with_reducible (have hMx := Mem.undrew hMp; exact hMx))))
  cases q
  · clear hq hq2
    have HR := Lib.hid (show newConR W H xs cells ph = ⟨ConI.zero, false⟩ from HF.out)
    go_enter Try.func6, Try.ntmps6
    go_wp2_with fail
    apply Mem.atA
    · (repeat' (first | with_reducible exact hM | with_reducible exact hMp | with_reducible apply Mem.drew | with_reducible apply Mem.drewN | with_reducible apply Mem.alloc | with_reducible apply Mem.set | with_reducible exact Sto.row | ((with_reducible refine Sto.rowEq2 ?_ ?_); omega; rfl) | ((with_reducible refine Sto.rowEq ?_); omega) | with_reducible apply Sto.int | with_reducible apply Sto.there | with_reducible assumption | (unfold I64; omega) | (with_reducible (have hMx := Mem.undrew hM; exact hMx)) | (with_reducible (have hMx := Mem.undrew hMp; exact hMx))))
    clear hM
    intro wst hM
    (try simp only [World.size_alloc, World.size_setCell, World.heap_drewN, heapDrew, Nat.add_assoc, Nat.reduceAdd, List.setIfInBounds_toArray, List.set_cons_zero, List.set_cons_succ, List.cons_append, List.nil_append] at hM)
    (first | refine (specNewInc_any W H a n c xs a' n' c' cells _ (h.ext hM.below) (h'.ext hM.below)).mono ?_)
    rw [HQ.out]
    rintro e wc ⟨b1, n1, d1, b2, n2, d2, b3, n3, d3, rfl, hm⟩
    replace hM := hM.join hm
    clear hm
    (try simp only [World.size_alloc, World.size_setCell, World.heap_drewN, heapDrew, Nat.add_assoc, Nat.reduceAdd, List.setIfInBounds_toArray, List.set_cons_zero, List.set_cons_succ, List.cons_append, List.nil_append] at hM)
    go_wp2_with fail
    apply Mem.atA
    · (repeat' (first | with_reducible exact hM | with_reducible exact hMp | with_reducible apply Mem.drew | with_reducible apply Mem.drewN | with_reducible apply Mem.alloc | with_reducible apply Mem.set | with_reducible exact Sto.row | ((with_reducible refine Sto.rowEq2 ?_ ?_); omega; rfl) | ((with_reducible refine Sto.rowEq ?_); omega) | with_reducible apply Sto.int | with_reducible apply Sto.there | with_reducible assumption | (unfold I64; omega) | (with_reducible (have hMx := Mem.undrew hM; exact hMx)) | (with_reducible (have hMx := Mem.undrew hMp; exact hMx))))
    clear hM
    intro wst hM
    (try simp only [World.size_alloc, World.size_setCell, World.heap_drewN, heapDrew, Nat.add_assoc, Nat.reduceAdd, List.setIfInBounds_toArray, List.set_cons_zero, List.set_cons_succ, List.cons_append, List.nil_append] at hM)
    (first | refine (l4Phases_any a4 n4 c4 ph _ (h4.ext hM.below)).mono ?_)
    rw [HQ2.out]
    rintro e wc8 ⟨rfl, hb⟩
    replace hM := hM.ext hb
    clear hb
    obtain ⟨k4, f4, l4⟩ := hM.row (.there (.there (.there (.there .here))))
    go_wp2
    rw [HR.out]
    refine bodyPost_ret (v := .tuple #[conV 0 0 none 0 0 none 0 0 none 0 0 0 none 0 0 none 0 0 ⟨#[]⟩ ⟨#[]⟩ 0, .bool false]) (by simp [results, Try.results6, go_sem, k4]) rfl ⟨none, 0, 0, none, 0, 0, none, 0, 0, none, 0, 0, none, 0, 0, rfl, ?_⟩
    apply Mem.nil5
    (repeat' (first | with_reducible exact hM | with_reducible exact hMp | with_reducible apply Mem.drew | with_reducible apply Mem.drewN | with_reducible apply Mem.alloc | with_reducible apply Mem.set | with_reducible exact Sto.row | ((with_reducible refine Sto.rowEq2 ?_ ?_); omega; rfl) | ((with_reducible refine Sto.rowEq ?_); omega) | with_reducible apply Sto.int | with_reducible apply Sto.there | with_reducible assumption | (unfold I64; omega) | (with_reducible (have hMx := Mem.undrew hM; exact hMx)) | (with_reducible (have hMx := Mem.undrew hMp; exact hMx))))
  have HR := Lib.hid (show newConR W H xs cells ph = ⟨⟨i, ph, [], ⟨#[]⟩, ⟨#[]⟩, 0⟩, true⟩ from HF.out)
  obtain ⟨hg, rfl⟩ := newR_true hq
  clear hq hq2
  obtain ⟨Wn, Hn, rfl, rfl, p1, p2, p3, p4, hlen, h25, -⟩ := goodB_true hg
  have hxp : 0 < xs.length := by rw [hlen]; exact Nat.mul_pos p1 p3
  have hfl : (fireL xs cells).length = xs.length := by unfold fireL; rw [fireTo_length, List.length_replicate]
  have HFL := Lib.hid hfl
  clear hg hlen hfl
  go_enter Try.func6, Try.ntmps6
  go_wp2_with fail
  apply Mem.atA
  · (repeat' (first | with_reducible exact hM | with_reducible exact hMp | with_reducible apply Mem.drew | with_reducible apply Mem.drewN | with_reducible apply Mem.alloc | with_reducible apply Mem.set | with_reducible exact Sto.row | ((with_reducible refine Sto.rowEq2 ?_ ?_); omega; rfl) | ((with_reducible refine Sto.rowEq ?_); omega) | with_reducible apply Sto.int | with_reducible apply Sto.there | with_reducible assumption | (unfold I64; omega) | (with_reducible (have hMx := Mem.undrew hM; exact hMx)) | (with_reducible (have hMx := Mem.undrew hMp; exact hMx))))
  clear hM
  intro wst hM
  (try simp only [World.size_alloc, World.size_setCell, World.heap_drewN, heapDrew, Nat.add_assoc, Nat.reduceAdd, List.setIfInBounds_toArray, List.set_cons_zero, List.set_cons_succ, List.cons_append, List.nil_append] at hM)
  (first | refine (specNewInc_any Wn Hn a n c xs a' n' c' cells _ (h.ext hM.below) (h'.ext hM.below)).mono ?_)
  rw [HQ.out]
  rintro e wc ⟨b1, n1, d1, b2, n2, d2, b3, n3, d3, rfl, hm⟩
  replace hM := hM.join hm
  clear hm
  (try simp only [World.size_alloc, World.size_setCell, World.heap_drewN, heapDrew, Nat.add_assoc, Nat.reduceAdd, List.setIfInBounds_toArray, List.set_cons_zero, List.set_cons_succ, List.cons_append, List.nil_append] at hM)
  dsimp only at hM ⊢
  obtain rfl : xs.length = n1 := (hM.ints .here).len
  obtain rfl : xs.length = n2 := by rw [← HFL.out]; exact (hM.ints (.there .here)).len
  obtain rfl : xs.length = n3 := by have := (hM.ints (.there (.there .here))).len; rwa [List.length_replicate] at this
  go_wp2_with fail
  apply Mem.atA
  · (repeat' (first | with_reducible exact hM | with_reducible exact hMp | with_reducible apply Mem.drew | with_reducible apply Mem.drewN | with_reducible apply Mem.alloc | with_reducible apply Mem.set | with_reducible exact Sto.row | ((with_reducible refine Sto.rowEq2 ?_ ?_); omega; rfl) | ((with_reducible refine Sto.rowEq ?_); omega) | with_reducible apply Sto.int | with_reducible apply Sto.there | with_reducible assumption | (unfold I64; omega) | (with_reducible (have hMx := Mem.undrew hM; exact hMx)) | (with_reducible (have hMx := Mem.undrew hMp; exact hMx))))
  clear hM
  intro wst hM
  (try simp only [World.size_alloc, World.size_setCell, World.heap_drewN, heapDrew, Nat.add_assoc, Nat.reduceAdd, List.setIfInBounds_toArray, List.set_cons_zero, List.set_cons_succ, List.cons_append, List.nil_append] at hM)
  (first | refine (l4Phases_any a4 n4 c4 ph _ (h4.ext hM.below)).mono ?_)
  rw [HQ2.out]
  rintro e wc10 ⟨rfl, hb⟩
  replace hM := hM.ext hb
  clear hb
  obtain ⟨k0, f0, l0⟩ := hM.row .here
  go_wp2_with fail
  clear k0 f0 l0
  apply Mem.atA
  · (repeat' (first | with_reducible exact hM | with_reducible exact hMp | with_reducible apply Mem.drew | with_reducible apply Mem.drewN | with_reducible apply Mem.alloc | with_reducible apply Mem.set | with_reducible exact Sto.row | ((with_reducible refine Sto.rowEq2 ?_ ?_); omega; rfl) | ((with_reducible refine Sto.rowEq ?_); omega) | with_reducible apply Sto.int | with_reducible apply Sto.there | with_reducible assumption | (unfold I64; omega) | (with_reducible (have hMx := Mem.undrew hM; exact hMx)) | (with_reducible (have hMx := Mem.undrew hMp; exact hMx))))
  clear hM
  intro wst hM
  (try simp only [World.size_alloc, World.size_setCell, World.heap_drewN, heapDrew, Nat.add_assoc, Nat.reduceAdd, List.setIfInBounds_toArray, List.set_cons_zero, List.set_cons_succ, List.cons_append, List.nil_append] at hM)
  (first | refine (l28Own_any Wn Hn b1 xs.length d1 xs b2 d2 (fireL xs cells) b3 d3 (List.replicate xs.length 0) 0 a4 n4 c4 ph none 0 0 [] ⟨#[]⟩ ⟨#[]⟩ 0 _ (hM.intsR (.there .here)) (hM.intsR (.there (.there .here))) (hM.intsR (.there (.there (.there .here)))) (h4.ext hM.below) (Ints.zeroI (by unfold maxLen; omega) (by simp)) hxp h25).mono ?_)
  rintro e wd ⟨e1, f1, e2, f2, e3, f3, e4, f4, e5, f5, rfl, hm⟩
  replace hM := hM.join hm
  clear hm
  (try simp only [World.size_alloc, World.size_setCell, World.heap_drewN, heapDrew, Nat.add_assoc, Nat.reduceAdd, List.setIfInBounds_toArray, List.set_cons_zero, List.set_cons_succ, List.cons_append, List.nil_append] at hM)
  obtain ⟨k9, g9, l9⟩ := hM.row (.there (.there (.there (.there (.there (.there (.there (.there (.there .here)))))))))
  go_wp2
  rw [HR.out]
  refine bodyPost_ret (v := .tuple #[conV Wn Hn e1 xs.length f1 e2 xs.length f2 e3 xs.length f3 0 e4 n4 f4 e5 0 f5 ⟨#[]⟩ ⟨#[]⟩ 0, .bool true]) (by simp [results, Try.results6, go_sem, k9]) rfl ⟨e1, xs.length, f1, e2, xs.length, f2, e3, xs.length, f3, e4, n4, f4, e5, 0, f5, rfl, ?_⟩
  apply Mem.pick (is := [0, 1, 2, 3, 4])
  · (repeat' (first | with_reducible exact hM | with_reducible exact hMp | with_reducible apply Mem.drew | with_reducible apply Mem.drewN | with_reducible apply Mem.alloc | with_reducible apply Mem.set | with_reducible exact Sto.row | ((with_reducible refine Sto.rowEq2 ?_ ?_); omega; rfl) | ((with_reducible refine Sto.rowEq ?_); omega) | with_reducible apply Sto.int | with_reducible apply Sto.there | with_reducible assumption | (unfold I64; omega) | (with_reducible (have hMx := Mem.undrew hM; exact hMx)) | (with_reducible (have hMx := Mem.undrew hMp; exact hMx))))
  · decide
  · rfl
end Go.Proofs.Ytojfbcgfeojdfaa
