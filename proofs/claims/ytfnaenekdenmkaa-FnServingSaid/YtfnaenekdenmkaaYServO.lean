/-
  ServeOrders, ServingOrder: both sides.
-/
import Derived.Test.YtfnaenekdenmkaaYOpnO
/-
  ServeOrders, ServingOrder: both sides.
-/
namespace Go.Proofs.Ytfnaenekdenmkaa
set_option linter.unusedSimpArgs false
set_option linter.unusedVariables false
open Go.RowKit

theorem Mem.two0S {α : Type} {F : Fl α} {E : TypeId} {B : Nat} {w0 w : World} {G : List Ent} {b1 b2 : Nat} (h : Mem B w0 w (rowE b2 E #[] :: rowE b1 3 #[] :: G)) : Mem B w0 w [intE (some ⟨b1, 0, none⟩) 0 0 [], owE F E (some ⟨b2, 0, none⟩) 0 0 []] := by
  have h1 := Mem.toOwR (F := F) h
  have h2 := h1.toInts (xs := []) (.there .here) rfl (by simp) (by simp)
  exact Mem.pick (is := [1, 0]) h2 (by decide) rfl
theorem Mem.nilIS {B : Nat} {w0 w : World} {G : List Ent} (h : Mem B w0 w G) : Mem B w0 w (intE none 0 0 [] :: G) := by
  refine ⟨h.below, h.size, fun e he => ?_, List.pairwise_cons.2 ⟨fun e _ k hk => ?_, h.apart⟩⟩
  · rcases List.mem_cons.1 he with rfl | he
    · exact ⟨rfl, by omega, by simp, World.ownsRow_nil _ _ _ _⟩
    · exact h.ents e he
  · simp [intE, blockOf] at hk
def gotR (os : List OrderI) (ss : List StockI) : List Int := if openB os ss then gotL os ss else []
def leftR (os : List OrderI) (ss : List StockI) : List StockI := if openB os ss then leftL os ss else []
theorem leftL_length (os : List OrderI) (ss : List StockI) : (leftL os ss).length = ss.length := servK_len2 os ss _

set_option maxRecDepth 100000 in
set_option maxHeartbeats 4000000 in
theorem implServeO_any (a1 : Option Addr) (n1 c1 : Nat) (os : List OrderI) (a2 : Option Addr) (n2 c2 : Nat) (ss : List StockI) (w : World) (h1 : Rd FOrder w a1 n1 c1 os) (h2 : Rd FStock w a2 n2 c2 ss) :
    Calls Try.prog 22 #[.slice a1 n1 c1, .slice a2 n2 c2] w fun e w' => ∃ a' c' a'' c'', e = .returned (.tuple #[.slice a' (gotR os ss).length c', .slice a'' (leftR os ss).length c'', .bool (openB os ss)]) ∧ Mem w.heap.size w w' [intE a' (gotR os ss).length c' (gotR os ss), owE FStock 46 a'' (leftR os ss).length c'' (leftR os ss)] := by
  have hM := Mem.start w
  cases ho : ordersB os
  · have e1 : openB os ss = false := by rw [openB, ho]; rfl
    have e2 : gotR os ss = [] := by rw [gotR, e1]; rfl
    have e3 : leftR os ss = [] := by rw [leftR, e1]; rfl
    rw [e1, e2, e3]
    have HO := Lib.hid ho; clear ho e1 e2 e3
    go_enter Try.func22, Try.ntmps22
    go_wp2_with fail
    apply Mem.atA
    · (repeat' (first | with_reducible exact hM | with_reducible exact hMp | with_reducible apply Mem.drew | with_reducible apply Mem.drewN | with_reducible apply Mem.alloc | with_reducible apply Mem.set | with_reducible exact Sto.row | ((with_reducible refine Sto.rowEq2 ?_ ?_); omega; rfl) | ((with_reducible refine Sto.rowEq ?_); omega) | with_reducible apply Sto.int | with_reducible apply Sto.there | with_reducible assumption | (unfold I64; omega) | (with_reducible (have hMx := Mem.undrew hM; exact hMx)) | (with_reducible (have hMx := Mem.undrew hMp; exact hMx))))
    clear hM
    intro wst hM
    (try simp only [World.size_alloc, World.size_setCell, World.heap_drewN, heapDrew, Nat.add_assoc, Nat.reduceAdd, List.setIfInBounds_toArray, List.set_cons_zero, List.set_cons_succ, List.cons_append, List.nil_append] at hM)
    (first | refine (areOrders_any a1 n1 c1 os _ (h1.ext hM.below)).mono ?_)
    rw [HO.out]
    rintro e wc1 ⟨rfl, hb⟩
    replace hM := hM.ext hb
    clear hb
    go_wp2
    go_ret3
    exact ⟨none, 0, none, 0, rfl, by apply Mem.nilIS; apply Mem.nilOwO; (repeat' (first | with_reducible exact hM | with_reducible exact hMp | with_reducible apply Mem.drew | with_reducible apply Mem.drewN | with_reducible apply Mem.alloc | with_reducible apply Mem.set | with_reducible exact Sto.row | ((with_reducible refine Sto.rowEq2 ?_ ?_); omega; rfl) | ((with_reducible refine Sto.rowEq ?_); omega) | with_reducible apply Sto.int | with_reducible apply Sto.there | with_reducible assumption | (unfold I64; omega) | (with_reducible (have hMx := Mem.undrew hM; exact hMx)) | (with_reducible (have hMx := Mem.undrew hMp; exact hMx))))⟩
  cases hs : storeB ss
  · have e1 : openB os ss = false := by rw [openB, ho, hs]; rfl
    have e2 : gotR os ss = [] := by rw [gotR, e1]; rfl
    have e3 : leftR os ss = [] := by rw [leftR, e1]; rfl
    rw [e1, e2, e3]
    have HO := Lib.hid ho; have HS := Lib.hid hs
    clear ho hs e1 e2 e3
    go_enter Try.func22, Try.ntmps22
    go_wp2_with fail
    apply Mem.atA
    · (repeat' (first | with_reducible exact hM | with_reducible exact hMp | with_reducible apply Mem.drew | with_reducible apply Mem.drewN | with_reducible apply Mem.alloc | with_reducible apply Mem.set | with_reducible exact Sto.row | ((with_reducible refine Sto.rowEq2 ?_ ?_); omega; rfl) | ((with_reducible refine Sto.rowEq ?_); omega) | with_reducible apply Sto.int | with_reducible apply Sto.there | with_reducible assumption | (unfold I64; omega) | (with_reducible (have hMx := Mem.undrew hM; exact hMx)) | (with_reducible (have hMx := Mem.undrew hMp; exact hMx))))
    clear hM
    intro wst hM
    (try simp only [World.size_alloc, World.size_setCell, World.heap_drewN, heapDrew, Nat.add_assoc, Nat.reduceAdd, List.setIfInBounds_toArray, List.set_cons_zero, List.set_cons_succ, List.cons_append, List.nil_append] at hM)
    (first | refine (areOrders_any a1 n1 c1 os _ (h1.ext hM.below)).mono ?_)
    rw [HO.out]
    rintro e wc2 ⟨rfl, hb⟩
    replace hM := hM.ext hb
    clear hb
    go_wp2_with fail
    apply Mem.atA
    · (repeat' (first | with_reducible exact hM | with_reducible exact hMp | with_reducible apply Mem.drew | with_reducible apply Mem.drewN | with_reducible apply Mem.alloc | with_reducible apply Mem.set | with_reducible exact Sto.row | ((with_reducible refine Sto.rowEq2 ?_ ?_); omega; rfl) | ((with_reducible refine Sto.rowEq ?_); omega) | with_reducible apply Sto.int | with_reducible apply Sto.there | with_reducible assumption | (unfold I64; omega) | (with_reducible (have hMx := Mem.undrew hM; exact hMx)) | (with_reducible (have hMx := Mem.undrew hMp; exact hMx))))
    clear hM
    intro wst hM
    (try simp only [World.size_alloc, World.size_setCell, World.heap_drewN, heapDrew, Nat.add_assoc, Nat.reduceAdd, List.setIfInBounds_toArray, List.set_cons_zero, List.set_cons_succ, List.cons_append, List.nil_append] at hM)
    (first | refine (isStore_any a2 n2 c2 ss _ (h2.ext hM.below)).mono ?_)
    rw [HS.out]
    rintro e wc3 ⟨rfl, hb⟩
    replace hM := hM.ext hb
    clear hb
    go_wp2
    go_ret3
    exact ⟨none, 0, none, 0, rfl, by apply Mem.nilIS; apply Mem.nilOwO; (repeat' (first | with_reducible exact hM | with_reducible exact hMp | with_reducible apply Mem.drew | with_reducible apply Mem.drewN | with_reducible apply Mem.alloc | with_reducible apply Mem.set | with_reducible exact Sto.row | ((with_reducible refine Sto.rowEq2 ?_ ?_); omega; rfl) | ((with_reducible refine Sto.rowEq ?_); omega) | with_reducible apply Sto.int | with_reducible apply Sto.there | with_reducible assumption | (unfold I64; omega) | (with_reducible (have hMx := Mem.undrew hM; exact hMx)) | (with_reducible (have hMx := Mem.undrew hMp; exact hMx))))⟩
  have e1 : openB os ss = true := by rw [openB, ho, hs]; rfl
  have e2 : gotR os ss = gotL os ss := by rw [gotR, e1]; rfl
  have e3 : leftR os ss = leftL os ss := by rw [leftR, e1]; rfl
  have l1 : (gotR os ss).length = n1 := by rw [e2, gotL_length, h1.len]
  have l2 : (leftR os ss).length = n2 := by rw [e3, leftL_length, h2.len]
  rw [l1, l2, e1, e2, e3]
  have HO := Lib.hid ho; have HS := Lib.hid hs
  clear ho hs e1 e2 e3 l1 l2
  go_enter Try.func22, Try.ntmps22
  go_wp2_with fail
  apply Mem.atA
  · (repeat' (first | with_reducible exact hM | with_reducible exact hMp | with_reducible apply Mem.drew | with_reducible apply Mem.drewN | with_reducible apply Mem.alloc | with_reducible apply Mem.set | with_reducible exact Sto.row | ((with_reducible refine Sto.rowEq2 ?_ ?_); omega; rfl) | ((with_reducible refine Sto.rowEq ?_); omega) | with_reducible apply Sto.int | with_reducible apply Sto.there | with_reducible assumption | (unfold I64; omega) | (with_reducible (have hMx := Mem.undrew hM; exact hMx)) | (with_reducible (have hMx := Mem.undrew hMp; exact hMx))))
  clear hM
  intro wst hM
  (try simp only [World.size_alloc, World.size_setCell, World.heap_drewN, heapDrew, Nat.add_assoc, Nat.reduceAdd, List.setIfInBounds_toArray, List.set_cons_zero, List.set_cons_succ, List.cons_append, List.nil_append] at hM)
  (first | refine (areOrders_any a1 n1 c1 os _ (h1.ext hM.below)).mono ?_)
  rw [HO.out]
  rintro e wc4 ⟨rfl, hb⟩
  replace hM := hM.ext hb
  clear hb
  go_wp2_with fail
  apply Mem.atA
  · (repeat' (first | with_reducible exact hM | with_reducible exact hMp | with_reducible apply Mem.drew | with_reducible apply Mem.drewN | with_reducible apply Mem.alloc | with_reducible apply Mem.set | with_reducible exact Sto.row | ((with_reducible refine Sto.rowEq2 ?_ ?_); omega; rfl) | ((with_reducible refine Sto.rowEq ?_); omega) | with_reducible apply Sto.int | with_reducible apply Sto.there | with_reducible assumption | (unfold I64; omega) | (with_reducible (have hMx := Mem.undrew hM; exact hMx)) | (with_reducible (have hMx := Mem.undrew hMp; exact hMx))))
  clear hM
  intro wst hM
  (try simp only [World.size_alloc, World.size_setCell, World.heap_drewN, heapDrew, Nat.add_assoc, Nat.reduceAdd, List.setIfInBounds_toArray, List.set_cons_zero, List.set_cons_succ, List.cons_append, List.nil_append] at hM)
  (first | refine (isStore_any a2 n2 c2 ss _ (h2.ext hM.below)).mono ?_)
  rw [HS.out]
  rintro e wc5 ⟨rfl, hb⟩
  replace hM := hM.ext hb
  clear hb
  go_wp2_with fail
  apply Mem.atA
  · (repeat' (first | with_reducible exact hM | with_reducible exact hMp | with_reducible apply Mem.drew | with_reducible apply Mem.drewN | with_reducible apply Mem.alloc | with_reducible apply Mem.set | with_reducible exact Sto.row | ((with_reducible refine Sto.rowEq2 ?_ ?_); omega; rfl) | ((with_reducible refine Sto.rowEq ?_); omega) | with_reducible apply Sto.int | with_reducible apply Sto.there | with_reducible assumption | (unfold I64; omega) | (with_reducible (have hMx := Mem.undrew hM; exact hMx)) | (with_reducible (have hMx := Mem.undrew hMp; exact hMx))))
  clear hM
  intro wst hM
  (try simp only [World.size_alloc, World.size_setCell, World.heap_drewN, heapDrew, Nat.add_assoc, Nat.reduceAdd, List.setIfInBounds_toArray, List.set_cons_zero, List.set_cons_succ, List.cons_append, List.nil_append] at hM)
  (first | refine (serve_any a1 n1 c1 os a2 n2 c2 ss _ (h1.ext hM.below) (h2.ext hM.below) HO.out HS.out).mono ?_)
  rintro e wc6 ⟨a5, c5, a6, c6, rfl, hm⟩
  replace hM := hM.join hm
  clear hm
  (try simp only [World.size_alloc, World.size_setCell, World.heap_drewN, heapDrew, Nat.add_assoc, Nat.reduceAdd, List.setIfInBounds_toArray, List.set_cons_zero, List.set_cons_succ, List.cons_append, List.nil_append] at hM)
  go_wp2
  go_ret3
  exact ⟨a5, c5, a6, c6, rfl, hM⟩
set_option maxRecDepth 100000 in
set_option maxHeartbeats 4000000 in
theorem specServeO_any (a1 : Option Addr) (n1 c1 : Nat) (os : List OrderI) (a2 : Option Addr) (n2 c2 : Nat) (ss : List StockI) (w : World) (h1 : Rd FOrder w a1 n1 c1 os) (h2 : Rd FStock w a2 n2 c2 ss) :
    Calls Try.prog 23 #[.slice a1 n1 c1, .slice a2 n2 c2] w fun e w' => ∃ a' c' a'' c'', e = .returned (.tuple #[.slice a' (gotR os ss).length c', .slice a'' (leftR os ss).length c'', .bool (openB os ss)]) ∧ Mem w.heap.size w w' [intE a' (gotR os ss).length c' (gotR os ss), owE FStock 46 a'' (leftR os ss).length c'' (leftR os ss)] := by
  have hM := Mem.start w
  cases ho : ordersB os
  · have e1 : openB os ss = false := by rw [openB, ho]; rfl
    have e2 : gotR os ss = [] := by rw [gotR, e1]; rfl
    have e3 : leftR os ss = [] := by rw [leftR, e1]; rfl
    rw [e1, e2, e3]
    have HO := Lib.hid ho; clear ho e1 e2 e3
    go_enter Try.func23, Try.ntmps23
    go_wp2_with fail
    apply Mem.atA
    · (repeat' (first | with_reducible exact hM | with_reducible exact hMp | with_reducible apply Mem.drew | with_reducible apply Mem.drewN | with_reducible apply Mem.alloc | with_reducible apply Mem.set | with_reducible exact Sto.row | ((with_reducible refine Sto.rowEq2 ?_ ?_); omega; rfl) | ((with_reducible refine Sto.rowEq ?_); omega) | with_reducible apply Sto.int | with_reducible apply Sto.there | with_reducible assumption | (unfold I64; omega) | (with_reducible (have hMx := Mem.undrew hM; exact hMx)) | (with_reducible (have hMx := Mem.undrew hMp; exact hMx))))
    clear hM
    intro wst hM
    (try simp only [World.size_alloc, World.size_setCell, World.heap_drewN, heapDrew, Nat.add_assoc, Nat.reduceAdd, List.setIfInBounds_toArray, List.set_cons_zero, List.set_cons_succ, List.cons_append, List.nil_append] at hM)
    (first | refine (l15Good_any a1 n1 c1 os _ (h1.ext hM.below)).mono ?_)
    rw [HO.out]
    rintro e wc7 ⟨rfl, hb⟩
    replace hM := hM.ext hb
    clear hb
    go_wp2
    go_ret3
    refine ⟨_, _, _, _, rfl, ?_⟩
    apply Mem.two0S (G := [])
    apply Mem.cast
    · (repeat' (first | with_reducible exact hM | with_reducible exact hMp | with_reducible apply Mem.drew | with_reducible apply Mem.drewN | with_reducible apply Mem.alloc | with_reducible apply Mem.set | with_reducible exact Sto.row | ((with_reducible refine Sto.rowEq2 ?_ ?_); omega; rfl) | ((with_reducible refine Sto.rowEq ?_); omega) | with_reducible apply Sto.int | with_reducible apply Sto.there | with_reducible assumption | (unfold I64; omega) | (with_reducible (have hMx := Mem.undrew hM; exact hMx)) | (with_reducible (have hMx := Mem.undrew hMp; exact hMx))))
    · simp only [World.size_alloc]
  cases hs : storeB ss
  · have e1 : openB os ss = false := by rw [openB, ho, hs]; rfl
    have e2 : gotR os ss = [] := by rw [gotR, e1]; rfl
    have e3 : leftR os ss = [] := by rw [leftR, e1]; rfl
    rw [e1, e2, e3]
    have HO := Lib.hid ho; have HS := Lib.hid hs
    clear ho hs e1 e2 e3
    go_enter Try.func23, Try.ntmps23
    go_wp2_with fail
    apply Mem.atA
    · (repeat' (first | with_reducible exact hM | with_reducible exact hMp | with_reducible apply Mem.drew | with_reducible apply Mem.drewN | with_reducible apply Mem.alloc | with_reducible apply Mem.set | with_reducible exact Sto.row | ((with_reducible refine Sto.rowEq2 ?_ ?_); omega; rfl) | ((with_reducible refine Sto.rowEq ?_); omega) | with_reducible apply Sto.int | with_reducible apply Sto.there | with_reducible assumption | (unfold I64; omega) | (with_reducible (have hMx := Mem.undrew hM; exact hMx)) | (with_reducible (have hMx := Mem.undrew hMp; exact hMx))))
    clear hM
    intro wst hM
    (try simp only [World.size_alloc, World.size_setCell, World.heap_drewN, heapDrew, Nat.add_assoc, Nat.reduceAdd, List.setIfInBounds_toArray, List.set_cons_zero, List.set_cons_succ, List.cons_append, List.nil_append] at hM)
    (first | refine (l15Good_any a1 n1 c1 os _ (h1.ext hM.below)).mono ?_)
    rw [HO.out]
    rintro e wc8 ⟨rfl, hb⟩
    replace hM := hM.ext hb
    clear hb
    go_wp2_with fail
    apply Mem.atA
    · (repeat' (first | with_reducible exact hM | with_reducible exact hMp | with_reducible apply Mem.drew | with_reducible apply Mem.drewN | with_reducible apply Mem.alloc | with_reducible apply Mem.set | with_reducible exact Sto.row | ((with_reducible refine Sto.rowEq2 ?_ ?_); omega; rfl) | ((with_reducible refine Sto.rowEq ?_); omega) | with_reducible apply Sto.int | with_reducible apply Sto.there | with_reducible assumption | (unfold I64; omega) | (with_reducible (have hMx := Mem.undrew hM; exact hMx)) | (with_reducible (have hMx := Mem.undrew hMp; exact hMx))))
    clear hM
    intro wst hM
    (try simp only [World.size_alloc, World.size_setCell, World.heap_drewN, heapDrew, Nat.add_assoc, Nat.reduceAdd, List.setIfInBounds_toArray, List.set_cons_zero, List.set_cons_succ, List.cons_append, List.nil_append] at hM)
    (first | refine (l15Store_any a2 n2 c2 ss _ (h2.ext hM.below)).mono ?_)
    rw [HS.out]
    rintro e wc9 ⟨rfl, hb⟩
    replace hM := hM.ext hb
    clear hb
    go_wp2
    go_ret3
    refine ⟨_, _, _, _, rfl, ?_⟩
    apply Mem.two0S (G := [])
    apply Mem.cast
    · (repeat' (first | with_reducible exact hM | with_reducible exact hMp | with_reducible apply Mem.drew | with_reducible apply Mem.drewN | with_reducible apply Mem.alloc | with_reducible apply Mem.set | with_reducible exact Sto.row | ((with_reducible refine Sto.rowEq2 ?_ ?_); omega; rfl) | ((with_reducible refine Sto.rowEq ?_); omega) | with_reducible apply Sto.int | with_reducible apply Sto.there | with_reducible assumption | (unfold I64; omega) | (with_reducible (have hMx := Mem.undrew hM; exact hMx)) | (with_reducible (have hMx := Mem.undrew hMp; exact hMx))))
    · simp only [World.size_alloc]
  have e1 : openB os ss = true := by rw [openB, ho, hs]; rfl
  have e2 : gotR os ss = gotL os ss := by rw [gotR, e1]; rfl
  have e3 : leftR os ss = leftL os ss := by rw [leftR, e1]; rfl
  have l1 : (gotR os ss).length = n1 := by rw [e2, gotL_length, h1.len]
  have l2 : (leftR os ss).length = n2 := by rw [e3, leftL_length, h2.len]
  rw [l1, l2, e1, e2, e3]
  have HO := Lib.hid ho; have HS := Lib.hid hs
  clear ho hs e1 e2 e3 l1 l2
  go_enter Try.func23, Try.ntmps23
  go_wp2_with fail
  apply Mem.atA
  · (repeat' (first | with_reducible exact hM | with_reducible exact hMp | with_reducible apply Mem.drew | with_reducible apply Mem.drewN | with_reducible apply Mem.alloc | with_reducible apply Mem.set | with_reducible exact Sto.row | ((with_reducible refine Sto.rowEq2 ?_ ?_); omega; rfl) | ((with_reducible refine Sto.rowEq ?_); omega) | with_reducible apply Sto.int | with_reducible apply Sto.there | with_reducible assumption | (unfold I64; omega) | (with_reducible (have hMx := Mem.undrew hM; exact hMx)) | (with_reducible (have hMx := Mem.undrew hMp; exact hMx))))
  clear hM
  intro wst hM
  (try simp only [World.size_alloc, World.size_setCell, World.heap_drewN, heapDrew, Nat.add_assoc, Nat.reduceAdd, List.setIfInBounds_toArray, List.set_cons_zero, List.set_cons_succ, List.cons_append, List.nil_append] at hM)
  (first | refine (l15Good_any a1 n1 c1 os _ (h1.ext hM.below)).mono ?_)
  rw [HO.out]
  rintro e wc10 ⟨rfl, hb⟩
  replace hM := hM.ext hb
  clear hb
  go_wp2_with fail
  apply Mem.atA
  · (repeat' (first | with_reducible exact hM | with_reducible exact hMp | with_reducible apply Mem.drew | with_reducible apply Mem.drewN | with_reducible apply Mem.alloc | with_reducible apply Mem.set | with_reducible exact Sto.row | ((with_reducible refine Sto.rowEq2 ?_ ?_); omega; rfl) | ((with_reducible refine Sto.rowEq ?_); omega) | with_reducible apply Sto.int | with_reducible apply Sto.there | with_reducible assumption | (unfold I64; omega) | (with_reducible (have hMx := Mem.undrew hM; exact hMx)) | (with_reducible (have hMx := Mem.undrew hMp; exact hMx))))
  clear hM
  intro wst hM
  (try simp only [World.size_alloc, World.size_setCell, World.heap_drewN, heapDrew, Nat.add_assoc, Nat.reduceAdd, List.setIfInBounds_toArray, List.set_cons_zero, List.set_cons_succ, List.cons_append, List.nil_append] at hM)
  (first | refine (l15Store_any a2 n2 c2 ss _ (h2.ext hM.below)).mono ?_)
  rw [HS.out]
  rintro e wc11 ⟨rfl, hb⟩
  replace hM := hM.ext hb
  clear hb
  go_wp2_with fail
  apply Mem.atA
  · (repeat' (first | with_reducible exact hM | with_reducible exact hMp | with_reducible apply Mem.drew | with_reducible apply Mem.drewN | with_reducible apply Mem.alloc | with_reducible apply Mem.set | with_reducible exact Sto.row | ((with_reducible refine Sto.rowEq2 ?_ ?_); omega; rfl) | ((with_reducible refine Sto.rowEq ?_); omega) | with_reducible apply Sto.int | with_reducible apply Sto.there | with_reducible assumption | (unfold I64; omega) | (with_reducible (have hMx := Mem.undrew hM; exact hMx)) | (with_reducible (have hMx := Mem.undrew hMp; exact hMx))))
  clear hM
  intro wst hM
  (try simp only [World.size_alloc, World.size_setCell, World.heap_drewN, heapDrew, Nat.add_assoc, Nat.reduceAdd, List.setIfInBounds_toArray, List.set_cons_zero, List.set_cons_succ, List.cons_append, List.nil_append] at hM)
  (first | refine (l15Serve_any a1 n1 c1 os a2 n2 c2 ss _ (h1.ext hM.below) (h2.ext hM.below) HO.out HS.out).mono ?_)
  rintro e wc12 ⟨a5, c5, a6, c6, rfl, hm⟩
  replace hM := hM.join hm
  clear hm
  (try simp only [World.size_alloc, World.size_setCell, World.heap_drewN, heapDrew, Nat.add_assoc, Nat.reduceAdd, List.setIfInBounds_toArray, List.set_cons_zero, List.set_cons_succ, List.cons_append, List.nil_append] at hM)
  go_wp2
  go_ret3
  exact ⟨a5, c5, a6, c6, rfl, hM⟩

def idAt (os : List OrderI) (q : Int) : Int := (os.getD q.toNat OrderI.zero).id
def servingR (os : List OrderI) : List Int := if ordersB os then (servL os).map (idAt os) else []
theorem servL_length (os : List OrderI) : (servL os).length = os.length := outS_length _ _
set_option maxRecDepth 100000 in
set_option maxHeartbeats 4000000 in
theorem implServingO_any (a1 : Option Addr) (n1 c1 : Nat) (os : List OrderI) (w : World) (h1 : Rd FOrder w a1 n1 c1 os) :
    Calls Try.prog 31 #[.slice a1 n1 c1] w fun e w' => ∃ a' c', e = .returned (.tuple #[.slice a' (servingR os).length c', .bool (ordersB os)]) ∧ Mem w.heap.size w w' [intE a' (servingR os).length c' (servingR os)] := by
  have hM := Mem.start w
  cases ho : ordersB os
  · have e2 : servingR os = [] := by rw [servingR, ho]; rfl
    rw [e2]
    have HO := Lib.hid ho; clear ho e2
    go_enter Try.func31, Try.ntmps31
    go_wp2_with fail
    apply Mem.atA
    · (repeat' (first | with_reducible exact hM | with_reducible exact hMp | with_reducible apply Mem.drew | with_reducible apply Mem.drewN | with_reducible apply Mem.alloc | with_reducible apply Mem.set | with_reducible exact Sto.row | ((with_reducible refine Sto.rowEq2 ?_ ?_); omega; rfl) | ((with_reducible refine Sto.rowEq ?_); omega) | with_reducible apply Sto.int | with_reducible apply Sto.there | with_reducible assumption | (unfold I64; omega) | (with_reducible (have hMx := Mem.undrew hM; exact hMx)) | (with_reducible (have hMx := Mem.undrew hMp; exact hMx))))
    clear hM
    intro wst hM
    (try simp only [World.size_alloc, World.size_setCell, World.heap_drewN, heapDrew, Nat.add_assoc, Nat.reduceAdd, List.setIfInBounds_toArray, List.set_cons_zero, List.set_cons_succ, List.cons_append, List.nil_append] at hM)
    (first | refine (areOrders_any a1 n1 c1 os _ (h1.ext hM.below)).mono ?_)
    rw [HO.out]
    rintro e wc13 ⟨rfl, hb⟩
    replace hM := hM.ext hb
    clear hb
    go_wp2
    go_ret2
    exact ⟨none, 0, rfl, by apply Mem.nilIS; (repeat' (first | with_reducible exact hM | with_reducible exact hMp | with_reducible apply Mem.drew | with_reducible apply Mem.drewN | with_reducible apply Mem.alloc | with_reducible apply Mem.set | with_reducible exact Sto.row | ((with_reducible refine Sto.rowEq2 ?_ ?_); omega; rfl) | ((with_reducible refine Sto.rowEq ?_); omega) | with_reducible apply Sto.int | with_reducible apply Sto.there | with_reducible assumption | (unfold I64; omega) | (with_reducible (have hMx := Mem.undrew hM; exact hMx)) | (with_reducible (have hMx := Mem.undrew hMp; exact hMx))))⟩
  have e2 : servingR os = (servL os).map (idAt os) := by rw [servingR, ho]; rfl
  have HL := Lib.hid h1.len
  have HWF := Lib.hid h1.wf
  have hn10 : n1 ≤ 10 := by have := ord_len ho; rw [h1.len] at this; exact this
  have l2 : (servingR os).length = n1 := by rw [e2, List.length_map, servL_length, HL.out]
  have HQ := Lib.hid (fun t (ht : t < n1) => servL_mem (os := os) (t := t) (by rw [HL.out]; exact ht))
  have HSL := Lib.hid (show (servL os).length = n1 by rw [servL_length, HL.out])
  rw [l2, e2]
  have HO := Lib.hid ho
  clear ho e2 l2
  obtain ⟨sl, hsl⟩ : ∃ sl, servL os = sl := ⟨_, rfl⟩
  rw [hsl] at HQ HSL ⊢
  have HS := Lib.hid hsl; clear hsl
  go_enter Try.func31, Try.ntmps31
  go_wp2_with fail
  apply Mem.atA
  · (repeat' (first | with_reducible exact hM | with_reducible exact hMp | with_reducible apply Mem.drew | with_reducible apply Mem.drewN | with_reducible apply Mem.alloc | with_reducible apply Mem.set | with_reducible exact Sto.row | ((with_reducible refine Sto.rowEq2 ?_ ?_); omega; rfl) | ((with_reducible refine Sto.rowEq ?_); omega) | with_reducible apply Sto.int | with_reducible apply Sto.there | with_reducible assumption | (unfold I64; omega) | (with_reducible (have hMx := Mem.undrew hM; exact hMx)) | (with_reducible (have hMx := Mem.undrew hMp; exact hMx))))
  clear hM
  intro wst hM
  (try simp only [World.size_alloc, World.size_setCell, World.heap_drewN, heapDrew, Nat.add_assoc, Nat.reduceAdd, List.setIfInBounds_toArray, List.set_cons_zero, List.set_cons_succ, List.cons_append, List.nil_append] at hM)
  (first | refine (areOrders_any a1 n1 c1 os _ (h1.ext hM.below)).mono ?_)
  rw [HO.out]
  rintro e wc14 ⟨rfl, hb⟩
  replace hM := hM.ext hb
  clear hb
  go_upto_region 4 with fail
  apply Mem.atWpA
  · (repeat' (first | with_reducible exact hM | with_reducible exact hMp | with_reducible apply Mem.drew | with_reducible apply Mem.drewN | with_reducible apply Mem.alloc | with_reducible apply Mem.set | with_reducible exact Sto.row | ((with_reducible refine Sto.rowEq2 ?_ ?_); omega; rfl) | ((with_reducible refine Sto.rowEq ?_); omega) | with_reducible apply Sto.int | with_reducible apply Sto.there | with_reducible assumption | (unfold I64; omega) | (with_reducible (have hMx := Mem.undrew hM; exact hMx)) | (with_reducible (have hMx := Mem.undrew hMp; exact hMx))))
  clear hM
  intro wst hM
  (try simp only [World.size_alloc, World.size_setCell, World.heap_drewN, heapDrew, Nat.add_assoc, Nat.reduceAdd, List.setIfInBounds_toArray, List.set_cons_zero, List.set_cons_succ, List.cons_append, List.nil_append] at hM)
  replace hM := hM.toInts (xs := []) .here rfl (by simp) (by simp)
  go_wp2_with fail
  apply Mem.atA
  · (repeat' (first | with_reducible exact hM | with_reducible exact hMp | with_reducible apply Mem.drew | with_reducible apply Mem.drewN | with_reducible apply Mem.alloc | with_reducible apply Mem.set | with_reducible exact Sto.row | ((with_reducible refine Sto.rowEq2 ?_ ?_); omega; rfl) | ((with_reducible refine Sto.rowEq ?_); omega) | with_reducible apply Sto.int | with_reducible apply Sto.there | with_reducible assumption | (unfold I64; omega) | (with_reducible (have hMx := Mem.undrew hM; exact hMx)) | (with_reducible (have hMx := Mem.undrew hMp; exact hMx))))
  clear hM
  intro wst hM
  (try simp only [World.size_alloc, World.size_setCell, World.heap_drewN, heapDrew, Nat.add_assoc, Nat.reduceAdd, List.setIfInBounds_toArray, List.set_cons_zero, List.set_cons_succ, List.cons_append, List.nil_append] at hM)
  (first | refine (implServing_any a1 n1 c1 os _ (h1.ext hM.below) (by omega)).mono ?_)
  rintro e wc15 ⟨a5, c5, rfl, hm⟩
  replace hM := hM.join hm
  clear hm
  (try simp only [World.size_alloc, World.size_setCell, World.heap_drewN, heapDrew, Nat.add_assoc, Nat.reduceAdd, List.setIfInBounds_toArray, List.set_cons_zero, List.set_cons_succ, List.cons_append, List.nil_append] at hM)
  rw [HS.out] at hM
  replace hM := Mem.pick (is := [1, 0]) hM (by decide) rfl
  go_wp2_with fail
  go_loopw [4, 14] (fun s4 s14 wr => ∃ (k : Nat) (a' : Option Addr) (c' : Nat), k ≤ n1 ∧ s14 = .int .i64 k ∧ s4 = .slice a' k c' ∧ Mem w.heap.size w wr [intE a' k c' ((sl.take k).map (idAt os)), intE a5 n1 c5 sl]) (fun _ s14 _ => n1 - (intOf s14).toNat)
  case atStart => exact ⟨0, _, _, Nat.zero_le _, rfl, rfl, hM⟩
  case round =>
    clear hM
    obtain ⟨k, a', c', hk, rfl, rfl, hM⟩ := hrel
    by_cases hlt : k < n1
    · obtain ⟨g5, rfl, -⟩ := (hM.ints (.there .here)).head (by omega)
      obtain ⟨q, hq, hqn⟩ := HQ.out k hlt
      rw [HL.out] at hqn
      have htk : sl.take (k + 1) = sl.take k ++ [(q : Int)] := by rw [← hq]; exact take_succV (by rw [HSL.out]; exact hlt)
      have hk5 := (hM.ints (.there .here)).cellAt hlt
      rw [hq] at hk5
      obtain ⟨bo, off, rfl, -, -⟩ := h1.at' _ hlt
      have hc := ((h1.ext hM.below).cellOrder hqn).2.1
      have hid : (os.getD q OrderI.zero).id = idAt os (q : Int) := by rw [idAt, Int.toNat_natCast]
      have hwf := (HWF.out _ (getD_memO (d := OrderI.zero) (xs := os) (k := q) (by rw [HL.out]; exact hqn))).1
      rw [hid] at hc hwf
      have HT := Lib.hid (show (sl.take (k + 1)).map (idAt os) = (sl.take k).map (idAt os) ++ [idAt os (q : Int)] by rw [htk, List.map_append]; rfl)
      clear htk hq hid
      generalize idAt os (q : Int) = v at hc hwf HT
      generalize (sl.take k).map (idAt os) = vs at hM HT
      have ki0 : (0 : Int) ≤ (k : Int) := by omega
      have ki1 : (k : Int) < (n1 : Int) := by omega
      have q0 : (0 : Int) ≤ (q : Int) := by omega
      have q1 : (q : Int) < (n1 : Int) := by omega
      have HW := Lib.hid hwf; clear hwf
      go_wp2_with (at_builtin; apply Mem.atL; (focus ((repeat' (first | with_reducible exact hM | with_reducible exact hMp | with_reducible apply Mem.drew | with_reducible apply Mem.drewN | with_reducible apply Mem.alloc | with_reducible apply Mem.set | with_reducible exact Sto.row | ((with_reducible refine Sto.rowEq2 ?_ ?_); omega; rfl) | ((with_reducible refine Sto.rowEq ?_); omega) | with_reducible apply Sto.int | with_reducible apply Sto.there | with_reducible assumption | (unfold I64; omega) | (with_reducible (have hMx := Mem.undrew hM; exact hMx)) | (with_reducible (have hMx := Mem.undrew hMp; exact hMx)))); done)); clear hM hk5 hc; intro hM; (try simp only [World.size_alloc, World.size_setCell, World.heap_drewN, heapDrew, Nat.add_assoc, Nat.reduceAdd, List.setIfInBounds_toArray, List.set_cons_zero, List.set_cons_succ, List.cons_append, List.nil_append] at hM); refine wpList_pushI hM (fun _ => .here) HW.out (by omega) rfl _ _ _ Try.underlying41 rfl rfl rfl ?_)
      intro a7 c7 w7 hM
      go_wp2
      go_roundw
      case rel => exact ⟨k + 1, a7, c7, by omega, by go_num, rfl, by rw [HT.out]; exact hM⟩
      case measure => simp [intOf]; omega
    · obtain rfl : k = n1 := by omega
      rw [List.take_of_length_le (by rw [HSL.out]; exact Nat.le_refl _)] at hM
      go_wp2
      go_ret2
      exact ⟨_, _, rfl, hM.first⟩
set_option maxRecDepth 100000 in
set_option maxHeartbeats 4000000 in
theorem specServingO_any (a1 : Option Addr) (n1 c1 : Nat) (os : List OrderI) (w : World) (h1 : Rd FOrder w a1 n1 c1 os) :
    Calls Try.prog 32 #[.slice a1 n1 c1] w fun e w' => ∃ a' c', e = .returned (.tuple #[.slice a' (servingR os).length c', .bool (ordersB os)]) ∧ Mem w.heap.size w w' [intE a' (servingR os).length c' (servingR os)] := by
  have hM := Mem.start w
  cases ho : ordersB os
  · have e2 : servingR os = [] := by rw [servingR, ho]; rfl
    rw [e2]
    have HO := Lib.hid ho; clear ho e2
    go_enter Try.func32, Try.ntmps32
    go_wp2_with fail
    apply Mem.atA
    · (repeat' (first | with_reducible exact hM | with_reducible exact hMp | with_reducible apply Mem.drew | with_reducible apply Mem.drewN | with_reducible apply Mem.alloc | with_reducible apply Mem.set | with_reducible exact Sto.row | ((with_reducible refine Sto.rowEq2 ?_ ?_); omega; rfl) | ((with_reducible refine Sto.rowEq ?_); omega) | with_reducible apply Sto.int | with_reducible apply Sto.there | with_reducible assumption | (unfold I64; omega) | (with_reducible (have hMx := Mem.undrew hM; exact hMx)) | (with_reducible (have hMx := Mem.undrew hMp; exact hMx))))
    clear hM
    intro wst hM
    (try simp only [World.size_alloc, World.size_setCell, World.heap_drewN, heapDrew, Nat.add_assoc, Nat.reduceAdd, List.setIfInBounds_toArray, List.set_cons_zero, List.set_cons_succ, List.cons_append, List.nil_append] at hM)
    (first | refine (l15Good_any a1 n1 c1 os _ (h1.ext hM.below)).mono ?_)
    rw [HO.out]
    rintro e wc16 ⟨rfl, hb⟩
    replace hM := hM.ext hb
    clear hb
    go_wp2
    go_ret2
    exact ⟨_, _, rfl, by apply Mem.toInts0; (repeat' (first | with_reducible exact hM | with_reducible exact hMp | with_reducible apply Mem.drew | with_reducible apply Mem.drewN | with_reducible apply Mem.alloc | with_reducible apply Mem.set | with_reducible exact Sto.row | ((with_reducible refine Sto.rowEq2 ?_ ?_); omega; rfl) | ((with_reducible refine Sto.rowEq ?_); omega) | with_reducible apply Sto.int | with_reducible apply Sto.there | with_reducible assumption | (unfold I64; omega) | (with_reducible (have hMx := Mem.undrew hM; exact hMx)) | (with_reducible (have hMx := Mem.undrew hMp; exact hMx))))⟩
  have e2 : servingR os = (servL os).map (idAt os) := by rw [servingR, ho]; rfl
  have HL := Lib.hid h1.len
  have HWF := Lib.hid h1.wf
  have hn10 : n1 ≤ 10 := by have := ord_len ho; rw [h1.len] at this; exact this
  have l2 : (servingR os).length = n1 := by rw [e2, List.length_map, servL_length, HL.out]
  have HQ := Lib.hid (fun t (ht : t < n1) => servL_mem (os := os) (t := t) (by rw [HL.out]; exact ht))
  have HSL := Lib.hid (show (servL os).length = n1 by rw [servL_length, HL.out])
  rw [l2, e2]
  have HO := Lib.hid ho
  clear ho e2 l2
  obtain ⟨sl, hsl⟩ : ∃ sl, servL os = sl := ⟨_, rfl⟩
  rw [hsl] at HQ HSL ⊢
  have HS := Lib.hid hsl; clear hsl
  go_enter Try.func32, Try.ntmps32
  go_wp2_with fail
  apply Mem.atA
  · (repeat' (first | with_reducible exact hM | with_reducible exact hMp | with_reducible apply Mem.drew | with_reducible apply Mem.drewN | with_reducible apply Mem.alloc | with_reducible apply Mem.set | with_reducible exact Sto.row | ((with_reducible refine Sto.rowEq2 ?_ ?_); omega; rfl) | ((with_reducible refine Sto.rowEq ?_); omega) | with_reducible apply Sto.int | with_reducible apply Sto.there | with_reducible assumption | (unfold I64; omega) | (with_reducible (have hMx := Mem.undrew hM; exact hMx)) | (with_reducible (have hMx := Mem.undrew hMp; exact hMx))))
  clear hM
  intro wst hM
  (try simp only [World.size_alloc, World.size_setCell, World.heap_drewN, heapDrew, Nat.add_assoc, Nat.reduceAdd, List.setIfInBounds_toArray, List.set_cons_zero, List.set_cons_succ, List.cons_append, List.nil_append] at hM)
  (first | refine (l15Good_any a1 n1 c1 os _ (h1.ext hM.below)).mono ?_)
  rw [HO.out]
  rintro e wc17 ⟨rfl, hb⟩
  replace hM := hM.ext hb
  clear hb
  go_wp2_with fail
  apply Mem.atA
  · (repeat' (first | with_reducible exact hM | with_reducible exact hMp | with_reducible apply Mem.drew | with_reducible apply Mem.drewN | with_reducible apply Mem.alloc | with_reducible apply Mem.set | with_reducible exact Sto.row | ((with_reducible refine Sto.rowEq2 ?_ ?_); omega; rfl) | ((with_reducible refine Sto.rowEq ?_); omega) | with_reducible apply Sto.int | with_reducible apply Sto.there | with_reducible assumption | (unfold I64; omega) | (with_reducible (have hMx := Mem.undrew hM; exact hMx)) | (with_reducible (have hMx := Mem.undrew hMp; exact hMx))))
  clear hM
  intro wst hM
  (try simp only [World.size_alloc, World.size_setCell, World.heap_drewN, heapDrew, Nat.add_assoc, Nat.reduceAdd, List.setIfInBounds_toArray, List.set_cons_zero, List.set_cons_succ, List.cons_append, List.nil_append] at hM)
  (first | refine (l15Queue_any a1 n1 c1 os _ (h1.ext hM.below) HO.out).mono ?_)
  rintro e wc18 ⟨a5, c5, rfl, hm⟩
  replace hM := hM.join hm
  clear hm
  (try simp only [World.size_alloc, World.size_setCell, World.heap_drewN, heapDrew, Nat.add_assoc, Nat.reduceAdd, List.setIfInBounds_toArray, List.set_cons_zero, List.set_cons_succ, List.cons_append, List.nil_append] at hM)
  rw [HS.out] at hM
  go_wp2_with fail
  go_loopw [5] (fun s5 wr => ∃ k : Nat, k ≤ n1 ∧ s5 = .int .i64 k ∧ Mem w.heap.size w wr [intE a5 n1 c5 ((sl.take k).map (idAt os) ++ sl.drop k)]) (fun s5 _ => n1 - (intOf s5).toNat)
  case atStart => exact ⟨0, Nat.zero_le _, rfl, hM⟩
  case round =>
    clear hM
    obtain ⟨k, hk, rfl, hM⟩ := hrel
    by_cases hlt : k < n1
    · obtain ⟨g5, rfl, -⟩ := (hM.ints .here).head (by omega)
      obtain ⟨q, hq, hqn⟩ := HQ.out k hlt
      rw [HL.out] at hqn
      have hkl : k < sl.length := by rw [HSL.out]; exact hlt
      have htk : sl.take (k + 1) = sl.take k ++ [(q : Int)] := by rw [← hq]; exact take_succV hkl
      have hml : ((sl.take k).map (idAt os)).length = k := by rw [List.length_map, List.length_take]; omega
      have hget : ((sl.take k).map (idAt os) ++ sl.drop k).getD k 0 = (q : Int) := by
        rw [List.getD_eq_getElem?_getD, List.getElem?_append_right (by omega), hml, Nat.sub_self, List.getElem?_drop, ← hq, List.getD_eq_getElem?_getD]
        rfl
      have hset : ((sl.take k).map (idAt os) ++ sl.drop k).set k (idAt os (q : Int)) = (sl.take (k + 1)).map (idAt os) ++ sl.drop (k + 1) := by
        rw [List.set_append_right _ _ (by omega), hml, Nat.sub_self, htk, List.map_append, List.drop_eq_getElem_cons hkl, List.set_cons_zero, List.append_assoc]
        rfl
      have hk5 := (hM.ints .here).cellAt hlt
      have hk6 := (hM.ints .here).freeAt k
      rw [hget] at hk5
      obtain ⟨bo, off, rfl, -, -⟩ := h1.at' _ hlt
      have hc := ((h1.ext hM.below).cellOrder hqn).2.1
      have hid : (os.getD q OrderI.zero).id = idAt os (q : Int) := by rw [idAt, Int.toNat_natCast]
      have hwf := (HWF.out _ (getD_memO (d := OrderI.zero) (xs := os) (k := q) (by rw [HL.out]; exact hqn))).1
      rw [hid] at hc hwf
      have HT := Lib.hid hset
      clear htk hq hid hset hget hml
      generalize idAt os (q : Int) = v at hc hwf HT
      generalize (sl.take k).map (idAt os) ++ sl.drop k = vs at hM HT
      have ki0 : (0 : Int) ≤ (k : Int) := by omega
      have ki1 : (k : Int) < (n1 : Int) := by omega
      have q0 : (0 : Int) ≤ (q : Int) := by omega
      have q1 : (q : Int) < (n1 : Int) := by omega
      have HW := Lib.hid hwf; clear hwf
      go_wp2
      go_roundw
      case rel => exact ⟨k + 1, by omega, by go_num, by rw [← HT.out]; have hwf := HW.out; (repeat' (first | with_reducible exact hM | with_reducible exact hMp | with_reducible apply Mem.drew | with_reducible apply Mem.drewN | with_reducible apply Mem.alloc | with_reducible apply Mem.set | with_reducible exact Sto.row | ((with_reducible refine Sto.rowEq2 ?_ ?_); omega; rfl) | ((with_reducible refine Sto.rowEq ?_); omega) | with_reducible apply Sto.int | with_reducible apply Sto.there | with_reducible assumption | (unfold I64; omega) | (with_reducible (have hMx := Mem.undrew hM; exact hMx)) | (with_reducible (have hMx := Mem.undrew hMp; exact hMx))))⟩
      case measure => simp [intOf]; omega
    · obtain rfl : k = n1 := by omega
      rw [List.take_of_length_le (by rw [HSL.out]; exact Nat.le_refl _), List.drop_of_length_le (by rw [HSL.out]; exact Nat.le_refl _), List.append_nil] at hM
      go_wp2
      go_ret2
      exact ⟨_, _, rfl, hM.first⟩
end Go.Proofs.Ytfnaenekdenmkaa
