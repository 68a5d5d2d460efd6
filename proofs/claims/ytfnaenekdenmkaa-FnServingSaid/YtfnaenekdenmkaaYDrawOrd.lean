/-
  The reference's draws of orders.
-/
import Derived.Test.YtfnaenekdenmkaaYCur
import Derived.Test.YtfnaenekdenmkaaYPackA
import Derived.Test.YtfnaenekdenmkaaYFlOrder
/-
  The reference's draws of orders.
-/
namespace Go.Proofs.Ytfnaenekdenmkaa
set_option linter.unusedSimpArgs false
set_option linter.unusedVariables false
open Go.RowKit

/-- what is drawn -/
def okO (x : OrderI) : Prop := (-1000000 ≤ x.id ∧ x.id ≤ 1000000) ∧ x.kd.length ≤ 20 ∧ (0 ≤ x.ct ∧ x.ct ≤ 100) ∧ (0 ≤ x.ur ∧ x.ur ≤ 6) ∧ (-1 ≤ x.tk ∧ x.tk ≤ 10000)
theorem okO_wf {x : OrderI} (h : okO x) : FOrder.wf x := by
  obtain ⟨⟨a, b⟩, e, ⟨c, d⟩, ⟨f, g⟩, ⟨i, j⟩⟩ := h
  refine ⟨?_, by show x.kd.length ≤ maxLen; unfold maxLen; omega, ?_, ?_, ?_⟩ <;> (unfold I64; omega)
theorem mem_boundO {x lo hi : Int} {xs : List Int} (h : x ∈ xs) (hb : xs.all (fun y => decide (lo ≤ y) && decide (y ≤ hi)) = true) : lo ≤ x ∧ x ≤ hi := by
  have := List.all_eq_true.1 hb x h
  simpa using this
theorem smallO_of {x : ByteArray} {xs : List ByteArray} (h : x ∈ xs) (hs : xs.all (fun y => decide (y.size ≤ 20)) = true) : (bl x).length ≤ 20 := by
  have := List.all_eq_true.1 hs x h
  exact of_decide_eq_true this

set_option maxRecDepth 100000 in
set_option maxHeartbeats 8000000 in
theorem order_any {g : Nat} {ac : Option Addr} {nc cc : Nat} {l : List UInt8} {A : Nat} {w0 w : World} {G : List Ent} {F : Ent → List Ent} (d : Int) (hd0 : -1000 ≤ d) (hd1 : d ≤ 1000) (hC : Rd FByt w0 ac nc cc l) (hM : Mem w0.heap.size w0 w G) (p : At G (curE g ac nc cc A) F) (hA : A ≤ 100000000) :
    Calls Try.prog 117 #[.pointer (some ⟨g, 0, none⟩), .int .i64 d] w fun e w' => ∃ x : OrderI, okO x ∧ e = .returned x.val ∧ Mem w0.heap.size w0 w' (F (curE g ac nc cc (A + 12))) := by
  have HP := Lib.hid p
  have HC := Lib.hid hC
  clear p hC
  go_enter Try.func117, Try.ntmps117
  go_wp2_with fail
  apply Mem.atA
  · (repeat' (first | with_reducible exact hM | with_reducible exact hMp | with_reducible apply Mem.drew | with_reducible apply Mem.drewN | with_reducible apply Mem.alloc | with_reducible apply Mem.set | with_reducible exact Sto.row | ((with_reducible refine Sto.rowEq2 ?_ ?_); omega; rfl) | ((with_reducible refine Sto.rowEq ?_); omega) | with_reducible apply Sto.int | with_reducible apply Sto.there | with_reducible assumption | (unfold I64; omega) | (with_reducible (have hMx := Mem.undrew hM; exact hMx)) | (with_reducible (have hMx := Mem.undrew hMp; exact hMx))))
  clear hM
  intro wst hM
  (try simp only [World.size_alloc, World.size_setCell, World.heap_drewN, heapDrew, Nat.add_assoc, Nat.reduceAdd, List.setIfInBounds_toArray, List.set_cons_zero, List.set_cons_succ, List.cons_append, List.nil_append] at hM)
  (first | refine (of_any [⟨#[99, 114, 101, 119]⟩, ⟨#[99, 114, 101, 119]⟩, ⟨#[101, 110, 103, 105, 110, 101]⟩, ⟨#[100, 111, 122, 101, 114]⟩, ⟨#[116, 101, 110, 100, 101, 114]⟩] HC.out hM (.there (.there HP.out)) (fun _ => .here) rfl (by decide) (by decide) (by omega) (by decide)).mono ?_)
  rintro e wc1 ⟨x1, hx1, rfl, hm⟩
  clear hM
  have hM := hm
  clear hm
  try dsimp only at hM
  go_wp2_with fail
  apply Mem.atA
  · (repeat' (first | with_reducible exact hM | with_reducible exact hMp | with_reducible apply Mem.drew | with_reducible apply Mem.drewN | with_reducible apply Mem.alloc | with_reducible apply Mem.set | with_reducible exact Sto.row | ((with_reducible refine Sto.rowEq2 ?_ ?_); omega; rfl) | ((with_reducible refine Sto.rowEq ?_); omega) | with_reducible apply Sto.int | with_reducible apply Sto.there | with_reducible assumption | (unfold I64; omega) | (with_reducible (have hMx := Mem.undrew hM; exact hMx)) | (with_reducible (have hMx := Mem.undrew hMp; exact hMx))))
  clear hM
  intro wst hM
  (try simp only [World.size_alloc, World.size_setCell, World.heap_drewN, heapDrew, Nat.add_assoc, Nat.reduceAdd, List.setIfInBounds_toArray, List.set_cons_zero, List.set_cons_succ, List.cons_append, List.nil_append] at hM)
  (first | refine (among_any [1, 2, 5, 20, 99] HC.out hM (.there (.there (.there (HP.out.again _)))) (fun _ => .here) rfl (by decide) (by decide) (by omega) (by decide)).mono ?_)
  rintro e wc2 ⟨x2, hx2, rfl, hm⟩
  clear hM
  have hM := hm
  clear hm
  try dsimp only at hM
  go_wp2_with fail
  apply Mem.atA
  · (repeat' (first | with_reducible exact hM | with_reducible exact hMp | with_reducible apply Mem.drew | with_reducible apply Mem.drewN | with_reducible apply Mem.alloc | with_reducible apply Mem.set | with_reducible exact Sto.row | ((with_reducible refine Sto.rowEq2 ?_ ?_); omega; rfl) | ((with_reducible refine Sto.rowEq ?_); omega) | with_reducible apply Sto.int | with_reducible apply Sto.there | with_reducible assumption | (unfold I64; omega) | (with_reducible (have hMx := Mem.undrew hM; exact hMx)) | (with_reducible (have hMx := Mem.undrew hMp; exact hMx))))
  clear hM
  intro wst hM
  (try simp only [World.size_alloc, World.size_setCell, World.heap_drewN, heapDrew, Nat.add_assoc, Nat.reduceAdd, List.setIfInBounds_toArray, List.set_cons_zero, List.set_cons_succ, List.cons_append, List.nil_append] at hM)
  (first | refine (pick_any 5 HC.out hM (.there (.there (.there (HP.out.again _)))) (by omega)).mono ?_)
  rintro e wc3 ⟨u, hu, hu2, rfl, hm⟩
  clear hM
  have hM := hm
  clear hm
  try dsimp only at hM
  go_wp2_with fail
  apply Mem.atA
  · (repeat' (first | with_reducible exact hM | with_reducible exact hMp | with_reducible apply Mem.drew | with_reducible apply Mem.drewN | with_reducible apply Mem.alloc | with_reducible apply Mem.set | with_reducible exact Sto.row | ((with_reducible refine Sto.rowEq2 ?_ ?_); omega; rfl) | ((with_reducible refine Sto.rowEq ?_); omega) | with_reducible apply Sto.int | with_reducible apply Sto.there | with_reducible assumption | (unfold I64; omega) | (with_reducible (have hMx := Mem.undrew hM; exact hMx)) | (with_reducible (have hMx := Mem.undrew hMp; exact hMx))))
  clear hM
  intro wst hM
  (try simp only [World.size_alloc, World.size_setCell, World.heap_drewN, heapDrew, Nat.add_assoc, Nat.reduceAdd, List.setIfInBounds_toArray, List.set_cons_zero, List.set_cons_succ, List.cons_append, List.nil_append] at hM)
  (first | refine (among_any [0, 5, 5, 100, 9999] HC.out hM (.there (.there (.there (.there (HP.out.again _))))) (fun _ => .here) rfl (by decide) (by decide) (by omega) (by decide)).mono ?_)
  rintro e wc4 ⟨x3, hx3, rfl, hm⟩
  clear hM
  have hM := hm
  clear hm
  try dsimp only at hM
  have hs1 := smallO_of hx1 (by decide)
  obtain ⟨b20, b21⟩ := mem_boundO (lo := 0) (hi := 100) hx2 (by decide)
  obtain ⟨b30, b31⟩ := mem_boundO (lo := 0) (hi := 9999) hx3 (by decide)
  have hu5 := pick_lt hu (by omega)
  have hwu : IntKind.i64.wrap (1 + (u : Int)) = 1 + (u : Int) := wrap_in (by omega)
  clear hx1 hx2 hx3 hu hu2
  go_wp2_with fail
  apply Mem.atA
  · (repeat' (first | with_reducible exact hM | with_reducible exact hMp | with_reducible apply Mem.drew | with_reducible apply Mem.drewN | with_reducible apply Mem.alloc | with_reducible apply Mem.set | with_reducible exact Sto.row | ((with_reducible refine Sto.rowEq2 ?_ ?_); omega; rfl) | ((with_reducible refine Sto.rowEq ?_); omega) | with_reducible apply Sto.int | with_reducible apply Sto.there | with_reducible assumption | (unfold I64; omega) | (with_reducible (have hMx := Mem.undrew hM; exact hMx)) | (with_reducible (have hMx := Mem.undrew hMp; exact hMx))))
  clear hM
  intro wst hM
  (try simp only [World.size_alloc, World.size_setCell, World.heap_drewN, heapDrew, Nat.add_assoc, Nat.reduceAdd, List.setIfInBounds_toArray, List.set_cons_zero, List.set_cons_succ, List.cons_append, List.nil_append] at hM)
  (first | refine (pick_any 60 HC.out hM (.there (.there (.there (.there (.there (HP.out.again _)))))) (by omega)).mono ?_)
  rintro e wc5 ⟨r, hr, hr2, rfl, hm⟩
  clear hM
  have hM := hm
  clear hm
  try dsimp only at hM
  clear hr
  have hur : 1 ≤ 1 + (u : Int) ∧ 1 + (u : Int) ≤ 5 := by omega
  generalize 1 + (u : Int) = ur at hwu hur hM ⊢
  clear hu5 hwu hr2
  by_cases h0 : r = 0
  · subst h0
    go_wp2_with fail
    apply Mem.atA
    · (repeat' (first | with_reducible exact hM | with_reducible exact hMp | with_reducible apply Mem.drew | with_reducible apply Mem.drewN | with_reducible apply Mem.alloc | with_reducible apply Mem.set | with_reducible exact Sto.row | ((with_reducible refine Sto.rowEq2 ?_ ?_); omega; rfl) | ((with_reducible refine Sto.rowEq ?_); omega) | with_reducible apply Sto.int | with_reducible apply Sto.there | with_reducible assumption | (unfold I64; omega) | (with_reducible (have hMx := Mem.undrew hM; exact hMx)) | (with_reducible (have hMx := Mem.undrew hMp; exact hMx))))
    clear hM
    intro wst hM
    (try simp only [World.size_alloc, World.size_setCell, World.heap_drewN, heapDrew, Nat.add_assoc, Nat.reduceAdd, List.setIfInBounds_toArray, List.set_cons_zero, List.set_cons_succ, List.cons_append, List.nil_append] at hM)
    (first | refine (among_any [0, 999, 1000] HC.out hM (.there (.there (.there (.there (.there (.there (HP.out.again _))))))) (fun _ => .here) rfl (by decide) (by decide) (by omega) (by decide)).mono ?_)
    rintro e wc6 ⟨x4, hx4, rfl, hm⟩
    clear hM
    have hM := hm
    clear hm
    try dsimp only at hM
    obtain ⟨b40, b41⟩ := mem_boundO (lo := -1000) (hi := 1000) hx4 (by decide)
    clear hx4
    obtain ⟨k1, f1, l1⟩ := hM.row (.there .here)
    go_upto_region 13 with fail
    clear k1 f1 l1
    apply Mem.atWpA
    · (repeat' (first | with_reducible exact hM | with_reducible exact hMp | with_reducible apply Mem.drew | with_reducible apply Mem.drewN | with_reducible apply Mem.alloc | with_reducible apply Mem.set | with_reducible exact Sto.row | ((with_reducible refine Sto.rowEq2 ?_ ?_); omega; rfl) | ((with_reducible refine Sto.rowEq ?_); omega) | with_reducible apply Sto.int | with_reducible apply Sto.there | with_reducible assumption | (unfold I64; omega) | (with_reducible (have hMx := Mem.undrew hM; exact hMx)) | (with_reducible (have hMx := Mem.undrew hMp; exact hMx))))
    clear hM
    intro wst hM
    (try simp only [World.size_alloc, World.size_setCell, World.heap_drewN, heapDrew, Nat.add_assoc, Nat.reduceAdd, List.setIfInBounds_toArray, List.set_cons_zero, List.set_cons_succ, List.cons_append, List.nil_append] at hM)
    obtain ⟨k1, f1, l1⟩ := hM.row (.there .here)
    obtain ⟨k5, f5, l5⟩ := hM.row (.there (.there (.there (.there (.there .here)))))
    go_wp2
    refine bodyPost_ret (v := .agg #[.int .i64 x4, .string x1, .int .i64 x2, .int .i64 ur, .int .i64 x3]) (by simp [results, Try.results117, go_sem, k1, k5]) rfl ⟨⟨x4, (bl x1), x2, ur, x3⟩, by unfold okO; dsimp only; omega, rfl, ?_⟩
    apply Mem.curMore (hA := show A + 10 + 2 ≤ A + 12 by omega) (p := HP.out.again _)
    apply Mem.tail; apply Mem.tail; apply Mem.tail; apply Mem.tail; apply Mem.tail; apply Mem.tail
    (repeat' (first | with_reducible exact hM | with_reducible exact hMp | with_reducible apply Mem.drew | with_reducible apply Mem.drewN | with_reducible apply Mem.alloc | with_reducible apply Mem.set | with_reducible exact Sto.row | ((with_reducible refine Sto.rowEq2 ?_ ?_); omega; rfl) | ((with_reducible refine Sto.rowEq ?_); omega) | with_reducible apply Sto.int | with_reducible apply Sto.there | with_reducible assumption | (unfold I64; omega) | (with_reducible (have hMx := Mem.undrew hM; exact hMx)) | (with_reducible (have hMx := Mem.undrew hMp; exact hMx))))
  by_cases h1 : r = 1
  · subst h1
    go_wp2_with fail
    apply Mem.atA
    · (repeat' (first | with_reducible exact hM | with_reducible exact hMp | with_reducible apply Mem.drew | with_reducible apply Mem.drewN | with_reducible apply Mem.alloc | with_reducible apply Mem.set | with_reducible exact Sto.row | ((with_reducible refine Sto.rowEq2 ?_ ?_); omega; rfl) | ((with_reducible refine Sto.rowEq ?_); omega) | with_reducible apply Sto.int | with_reducible apply Sto.there | with_reducible assumption | (unfold I64; omega) | (with_reducible (have hMx := Mem.undrew hM; exact hMx)) | (with_reducible (have hMx := Mem.undrew hMp; exact hMx))))
    clear hM
    intro wst hM
    (try simp only [World.size_alloc, World.size_setCell, World.heap_drewN, heapDrew, Nat.add_assoc, Nat.reduceAdd, List.setIfInBounds_toArray, List.set_cons_zero, List.set_cons_succ, List.cons_append, List.nil_append] at hM)
    (first | refine (of_any [⟨#[]⟩, ⟨#[65]⟩, ⟨#[97, 98, 99, 100, 101, 102, 103, 104, 105, 106, 107]⟩] HC.out hM (.there (.there (.there (.there (.there (.there (HP.out.again _))))))) (fun _ => .here) rfl (by decide) (by decide) (by omega) (by decide)).mono ?_)
    rintro e wc7 ⟨x4, hx4, rfl, hm⟩
    clear hM
    have hM := hm
    clear hm
    try dsimp only at hM
    have hs4 := smallO_of hx4 (by decide)
    clear hx4
    obtain ⟨k1, f1, l1⟩ := hM.row (.there .here)
    go_upto_region 13 with fail
    clear k1 f1 l1
    apply Mem.atWpA
    · (repeat' (first | with_reducible exact hM | with_reducible exact hMp | with_reducible apply Mem.drew | with_reducible apply Mem.drewN | with_reducible apply Mem.alloc | with_reducible apply Mem.set | with_reducible exact Sto.row | ((with_reducible refine Sto.rowEq2 ?_ ?_); omega; rfl) | ((with_reducible refine Sto.rowEq ?_); omega) | with_reducible apply Sto.int | with_reducible apply Sto.there | with_reducible assumption | (unfold I64; omega) | (with_reducible (have hMx := Mem.undrew hM; exact hMx)) | (with_reducible (have hMx := Mem.undrew hMp; exact hMx))))
    clear hM
    intro wst hM
    (try simp only [World.size_alloc, World.size_setCell, World.heap_drewN, heapDrew, Nat.add_assoc, Nat.reduceAdd, List.setIfInBounds_toArray, List.set_cons_zero, List.set_cons_succ, List.cons_append, List.nil_append] at hM)
    obtain ⟨k1, f1, l1⟩ := hM.row (.there .here)
    obtain ⟨k5, f5, l5⟩ := hM.row (.there (.there (.there (.there (.there .here)))))
    go_wp2
    refine bodyPost_ret (v := .agg #[.int .i64 d, .string x4, .int .i64 x2, .int .i64 ur, .int .i64 x3]) (by simp [results, Try.results117, go_sem, k1, k5]) rfl ⟨⟨d, (bl x4), x2, ur, x3⟩, by unfold okO; dsimp only; omega, rfl, ?_⟩
    apply Mem.curMore (hA := show A + 10 + 2 ≤ A + 12 by omega) (p := HP.out.again _)
    apply Mem.tail; apply Mem.tail; apply Mem.tail; apply Mem.tail; apply Mem.tail; apply Mem.tail
    (repeat' (first | with_reducible exact hM | with_reducible exact hMp | with_reducible apply Mem.drew | with_reducible apply Mem.drewN | with_reducible apply Mem.alloc | with_reducible apply Mem.set | with_reducible exact Sto.row | ((with_reducible refine Sto.rowEq2 ?_ ?_); omega; rfl) | ((with_reducible refine Sto.rowEq ?_); omega) | with_reducible apply Sto.int | with_reducible apply Sto.there | with_reducible assumption | (unfold I64; omega) | (with_reducible (have hMx := Mem.undrew hM; exact hMx)) | (with_reducible (have hMx := Mem.undrew hMp; exact hMx))))
  by_cases h2 : r = 2
  · subst h2
    go_wp2_with fail
    apply Mem.atA
    · (repeat' (first | with_reducible exact hM | with_reducible exact hMp | with_reducible apply Mem.drew | with_reducible apply Mem.drewN | with_reducible apply Mem.alloc | with_reducible apply Mem.set | with_reducible exact Sto.row | ((with_reducible refine Sto.rowEq2 ?_ ?_); omega; rfl) | ((with_reducible refine Sto.rowEq ?_); omega) | with_reducible apply Sto.int | with_reducible apply Sto.there | with_reducible assumption | (unfold I64; omega) | (with_reducible (have hMx := Mem.undrew hM; exact hMx)) | (with_reducible (have hMx := Mem.undrew hMp; exact hMx))))
    clear hM
    intro wst hM
    (try simp only [World.size_alloc, World.size_setCell, World.heap_drewN, heapDrew, Nat.add_assoc, Nat.reduceAdd, List.setIfInBounds_toArray, List.set_cons_zero, List.set_cons_succ, List.cons_append, List.nil_append] at hM)
    (first | refine (among_any [0, 100] HC.out hM (.there (.there (.there (.there (.there (.there (HP.out.again _))))))) (fun _ => .here) rfl (by decide) (by decide) (by omega) (by decide)).mono ?_)
    rintro e wc8 ⟨x4, hx4, rfl, hm⟩
    clear hM
    have hM := hm
    clear hm
    try dsimp only at hM
    obtain ⟨b40, b41⟩ := mem_boundO (lo := 0) (hi := 100) hx4 (by decide)
    clear hx4
    obtain ⟨k1, f1, l1⟩ := hM.row (.there .here)
    go_upto_region 13 with fail
    clear k1 f1 l1
    apply Mem.atWpA
    · (repeat' (first | with_reducible exact hM | with_reducible exact hMp | with_reducible apply Mem.drew | with_reducible apply Mem.drewN | with_reducible apply Mem.alloc | with_reducible apply Mem.set | with_reducible exact Sto.row | ((with_reducible refine Sto.rowEq2 ?_ ?_); omega; rfl) | ((with_reducible refine Sto.rowEq ?_); omega) | with_reducible apply Sto.int | with_reducible apply Sto.there | with_reducible assumption | (unfold I64; omega) | (with_reducible (have hMx := Mem.undrew hM; exact hMx)) | (with_reducible (have hMx := Mem.undrew hMp; exact hMx))))
    clear hM
    intro wst hM
    (try simp only [World.size_alloc, World.size_setCell, World.heap_drewN, heapDrew, Nat.add_assoc, Nat.reduceAdd, List.setIfInBounds_toArray, List.set_cons_zero, List.set_cons_succ, List.cons_append, List.nil_append] at hM)
    obtain ⟨k1, f1, l1⟩ := hM.row (.there .here)
    obtain ⟨k5, f5, l5⟩ := hM.row (.there (.there (.there (.there (.there .here)))))
    go_wp2
    refine bodyPost_ret (v := .agg #[.int .i64 d, .string x1, .int .i64 x4, .int .i64 ur, .int .i64 x3]) (by simp [results, Try.results117, go_sem, k1, k5]) rfl ⟨⟨d, (bl x1), x4, ur, x3⟩, by unfold okO; dsimp only; omega, rfl, ?_⟩
    apply Mem.curMore (hA := show A + 10 + 2 ≤ A + 12 by omega) (p := HP.out.again _)
    apply Mem.tail; apply Mem.tail; apply Mem.tail; apply Mem.tail; apply Mem.tail; apply Mem.tail
    (repeat' (first | with_reducible exact hM | with_reducible exact hMp | with_reducible apply Mem.drew | with_reducible apply Mem.drewN | with_reducible apply Mem.alloc | with_reducible apply Mem.set | with_reducible exact Sto.row | ((with_reducible refine Sto.rowEq2 ?_ ?_); omega; rfl) | ((with_reducible refine Sto.rowEq ?_); omega) | with_reducible apply Sto.int | with_reducible apply Sto.there | with_reducible assumption | (unfold I64; omega) | (with_reducible (have hMx := Mem.undrew hM; exact hMx)) | (with_reducible (have hMx := Mem.undrew hMp; exact hMx))))
  by_cases h3 : r = 3
  · subst h3
    go_wp2_with fail
    apply Mem.atA
    · (repeat' (first | with_reducible exact hM | with_reducible exact hMp | with_reducible apply Mem.drew | with_reducible apply Mem.drewN | with_reducible apply Mem.alloc | with_reducible apply Mem.set | with_reducible exact Sto.row | ((with_reducible refine Sto.rowEq2 ?_ ?_); omega; rfl) | ((with_reducible refine Sto.rowEq ?_); omega) | with_reducible apply Sto.int | with_reducible apply Sto.there | with_reducible assumption | (unfold I64; omega) | (with_reducible (have hMx := Mem.undrew hM; exact hMx)) | (with_reducible (have hMx := Mem.undrew hMp; exact hMx))))
    clear hM
    intro wst hM
    (try simp only [World.size_alloc, World.size_setCell, World.heap_drewN, heapDrew, Nat.add_assoc, Nat.reduceAdd, List.setIfInBounds_toArray, List.set_cons_zero, List.set_cons_succ, List.cons_append, List.nil_append] at hM)
    (first | refine (among_any [0, 6] HC.out hM (.there (.there (.there (.there (.there (.there (HP.out.again _))))))) (fun _ => .here) rfl (by decide) (by decide) (by omega) (by decide)).mono ?_)
    rintro e wc9 ⟨x4, hx4, rfl, hm⟩
    clear hM
    have hM := hm
    clear hm
    try dsimp only at hM
    obtain ⟨b40, b41⟩ := mem_boundO (lo := 0) (hi := 6) hx4 (by decide)
    clear hx4
    obtain ⟨k1, f1, l1⟩ := hM.row (.there .here)
    go_upto_region 13 with fail
    clear k1 f1 l1
    apply Mem.atWpA
    · (repeat' (first | with_reducible exact hM | with_reducible exact hMp | with_reducible apply Mem.drew | with_reducible apply Mem.drewN | with_reducible apply Mem.alloc | with_reducible apply Mem.set | with_reducible exact Sto.row | ((with_reducible refine Sto.rowEq2 ?_ ?_); omega; rfl) | ((with_reducible refine Sto.rowEq ?_); omega) | with_reducible apply Sto.int | with_reducible apply Sto.there | with_reducible assumption | (unfold I64; omega) | (with_reducible (have hMx := Mem.undrew hM; exact hMx)) | (with_reducible (have hMx := Mem.undrew hMp; exact hMx))))
    clear hM
    intro wst hM
    (try simp only [World.size_alloc, World.size_setCell, World.heap_drewN, heapDrew, Nat.add_assoc, Nat.reduceAdd, List.setIfInBounds_toArray, List.set_cons_zero, List.set_cons_succ, List.cons_append, List.nil_append] at hM)
    obtain ⟨k1, f1, l1⟩ := hM.row (.there .here)
    obtain ⟨k5, f5, l5⟩ := hM.row (.there (.there (.there (.there (.there .here)))))
    go_wp2
    refine bodyPost_ret (v := .agg #[.int .i64 d, .string x1, .int .i64 x2, .int .i64 x4, .int .i64 x3]) (by simp [results, Try.results117, go_sem, k1, k5]) rfl ⟨⟨d, (bl x1), x2, x4, x3⟩, by unfold okO; dsimp only; omega, rfl, ?_⟩
    apply Mem.curMore (hA := show A + 10 + 2 ≤ A + 12 by omega) (p := HP.out.again _)
    apply Mem.tail; apply Mem.tail; apply Mem.tail; apply Mem.tail; apply Mem.tail; apply Mem.tail
    (repeat' (first | with_reducible exact hM | with_reducible exact hMp | with_reducible apply Mem.drew | with_reducible apply Mem.drewN | with_reducible apply Mem.alloc | with_reducible apply Mem.set | with_reducible exact Sto.row | ((with_reducible refine Sto.rowEq2 ?_ ?_); omega; rfl) | ((with_reducible refine Sto.rowEq ?_); omega) | with_reducible apply Sto.int | with_reducible apply Sto.there | with_reducible assumption | (unfold I64; omega) | (with_reducible (have hMx := Mem.undrew hM; exact hMx)) | (with_reducible (have hMx := Mem.undrew hMp; exact hMx))))
  by_cases h4 : r = 4
  · subst h4
    go_wp2_with fail
    apply Mem.atA
    · (repeat' (first | with_reducible exact hM | with_reducible exact hMp | with_reducible apply Mem.drew | with_reducible apply Mem.drewN | with_reducible apply Mem.alloc | with_reducible apply Mem.set | with_reducible exact Sto.row | ((with_reducible refine Sto.rowEq2 ?_ ?_); omega; rfl) | ((with_reducible refine Sto.rowEq ?_); omega) | with_reducible apply Sto.int | with_reducible apply Sto.there | with_reducible assumption | (unfold I64; omega) | (with_reducible (have hMx := Mem.undrew hM; exact hMx)) | (with_reducible (have hMx := Mem.undrew hMp; exact hMx))))
    clear hM
    intro wst hM
    (try simp only [World.size_alloc, World.size_setCell, World.heap_drewN, heapDrew, Nat.add_assoc, Nat.reduceAdd, List.setIfInBounds_toArray, List.set_cons_zero, List.set_cons_succ, List.cons_append, List.nil_append] at hM)
    (first | refine (among_any [-1, 10000] HC.out hM (.there (.there (.there (.there (.there (.there (HP.out.again _))))))) (fun _ => .here) rfl (by decide) (by decide) (by omega) (by decide)).mono ?_)
    rintro e wc10 ⟨x4, hx4, rfl, hm⟩
    clear hM
    have hM := hm
    clear hm
    try dsimp only at hM
    obtain ⟨b40, b41⟩ := mem_boundO (lo := -1) (hi := 10000) hx4 (by decide)
    clear hx4
    obtain ⟨k1, f1, l1⟩ := hM.row (.there .here)
    go_upto_region 13 with fail
    clear k1 f1 l1
    apply Mem.atWpA
    · (repeat' (first | with_reducible exact hM | with_reducible exact hMp | with_reducible apply Mem.drew | with_reducible apply Mem.drewN | with_reducible apply Mem.alloc | with_reducible apply Mem.set | with_reducible exact Sto.row | ((with_reducible refine Sto.rowEq2 ?_ ?_); omega; rfl) | ((with_reducible refine Sto.rowEq ?_); omega) | with_reducible apply Sto.int | with_reducible apply Sto.there | with_reducible assumption | (unfold I64; omega) | (with_reducible (have hMx := Mem.undrew hM; exact hMx)) | (with_reducible (have hMx := Mem.undrew hMp; exact hMx))))
    clear hM
    intro wst hM
    (try simp only [World.size_alloc, World.size_setCell, World.heap_drewN, heapDrew, Nat.add_assoc, Nat.reduceAdd, List.setIfInBounds_toArray, List.set_cons_zero, List.set_cons_succ, List.cons_append, List.nil_append] at hM)
    obtain ⟨k1, f1, l1⟩ := hM.row (.there .here)
    obtain ⟨k5, f5, l5⟩ := hM.row (.there (.there (.there (.there (.there .here)))))
    go_wp2
    refine bodyPost_ret (v := .agg #[.int .i64 d, .string x1, .int .i64 x2, .int .i64 ur, .int .i64 x4]) (by simp [results, Try.results117, go_sem, k1, k5]) rfl ⟨⟨d, (bl x1), x2, ur, x4⟩, by unfold okO; dsimp only; omega, rfl, ?_⟩
    apply Mem.curMore (hA := show A + 10 + 2 ≤ A + 12 by omega) (p := HP.out.again _)
    apply Mem.tail; apply Mem.tail; apply Mem.tail; apply Mem.tail; apply Mem.tail; apply Mem.tail
    (repeat' (first | with_reducible exact hM | with_reducible exact hMp | with_reducible apply Mem.drew | with_reducible apply Mem.drewN | with_reducible apply Mem.alloc | with_reducible apply Mem.set | with_reducible exact Sto.row | ((with_reducible refine Sto.rowEq2 ?_ ?_); omega; rfl) | ((with_reducible refine Sto.rowEq ?_); omega) | with_reducible apply Sto.int | with_reducible apply Sto.there | with_reducible assumption | (unfold I64; omega) | (with_reducible (have hMx := Mem.undrew hM; exact hMx)) | (with_reducible (have hMx := Mem.undrew hMp; exact hMx))))
  have h0' : ¬ (r : Int) = 0 := by omega
  have h1' : ¬ (r : Int) = 1 := by omega
  have h2' : ¬ (r : Int) = 2 := by omega
  have h3' : ¬ (r : Int) = 3 := by omega
  have h4' : ¬ (r : Int) = 4 := by omega
  clear h0 h1 h2 h3 h4
  obtain ⟨k0, f0, l0⟩ := hM.row .here
  obtain ⟨k4, f4, l4⟩ := hM.row (.there (.there (.there (.there .here))))
  go_wp2
  refine bodyPost_ret (v := .agg #[.int .i64 d, .string x1, .int .i64 x2, .int .i64 ur, .int .i64 x3]) (by simp [results, Try.results117, go_sem, k0, k4]) rfl ⟨⟨d, (bl x1), x2, ur, x3⟩, by unfold okO; dsimp only; omega, rfl, ?_⟩
  apply Mem.curMore (hA := show A + 8 + 2 ≤ A + 12 by omega) (p := HP.out.again _)
  apply Mem.tail; apply Mem.tail; apply Mem.tail; apply Mem.tail; apply Mem.tail
  (repeat' (first | with_reducible exact hM | with_reducible exact hMp | with_reducible apply Mem.drew | with_reducible apply Mem.drewN | with_reducible apply Mem.alloc | with_reducible apply Mem.set | with_reducible exact Sto.row | ((with_reducible refine Sto.rowEq2 ?_ ?_); omega; rfl) | ((with_reducible refine Sto.rowEq ?_); omega) | with_reducible apply Sto.int | with_reducible apply Sto.there | with_reducible assumption | (unfold I64; omega) | (with_reducible (have hMx := Mem.undrew hM; exact hMx)) | (with_reducible (have hMx := Mem.undrew hMp; exact hMx))))
end Go.Proofs.Ytfnaenekdenmkaa
