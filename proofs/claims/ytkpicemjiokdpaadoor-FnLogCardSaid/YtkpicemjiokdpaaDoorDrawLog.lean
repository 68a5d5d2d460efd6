/-
  The reference's draws of records and logs.
-/
import Derived.Test.YtkpicemjiokdpaaDoorPack
import Derived.Test.YtkpicemjiokdpaaDoorLogR
import Derived.Test.YtkpicemjiokdpaaDoorByt2
namespace Go.Proofs.YtkpicemjiokdpaaDoor
set_option linter.unusedSimpArgs false
set_option linter.unusedVariables false
open Go.RowKit

theorem Tryd.info5 : (Tryd.prog.info? 5).map (fun i => (i.zero, i.size, i.bytes)) = some (some (.int .u8 0), 1, 1) := by kernel_rfl
theorem small_of {x : ByteArray} {xs : List ByteArray} (h : x ∈ xs) (hs : xs.all (fun y => decide (y.size ≤ 20)) = true) : (bl x).length ≤ 20 := by
  have := List.all_eq_true.1 hs x h
  exact of_decide_eq_true this

set_option maxRecDepth 100000 in
set_option maxHeartbeats 8000000 in
theorem logRecord_any {g : Nat} {ac : Option Addr} {nc cc : Nat} {l : List UInt8} {A : Nat} {w0 w : World} {G : List Ent} {F : Ent → List Ent} (hC : Rd FByt w0 ac nc cc l) (hM : Mem w0.heap.size w0 w G) (p : At G (curE g ac nc cc A) F) (hA : A ≤ 100000000) :
    Calls Tryd.prog 63 #[.pointer (some ⟨g, 0, none⟩)] w fun e w' => ∃ c r : Bs, c.length ≤ 20 ∧ r.length ≤ 20 ∧ e = .returned (.agg #[.string (bsA c), .string (bsA r)]) ∧ Mem w0.heap.size w0 w' (F (curE g ac nc cc (A + 8))) := by
  have HP := Lib.hid p
  have HC := Lib.hid hC
  clear p hC
  go_enter Tryd.func63, Tryd.ntmps63
  go_wp2_with fail
  apply Mem.atA
  · (repeat' (first | with_reducible exact hM | with_reducible exact hMp | with_reducible apply Mem.drew | with_reducible apply Mem.drewN | with_reducible apply Mem.alloc | with_reducible apply Mem.set | with_reducible exact Sto.row | ((with_reducible refine Sto.rowEq2 ?_ ?_); omega; rfl) | ((with_reducible refine Sto.rowEq ?_); omega) | with_reducible apply Sto.int | with_reducible apply Sto.there | with_reducible assumption | (unfold I64; omega) | (with_reducible (have hMx := Mem.undrew hM; exact hMx)) | (with_reducible (have hMx := Mem.undrew hMp; exact hMx))))
  clear hM
  intro wst hM
  (try simp only [World.size_alloc, World.size_setCell, World.heap_drewN, heapDrew, Nat.add_assoc, Nat.reduceAdd, List.setIfInBounds_toArray, List.set_cons_zero, List.set_cons_succ, List.cons_append, List.nil_append] at hM)
  refine (of_any [⟨#[99, 111, 117, 110, 116]⟩, ⟨#[115, 111, 114, 116, 32, 109, 101, 114, 103, 101]⟩, ⟨#[120]⟩, ⟨#[115, 101, 108, 101, 99, 116, 32, 50]⟩, ⟨#[48, 32, 49]⟩] HC.out hM (.there (.there HP.out)) (fun _ => .here) rfl (by decide) (by decide) (by omega) (by decide)).mono ?_
  rintro e wc1 ⟨x1, hx1, rfl, hm⟩
  clear hM
  have hM := hm
  clear hm
  try dsimp only at hM
  go_wp2_with fail
  apply Mem.atA
  · (repeat' (first | with_reducible exact hM | with_reducible exact hMp | with_reducible apply Mem.drew | with_reducible apply Mem.drewN | with_reducible apply Mem.alloc | with_reducible apply Mem.set | with_reducible exact Sto.row | ((with_reducible refine Sto.rowEq2 ?_ ?_); omega; rfl) | ((with_reducible refine Sto.rowEq ?_); omega) | with_reducible apply Sto.int | with_reducible apply Sto.there | with_reducible assumption | (unfold I64; omega) | (with_reducible (have hMx := Mem.undrew hM; exact hMx)) | (with_reducible (have hMx := Mem.undrew hMp; exact hMx))))
  clear hM
  intro wst hM
  (try simp only [World.size_alloc, World.size_setCell, World.heap_drewN, heapDrew, Nat.add_assoc, Nat.reduceAdd, List.setIfInBounds_toArray, List.set_cons_zero, List.set_cons_succ, List.cons_append, List.nil_append] at hM)
  refine (of_any [⟨#[]⟩, ⟨#[51]⟩, ⟨#[63]⟩, ⟨#[97, 64, 98]⟩, ⟨#[51, 32, 49, 32, 50]⟩] HC.out hM (.there (.there (.there (HP.out.again _)))) (fun _ => .here) rfl (by decide) (by decide) (by omega) (by decide)).mono ?_
  rintro e wc2 ⟨x2, hx2, rfl, hm⟩
  clear hM
  have hM := hm
  clear hm
  try dsimp only at hM
  have hs1 := small_of hx1 (by decide)
  have hs2 := small_of hx2 (by decide)
  clear hx1 hx2
  go_wp2_with fail
  apply Mem.atA
  · (repeat' (first | with_reducible exact hM | with_reducible exact hMp | with_reducible apply Mem.drew | with_reducible apply Mem.drewN | with_reducible apply Mem.alloc | with_reducible apply Mem.set | with_reducible exact Sto.row | ((with_reducible refine Sto.rowEq2 ?_ ?_); omega; rfl) | ((with_reducible refine Sto.rowEq ?_); omega) | with_reducible apply Sto.int | with_reducible apply Sto.there | with_reducible assumption | (unfold I64; omega) | (with_reducible (have hMx := Mem.undrew hM; exact hMx)) | (with_reducible (have hMx := Mem.undrew hMp; exact hMx))))
  clear hM
  intro wst hM
  (try simp only [World.size_alloc, World.size_setCell, World.heap_drewN, heapDrew, Nat.add_assoc, Nat.reduceAdd, List.setIfInBounds_toArray, List.set_cons_zero, List.set_cons_succ, List.cons_append, List.nil_append] at hM)
  refine (pick_any 24 HC.out hM (.there (.there (.there (.there (HP.out.again _))))) (by omega)).mono ?_
  rintro e wc3 ⟨r, hb, hr, rfl, hm⟩
  clear hM
  have hM := hm
  clear hm
  try dsimp only at hM
  by_cases h0 : r = 0
  · subst h0
    obtain ⟨i0, hi, hz0, hz1, hz2⟩ := info_parts Tryd.info5
    go_wp2_with (at_make; apply Mem.atL; (focus ((repeat' (first | with_reducible exact hM | with_reducible exact hMp | with_reducible apply Mem.drew | with_reducible apply Mem.drewN | with_reducible apply Mem.alloc | with_reducible apply Mem.set | with_reducible exact Sto.row | ((with_reducible refine Sto.rowEq2 ?_ ?_); omega; rfl) | ((with_reducible refine Sto.rowEq ?_); omega) | with_reducible apply Sto.int | with_reducible apply Sto.there | with_reducible assumption | (unfold I64; omega) | (with_reducible (have hMx := Mem.undrew hM; exact hMx)) | (with_reducible (have hMx := Mem.undrew hMp; exact hMx)))); done)); clear hM; intro hM; refine wpList_make_full _ rfl _ _ 53 rfl wc3.heap.size 5 i0 (.int .u8 0) 1 Tryd.underlying53 hi hz0 hz1 .i64 .i64 3 3 3 rfl rfl rfl rfl ?b1 ?b2 ?b3 ?_)
    case b1 => rw [hz2]; omega
    case b2 => unfold maxLen; omega
    case b3 => exact Nat.le_refl _
    intro w4 hown hg
    have hO : Ow FByt 5 wc3.heap.size w4 (some ⟨wc3.heap.size, 0, none⟩) 3 3 (List.replicate 3 (0 : UInt8)) := ow_made (zs := #[.int .u8 0]) rfl hown (by show 3 * 1 ≤ _; omega) trivial
    have hcz : ∀ j (hj : j < ([0, 0, 0] : Bs).length), w4.cell? ⟨wc3.heap.size, j, none⟩ = some (.int .u8 (([0, 0, 0] : Bs)[j].toNat : Int)) := by
      intro j hj
      have hj3 : j < 3 := hj
      have h1 := hO.cell (i := j) hj3 (j := 0) (by decide)
      have h2 : (List.replicate 3 (0 : UInt8)).getD j FByt.z = ([0, 0, 0] : Bs)[j] := by
        rcases (by omega : j = 0 ∨ j = 1 ∨ j = 2) with rfl | rfl | rfl <;> rfl
      rw [h2] at h1
      simpa [FByt] using h1
    have HCZ := Lib.hid hcz
    replace hM := hM.owned ((Below.refl _ _).grown hg (Nat.le_refl _) (by intro k hk; cases hk)) hO
    clear hown hg hO hcz hi hz0 hz1 hz2 i0
    go_wp2_with (refine wpList_toStringC (l := [0, 0, 0]) HCZ.out rfl 53 9 5 (.tmp 16) rfl rfl Tryd.underlying53 Tryd.underlying5 Tryd.underlying9 ?_)
    clear HCZ
    go_wp2_with fail
    apply Mem.atA
    · (repeat' (first | with_reducible exact hM | with_reducible exact hMp | with_reducible apply Mem.drew | with_reducible apply Mem.drewN | with_reducible apply Mem.alloc | with_reducible apply Mem.set | with_reducible exact Sto.row | ((with_reducible refine Sto.rowEq2 ?_ ?_); omega; rfl) | ((with_reducible refine Sto.rowEq ?_); omega) | with_reducible apply Sto.int | with_reducible apply Sto.there | with_reducible assumption | (unfold I64; omega) | (with_reducible (have hMx := Mem.undrew hM; exact hMx)) | (with_reducible (have hMx := Mem.undrew hMp; exact hMx))))
    clear hM
    intro wst hM
    (try simp only [World.size_alloc, World.size_setCell, World.heap_drewN, heapDrew, Nat.add_assoc, Nat.reduceAdd, List.setIfInBounds_toArray, List.set_cons_zero, List.set_cons_succ, List.cons_append, List.nil_append] at hM)
    refine (of_any [⟨#[]⟩, ⟨#[97, 64, 98]⟩, ⟨#[97, 35]⟩, ⟨#[10]⟩, bsA [0, 0, 0]] HC.out hM (.there (.there (.there (.there (.there (.there (HP.out.again _))))))) (fun _ => .here) rfl (by decide) (by decide) (by omega) (by decide)).mono ?_
    rintro e wc4 ⟨x3, hx3, rfl, hm⟩
    clear hM
    have hM := hm
    clear hm
    try dsimp only at hM
    have hs3 := small_of hx3 (by decide)
    obtain ⟨k2, f2, l2⟩ := hM.row (.there (.there .here))
    go_upto_region 7 with fail
    clear k2 f2 l2
    apply Mem.atWpA
    · (repeat' (first | with_reducible exact hM | with_reducible exact hMp | with_reducible apply Mem.drew | with_reducible apply Mem.drewN | with_reducible apply Mem.alloc | with_reducible apply Mem.set | with_reducible exact Sto.row | ((with_reducible refine Sto.rowEq2 ?_ ?_); omega; rfl) | ((with_reducible refine Sto.rowEq ?_); omega) | with_reducible apply Sto.int | with_reducible apply Sto.there | with_reducible assumption | (unfold I64; omega) | (with_reducible (have hMx := Mem.undrew hM; exact hMx)) | (with_reducible (have hMx := Mem.undrew hMp; exact hMx))))
    clear hM
    intro wst hM
    (try simp only [World.size_alloc, World.size_setCell, World.heap_drewN, heapDrew, Nat.add_assoc, Nat.reduceAdd, List.setIfInBounds_toArray, List.set_cons_zero, List.set_cons_succ, List.cons_append, List.nil_append] at hM)
    obtain ⟨k2, f2, l2⟩ := hM.row (.there (.there .here))
    obtain ⟨k5, f5, l5⟩ := hM.row (.there (.there (.there (.there (.there .here)))))
    go_wp2
    refine bodyPost_ret (v := .agg #[.string x3, .string x2]) (by simp [results, Tryd.results63, go_sem, k2, k5]) rfl ⟨bl x3, bl x2, hs3, hs2, rfl, ?_⟩
    apply Mem.curMore (hA := show A + 6 + 2 ≤ A + 8 by omega) (p := HP.out.again _)
    apply Mem.tail; apply Mem.tail; apply Mem.tail; apply Mem.tail; apply Mem.tail; apply Mem.tail
    (repeat' (first | with_reducible exact hM | with_reducible exact hMp | with_reducible apply Mem.drew | with_reducible apply Mem.drewN | with_reducible apply Mem.alloc | with_reducible apply Mem.set | with_reducible exact Sto.row | ((with_reducible refine Sto.rowEq2 ?_ ?_); omega; rfl) | ((with_reducible refine Sto.rowEq ?_); omega) | with_reducible apply Sto.int | with_reducible apply Sto.there | with_reducible assumption | (unfold I64; omega) | (with_reducible (have hMx := Mem.undrew hM; exact hMx)) | (with_reducible (have hMx := Mem.undrew hMp; exact hMx))))
  by_cases h1 : r = 1
  · subst h1
    obtain ⟨k0, f0, l0⟩ := hM.row .here
    go_wp2_with fail
    clear k0 f0 l0
    apply Mem.atA
    · (repeat' (first | with_reducible exact hM | with_reducible exact hMp | with_reducible apply Mem.drew | with_reducible apply Mem.drewN | with_reducible apply Mem.alloc | with_reducible apply Mem.set | with_reducible exact Sto.row | ((with_reducible refine Sto.rowEq2 ?_ ?_); omega; rfl) | ((with_reducible refine Sto.rowEq ?_); omega) | with_reducible apply Sto.int | with_reducible apply Sto.there | with_reducible assumption | (unfold I64; omega) | (with_reducible (have hMx := Mem.undrew hM; exact hMx)) | (with_reducible (have hMx := Mem.undrew hMp; exact hMx))))
    clear hM
    intro wst hM
    (try simp only [World.size_alloc, World.size_setCell, World.heap_drewN, heapDrew, Nat.add_assoc, Nat.reduceAdd, List.setIfInBounds_toArray, List.set_cons_zero, List.set_cons_succ, List.cons_append, List.nil_append] at hM)
    refine (of_any [⟨#[35]⟩, ⟨#[10]⟩, ⟨#[127]⟩] HC.out hM (.there (.there (.there (.there (.there (HP.out.again _)))))) (fun _ => .here) rfl (by decide) (by decide) (by omega) (by decide)).mono ?_
    rintro e wc5 ⟨x3, hx3, rfl, hm⟩
    clear hM
    have hM := hm
    clear hm
    try dsimp only at hM
    have hs3 := small_of hx3 (by decide)
    obtain ⟨k1, f1, l1⟩ := hM.row (.there .here)
    go_upto_region 7 with fail
    clear k1 f1 l1
    apply Mem.atWpA
    · (repeat' (first | with_reducible exact hM | with_reducible exact hMp | with_reducible apply Mem.drew | with_reducible apply Mem.drewN | with_reducible apply Mem.alloc | with_reducible apply Mem.set | with_reducible exact Sto.row | ((with_reducible refine Sto.rowEq2 ?_ ?_); omega; rfl) | ((with_reducible refine Sto.rowEq ?_); omega) | with_reducible apply Sto.int | with_reducible apply Sto.there | with_reducible assumption | (unfold I64; omega) | (with_reducible (have hMx := Mem.undrew hM; exact hMx)) | (with_reducible (have hMx := Mem.undrew hMp; exact hMx))))
    clear hM
    intro wst hM
    (try simp only [World.size_alloc, World.size_setCell, World.heap_drewN, heapDrew, Nat.add_assoc, Nat.reduceAdd, List.setIfInBounds_toArray, List.set_cons_zero, List.set_cons_succ, List.cons_append, List.nil_append] at hM)
    obtain ⟨k1, f1, l1⟩ := hM.row (.there .here)
    obtain ⟨k4, f4, l4⟩ := hM.row (.there (.there (.there (.there .here))))
    go_wp2
    refine bodyPost_ret (v := .agg #[.string x1, .string x3]) (by simp [results, Tryd.results63, go_sem, k1, k4]) rfl ⟨bl x1, bl x3, hs1, hs3, rfl, ?_⟩
    apply Mem.curMore (hA := show A + 6 + 2 ≤ A + 8 by omega) (p := HP.out.again _)
    apply Mem.tail; apply Mem.tail; apply Mem.tail; apply Mem.tail; apply Mem.tail
    (repeat' (first | with_reducible exact hM | with_reducible exact hMp | with_reducible apply Mem.drew | with_reducible apply Mem.drewN | with_reducible apply Mem.alloc | with_reducible apply Mem.set | with_reducible exact Sto.row | ((with_reducible refine Sto.rowEq2 ?_ ?_); omega; rfl) | ((with_reducible refine Sto.rowEq ?_); omega) | with_reducible apply Sto.int | with_reducible apply Sto.there | with_reducible assumption | (unfold I64; omega) | (with_reducible (have hMx := Mem.undrew hM; exact hMx)) | (with_reducible (have hMx := Mem.undrew hMp; exact hMx))))
  have h0' : ¬ (r : Int) = 0 := by omega
  have h1' : ¬ (r : Int) = 1 := by omega
  clear h0 h1
  obtain ⟨k0, f0, l0⟩ := hM.row .here
  obtain ⟨k3, f3, l3⟩ := hM.row (.there (.there (.there .here)))
  go_wp2
  refine bodyPost_ret (v := .agg #[.string x1, .string x2]) (by simp [results, Tryd.results63, go_sem, k0, k3]) rfl ⟨bl x1, bl x2, hs1, hs2, rfl, ?_⟩
  apply Mem.curMore (hA := show A + 4 + 2 ≤ A + 8 by omega) (p := HP.out.again _)
  apply Mem.tail; apply Mem.tail; apply Mem.tail; apply Mem.tail
  (repeat' (first | with_reducible exact hM | with_reducible exact hMp | with_reducible apply Mem.drew | with_reducible apply Mem.drewN | with_reducible apply Mem.alloc | with_reducible apply Mem.set | with_reducible exact Sto.row | ((with_reducible refine Sto.rowEq2 ?_ ?_); omega; rfl) | ((with_reducible refine Sto.rowEq ?_); omega) | with_reducible apply Sto.int | with_reducible apply Sto.there | with_reducible assumption | (unfold I64; omega) | (with_reducible (have hMx := Mem.undrew hM; exact hMx)) | (with_reducible (have hMx := Mem.undrew hMp; exact hMx))))
end Go.Proofs.YtkpicemjiokdpaaDoor
