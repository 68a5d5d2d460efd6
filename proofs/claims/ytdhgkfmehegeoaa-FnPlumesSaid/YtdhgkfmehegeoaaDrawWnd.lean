/-
  The reference's draws of winds, and of the laws on smoke.
-/
import Derived.Test.YtdhgkfmehegeoaaDrawSmk
import Derived.Test.YtdhgkfmehegeoaaFlWind
import Derived.Test.YtdhgkfmehegeoaaOpCode
namespace Go.Proofs.Ytdhgkfmehegeoaa
set_option linter.unusedSimpArgs false
set_option linter.unusedVariables false
open Go.RowKit

def okW (v : WindI) : Prop := (-1 ≤ v.e ∧ v.e ≤ 1) ∧ (-1 ≤ v.s ∧ v.s ≤ 1) ∧ (0 ≤ v.q ∧ v.q ≤ 11)
theorem okW_wf {x : WindI} (h : okW x) : FWind.wf x := by
  obtain ⟨⟨a, b⟩, ⟨c, d⟩, ⟨e, f⟩⟩ := h
  refine ⟨?_, ?_, ?_⟩ <;> (unfold I64; omega)
def lenV : Value → Nat | .slice _ n _ => n | _ => 0
set_option maxRecDepth 100000 in
set_option maxHeartbeats 8000000 in
theorem wind_any {g : Nat} {ac : Option Addr} {nc cc : Nat} {l : List UInt8} {A : Nat} {w0 w : World} {G : List Ent} {F : Ent → List Ent} (hC : Rd FByt w0 ac nc cc l) (hM : Mem w0.heap.size w0 w G) (p : At G (curE g ac nc cc A) F) (hA : A ≤ 10000000) :
    Calls Try.prog 62 #[.pointer (some ⟨g, 0, none⟩)] w fun e w' => ∃ v : WindI, okW v ∧ e = .returned v.val ∧ Mem w0.heap.size w0 w' (F (curE g ac nc cc (A + 12))) := by
  have HP := Lib.hid p
  have HC := Lib.hid hC
  clear p hC
  go_enter Try.func62, Try.ntmps62
  go_wp2_with fail
  apply Mem.atA
  · (repeat' (first | with_reducible exact hM | with_reducible exact hMp | with_reducible apply Mem.drew | with_reducible apply Mem.drewN | with_reducible apply Mem.alloc | with_reducible apply Mem.set | with_reducible exact Sto.row | ((with_reducible refine Sto.rowEq2 ?_ ?_); omega; rfl) | ((with_reducible refine Sto.rowEq ?_); omega) | with_reducible apply Sto.int | with_reducible apply Sto.there | with_reducible assumption | (unfold I64; omega) | (with_reducible (have hMx := Mem.undrew hM; exact hMx)) | (with_reducible (have hMx := Mem.undrew hMp; exact hMx))))
  clear hM
  intro wst hM
  (try simp only [World.size_alloc, World.size_setCell, World.heap_drewN, heapDrew, Nat.add_assoc, Nat.reduceAdd, List.setIfInBounds_toArray, List.set_cons_zero, List.set_cons_succ, List.cons_append, List.nil_append] at hM)
  refine (pick_any 3 HC.out hM (.there HP.out) (by omega)).mono ?_
  rintro e wc1 ⟨r1, hr, hr2, rfl, hm⟩
  clear hM
  have hM := hm
  clear hm
  try dsimp only at hM
  have hr15 := pick_lt hr (by omega)
  clear hr hr2
  obtain ⟨x, hx⟩ : ∃ x : Int, x = (r1 : Int) - 1 := ⟨_, rfl⟩
  have hw1 : IntKind.i64.wrap ((r1 : Int) - 1) = x := by rw [wrap_in (by omega)]; omega
  have hxb : -1 ≤ x ∧ x ≤ 1 := by omega
  clear hx
  go_wp2_with fail
  apply Mem.atA
  · (repeat' (first | with_reducible exact hM | with_reducible exact hMp | with_reducible apply Mem.drew | with_reducible apply Mem.drewN | with_reducible apply Mem.alloc | with_reducible apply Mem.set | with_reducible exact Sto.row | ((with_reducible refine Sto.rowEq2 ?_ ?_); omega; rfl) | ((with_reducible refine Sto.rowEq ?_); omega) | with_reducible apply Sto.int | with_reducible apply Sto.there | with_reducible assumption | (unfold I64; omega) | (with_reducible (have hMx := Mem.undrew hM; exact hMx)) | (with_reducible (have hMx := Mem.undrew hMp; exact hMx))))
  clear hM
  intro wst hM
  (try simp only [World.size_alloc, World.size_setCell, World.heap_drewN, heapDrew, Nat.add_assoc, Nat.reduceAdd, List.setIfInBounds_toArray, List.set_cons_zero, List.set_cons_succ, List.cons_append, List.nil_append] at hM)
  refine (pick_any 3 HC.out hM (.there (HP.out.again _)) (by omega)).mono ?_
  rintro e wc2 ⟨r2, hr, hr2, rfl, hm⟩
  clear hM
  have hM := hm
  clear hm
  try dsimp only at hM
  have hr25 := pick_lt hr (by omega)
  clear hr hr2 hw1
  obtain ⟨y, hy⟩ : ∃ y : Int, y = (r2 : Int) - 1 := ⟨_, rfl⟩
  have hw1 : IntKind.i64.wrap ((r2 : Int) - 1) = y := by rw [wrap_in (by omega)]; omega
  have hyb : -1 ≤ y ∧ y ≤ 1 := by omega
  clear hy
  go_wp2_with fail
  apply Mem.atA
  · (repeat' (first | with_reducible exact hM | with_reducible exact hMp | with_reducible apply Mem.drew | with_reducible apply Mem.drewN | with_reducible apply Mem.alloc | with_reducible apply Mem.set | with_reducible exact Sto.row | ((with_reducible refine Sto.rowEq2 ?_ ?_); omega; rfl) | ((with_reducible refine Sto.rowEq ?_); omega) | with_reducible apply Sto.int | with_reducible apply Sto.there | with_reducible assumption | (unfold I64; omega) | (with_reducible (have hMx := Mem.undrew hM; exact hMx)) | (with_reducible (have hMx := Mem.undrew hMp; exact hMx))))
  clear hM
  intro wst hM
  (try simp only [World.size_alloc, World.size_setCell, World.heap_drewN, heapDrew, Nat.add_assoc, Nat.reduceAdd, List.setIfInBounds_toArray, List.set_cons_zero, List.set_cons_succ, List.cons_append, List.nil_append] at hM)
  refine (pick_any 10 HC.out hM (.there (HP.out.again _)) (by omega)).mono ?_
  rintro e wc3 ⟨r3, hr, hr2, rfl, hm⟩
  clear hM
  have hM := hm
  clear hm
  try dsimp only at hM
  have hr35 := pick_lt hr (by omega)
  clear hr hr2 hw1
  obtain ⟨q, hq⟩ : ∃ q : Int, q = 1 + (r3 : Int) := ⟨_, rfl⟩
  have hw1 : IntKind.i64.wrap (1 + (r3 : Int)) = q := by rw [wrap_in (by omega)]; omega
  have hqb : 0 ≤ q ∧ q ≤ 11 := by omega
  clear hq
  go_upto_region 2 with fail
  apply Mem.atWpA
  · (repeat' (first | with_reducible exact hM | with_reducible exact hMp | with_reducible apply Mem.drew | with_reducible apply Mem.drewN | with_reducible apply Mem.alloc | with_reducible apply Mem.set | with_reducible exact Sto.row | ((with_reducible refine Sto.rowEq2 ?_ ?_); omega; rfl) | ((with_reducible refine Sto.rowEq ?_); omega) | with_reducible apply Sto.int | with_reducible apply Sto.there | with_reducible assumption | (unfold I64; omega) | (with_reducible (have hMx := Mem.undrew hM; exact hMx)) | (with_reducible (have hMx := Mem.undrew hMp; exact hMx))))
  clear hM
  intro wst hM
  (try simp only [World.size_alloc, World.size_setCell, World.heap_drewN, heapDrew, Nat.add_assoc, Nat.reduceAdd, List.setIfInBounds_toArray, List.set_cons_zero, List.set_cons_succ, List.cons_append, List.nil_append] at hM)
  clear hw1
  replace hM := hM.curMore (A' := A + 6) (.there (.there (HP.out.again _))) (by omega)
  go_cut [26] (fun s26 wx => ∃ b : Bool, s26 = .bool b ∧ Mem w0.heap.size w0 wx (rowE wc3.heap.size 37 #[.int .i64 x, .int .i64 y, .int .i64 q] :: rowE w.heap.size 37 #[.int .i64 0, .int .i64 0, .int .i64 0] :: F (curE g ac nc cc (A + 8))))
  case first =>
    by_cases hx0 : x = 0
    · subst hx0
      by_cases hy0 : y = 0
      · subst hy0
        obtain ⟨k0, f0, l0⟩ := hM.row .here
        go_wp2_with fail
        clear k0 f0 l0
        apply Mem.atA
        · (repeat' (first | with_reducible exact hM | with_reducible exact hMp | with_reducible apply Mem.drew | with_reducible apply Mem.drewN | with_reducible apply Mem.alloc | with_reducible apply Mem.set | with_reducible exact Sto.row | ((with_reducible refine Sto.rowEq2 ?_ ?_); omega; rfl) | ((with_reducible refine Sto.rowEq ?_); omega) | with_reducible apply Sto.int | with_reducible apply Sto.there | with_reducible assumption | (unfold I64; omega) | (with_reducible (have hMx := Mem.undrew hM; exact hMx)) | (with_reducible (have hMx := Mem.undrew hMp; exact hMx))))
        clear hM
        intro wst hM
        (try simp only [World.size_alloc, World.size_setCell, World.heap_drewN, heapDrew, Nat.add_assoc, Nat.reduceAdd, List.setIfInBounds_toArray, List.set_cons_zero, List.set_cons_succ, List.cons_append, List.nil_append] at hM)
        refine (one_any 6 HC.out hM (.there (.there (HP.out.again _))) (by omega)).mono ?_
        rintro e wc4 ⟨b, rfl, hm⟩
        clear hM
        have hM := hm
        clear hm
        try dsimp only at hM
        go_wp2_with fail
        go_meet
        exact ⟨_, rfl, hM⟩
      · have hyy : (y == 0) = false := by simpa using hy0
        obtain ⟨k0, f0, l0⟩ := hM.row .here
        go_wp2_with fail
        go_meet
        exact ⟨_, rfl, hM.curMore (.there (.there (HP.out.again _))) (by omega)⟩
    · have hxx : (x == 0) = false := by simpa using hx0
      obtain ⟨k0, f0, l0⟩ := hM.row .here
      go_wp2_with fail
      go_meet
      exact ⟨_, rfl, hM.curMore (.there (.there (HP.out.again _))) (by omega)⟩
  case rest =>
    clear hM
    obtain ⟨b, rfl, hM⟩ := hcut
    go_upto_if 26 with fail
    go_cut [] (fun wx => ∃ z : Int, (-1 ≤ z ∧ z ≤ 1) ∧ Mem w0.heap.size w0 wx (rowE wc3.heap.size 37 #[.int .i64 z, .int .i64 y, .int .i64 q] :: rowE w.heap.size 37 #[.int .i64 0, .int .i64 0, .int .i64 0] :: F (curE g ac nc cc (A + 8))))
    case first =>
      cases b
      · go_wp2_with fail
        go_meet
        exact ⟨x, hxb, hM⟩
      · skip
        obtain ⟨k0, f0, l0⟩ := hM.row .here
        go_wp2_with fail
        go_meet
        exact ⟨1, by omega, by (repeat' (first | with_reducible exact hM | with_reducible exact hMp | with_reducible apply Mem.drew | with_reducible apply Mem.drewN | with_reducible apply Mem.alloc | with_reducible apply Mem.set | with_reducible exact Sto.row | ((with_reducible refine Sto.rowEq2 ?_ ?_); omega; rfl) | ((with_reducible refine Sto.rowEq ?_); omega) | with_reducible apply Sto.int | with_reducible apply Sto.there | with_reducible assumption | (unfold I64; omega) | (with_reducible (have hMx := Mem.undrew hM; exact hMx)) | (with_reducible (have hMx := Mem.undrew hMp; exact hMx))))⟩
    case rest =>
      clear hM
      obtain ⟨z, hzb, hM⟩ := hcut
      go_wp2_with fail
      apply Mem.atA
      · (repeat' (first | with_reducible exact hM | with_reducible exact hMp | with_reducible apply Mem.drew | with_reducible apply Mem.drewN | with_reducible apply Mem.alloc | with_reducible apply Mem.set | with_reducible exact Sto.row | ((with_reducible refine Sto.rowEq2 ?_ ?_); omega; rfl) | ((with_reducible refine Sto.rowEq ?_); omega) | with_reducible apply Sto.int | with_reducible apply Sto.there | with_reducible assumption | (unfold I64; omega) | (with_reducible (have hMx := Mem.undrew hM; exact hMx)) | (with_reducible (have hMx := Mem.undrew hMp; exact hMx))))
      clear hM
      intro wst hM
      (try simp only [World.size_alloc, World.size_setCell, World.heap_drewN, heapDrew, Nat.add_assoc, Nat.reduceAdd, List.setIfInBounds_toArray, List.set_cons_zero, List.set_cons_succ, List.cons_append, List.nil_append] at hM)
      refine (one_any 32 HC.out hM (.there (.there (HP.out.again _))) (by omega)).mono ?_
      rintro e wc5 ⟨b2, rfl, hm⟩
      clear hM
      have hM := hm
      clear hm
      try dsimp only at hM
      cases b2
      · skip
        obtain ⟨k0, f0, l0⟩ := hM.row .here
        obtain ⟨k1, f1, l1⟩ := hM.row (.there .here)
        go_wp2
        refine bodyPost_ret (v := .agg #[.int .i64 z, .int .i64 y, .int .i64 q]) (by simp [results, Try.results62, go_sem, k0, k1]) rfl ⟨⟨z, y, q⟩, ⟨hzb, hyb, hqb⟩, rfl, ?_⟩
        apply Mem.curMore (hA := show A + 10 ≤ A + 12 by omega) (p := HP.out.again _)
        apply Mem.tail; apply Mem.tail
        (repeat' (first | with_reducible exact hM | with_reducible exact hMp | with_reducible apply Mem.drew | with_reducible apply Mem.drewN | with_reducible apply Mem.alloc | with_reducible apply Mem.set | with_reducible exact Sto.row | ((with_reducible refine Sto.rowEq2 ?_ ?_); omega; rfl) | ((with_reducible refine Sto.rowEq ?_); omega) | with_reducible apply Sto.int | with_reducible apply Sto.there | with_reducible assumption | (unfold I64; omega) | (with_reducible (have hMx := Mem.undrew hM; exact hMx)) | (with_reducible (have hMx := Mem.undrew hMp; exact hMx))))
      · skip
        go_wp2_with fail
        apply Mem.atA
        · (repeat' (first | with_reducible exact hM | with_reducible exact hMp | with_reducible apply Mem.drew | with_reducible apply Mem.drewN | with_reducible apply Mem.alloc | with_reducible apply Mem.set | with_reducible exact Sto.row | ((with_reducible refine Sto.rowEq2 ?_ ?_); omega; rfl) | ((with_reducible refine Sto.rowEq ?_); omega) | with_reducible apply Sto.int | with_reducible apply Sto.there | with_reducible assumption | (unfold I64; omega) | (with_reducible (have hMx := Mem.undrew hM; exact hMx)) | (with_reducible (have hMx := Mem.undrew hMp; exact hMx))))
        clear hM
        intro wst hM
        (try simp only [World.size_alloc, World.size_setCell, World.heap_drewN, heapDrew, Nat.add_assoc, Nat.reduceAdd, List.setIfInBounds_toArray, List.set_cons_zero, List.set_cons_succ, List.cons_append, List.nil_append] at hM)
        refine (among_any [0, 11] HC.out hM (.there (.there (.there (HP.out.again _)))) (fun _ => .here) rfl (by decide) (by decide) (by omega) (by decide)).mono ?_
        rintro e wc6 ⟨u, hu, rfl, hm⟩
        clear hM
        have hM := hm
        clear hm
        try dsimp only at hM
        obtain ⟨u0, u1⟩ := amb 0 11 hu (by decide)
        clear hu
        obtain ⟨k1, f1, l1⟩ := hM.row (.there .here)
        go_upto_region 6 with fail
        clear k1 f1 l1
        apply Mem.atWpA
        · (repeat' (first | with_reducible exact hM | with_reducible exact hMp | with_reducible apply Mem.drew | with_reducible apply Mem.drewN | with_reducible apply Mem.alloc | with_reducible apply Mem.set | with_reducible exact Sto.row | ((with_reducible refine Sto.rowEq2 ?_ ?_); omega; rfl) | ((with_reducible refine Sto.rowEq ?_); omega) | with_reducible apply Sto.int | with_reducible apply Sto.there | with_reducible assumption | (unfold I64; omega) | (with_reducible (have hMx := Mem.undrew hM; exact hMx)) | (with_reducible (have hMx := Mem.undrew hMp; exact hMx))))
        clear hM
        intro wst hM
        (try simp only [World.size_alloc, World.size_setCell, World.heap_drewN, heapDrew, Nat.add_assoc, Nat.reduceAdd, List.setIfInBounds_toArray, List.set_cons_zero, List.set_cons_succ, List.cons_append, List.nil_append] at hM)
        obtain ⟨k1, f1, l1⟩ := hM.row (.there .here)
        obtain ⟨k2, f2, l2⟩ := hM.row (.there (.there .here))
        go_wp2
        refine bodyPost_ret (v := .agg #[.int .i64 z, .int .i64 y, .int .i64 u]) (by simp [results, Try.results62, go_sem, k1, k2]) rfl ⟨⟨z, y, u⟩, ⟨hzb, hyb, ⟨u0, u1⟩⟩, rfl, ?_⟩
        apply Mem.curMore (hA := show A + 12 ≤ A + 12 by omega) (p := HP.out.again _)
        apply Mem.tail; apply Mem.tail; apply Mem.tail
        (repeat' (first | with_reducible exact hM | with_reducible exact hMp | with_reducible apply Mem.drew | with_reducible apply Mem.drewN | with_reducible apply Mem.alloc | with_reducible apply Mem.set | with_reducible exact Sto.row | ((with_reducible refine Sto.rowEq2 ?_ ?_); omega; rfl) | ((with_reducible refine Sto.rowEq ?_); omega) | with_reducible apply Sto.int | with_reducible apply Sto.there | with_reducible assumption | (unfold I64; omega) | (with_reducible (have hMx := Mem.undrew hM; exact hMx)) | (with_reducible (have hMx := Mem.undrew hMp; exact hMx))))
end Go.Proofs.Ytdhgkfmehegeoaa
