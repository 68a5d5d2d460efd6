/-
  The reference's draws of lists of orders.
-/
import Derived.Test.YtfnaenekdenmkaaYDrawOrd
import Derived.Test.YtfnaenekdenmkaaYPush
/-
  The reference's draws of lists of orders.
-/
namespace Go.Proofs.Ytfnaenekdenmkaa
set_option linter.unusedSimpArgs false
set_option linter.unusedVariables false
open Go.RowKit

def lenO : Value → Nat | .slice _ n _ => n | _ => 0
def allO (xs : List OrderI) : Prop := ∀ x ∈ xs, okO x
theorem allO_nil : allO [] := by intro x hx; cases hx
theorem allO_snoc {xs : List OrderI} {y : OrderI} (h : allO xs) (hy : okO y) : allO (xs ++ [y]) := by
  intro x hx
  rcases List.mem_append.1 hx with hx | hx
  · exact h x hx
  · obtain rfl := List.mem_singleton.1 hx
    exact hy
set_option maxRecDepth 100000 in
set_option maxHeartbeats 8000000 in
theorem orders_any {g : Nat} {ac : Option Addr} {nc cc : Nat} {l : List UInt8} {A : Nat} {w0 w : World} {G : List Ent} {F : Ent → List Ent} (hC : Rd FByt w0 ac nc cc l) (hM : Mem w0.heap.size w0 w G) (p : At G (curE g ac nc cc A) F) (hA : A ≤ 10000000) :
    Calls Try.prog 69 #[.pointer (some ⟨g, 0, none⟩)] w fun e w' => ∃ (a' : Option Addr) (c' : Nat) (xs : List OrderI), xs.length ≤ 16 ∧ allO xs ∧ e = .returned (.slice a' xs.length c') ∧ Mem w0.heap.size w0 w' (owE FOrder 48 a' xs.length c' xs :: F (curE g ac nc cc (A + 200))) := by
  have HP := Lib.hid p
  have HC := Lib.hid hC
  clear p hC
  obtain ⟨i0, hi, hz0, hz1, hz2⟩ := info_parts Try.info48
  go_enter Try.func69, Try.ntmps69
  go_wp2_with fail
  apply Mem.atA
  · (repeat' (first | with_reducible exact hM | with_reducible exact hMp | with_reducible apply Mem.drew | with_reducible apply Mem.drewN | with_reducible apply Mem.alloc | with_reducible apply Mem.set | with_reducible exact Sto.row | ((with_reducible refine Sto.rowEq2 ?_ ?_); omega; rfl) | ((with_reducible refine Sto.rowEq ?_); omega) | with_reducible apply Sto.int | with_reducible apply Sto.there | with_reducible assumption | (unfold I64; omega) | (with_reducible (have hMx := Mem.undrew hM; exact hMx)) | (with_reducible (have hMx := Mem.undrew hMp; exact hMx))))
  clear hM
  intro wst hM
  (try simp only [World.size_alloc, World.size_setCell, World.heap_drewN, heapDrew, Nat.add_assoc, Nat.reduceAdd, List.setIfInBounds_toArray, List.set_cons_zero, List.set_cons_succ, List.cons_append, List.nil_append] at hM)
  (first | refine (pick_any 8 HC.out hM (.there HP.out) (by omega)).mono ?_)
  rintro e wc2 ⟨r, hr, hr2, rfl, hm⟩
  clear hM
  have hM := hm
  clear hm
  try dsimp only at hM
  have hr9 := pick_lt hr (by omega)
  clear hr hr2
  replace hM := Mem.toOwR (F := FOrder) hM
  go_wp2_with fail
  go_loopw [3, 4, 5] (fun s3 s4 s5 wr => ∃ (k : Nat) (d : Int) (a' : Option Addr) (c' : Nat) (xs : List OrderI), s5 = .int .i64 k ∧ s4 = .int .i64 d ∧ s3 = .slice a' xs.length c' ∧ xs.length + k ≤ 8 ∧ 0 ≤ d ∧ d + 3 * (k : Int) ≤ 24 ∧ Hid (allO xs) ∧ Mem w0.heap.size w0 wr (owE FOrder 48 a' xs.length c' xs :: F (curE g ac nc cc (A + 2 + 16 * (8 - k))))) (fun _ _ s5 _ => (intOf s5).toNat)
  case atStart => exact ⟨r, 0, _, _, [], rfl, rfl, rfl, by simp; omega, by omega, by omega, Lib.hid allO_nil, hM.curMore (.there (HP.out.again _)) (by omega)⟩
  case round =>
    clear hM hr9
    obtain ⟨k, d, a', c', xs, rfl, rfl, rfl, hxk, e0, e1, HX, hM⟩ := hrel
    by_cases hk0 : 0 < k
    rotate_left
    · obtain rfl : k = 0 := by omega
      replace hM := hM.curMore (A' := A + 130) (.there (HP.out.again _)) (by omega)
      go_wp2_with fail
      apply Mem.atA
      · (repeat' (first | with_reducible exact hM | with_reducible exact hMp | with_reducible apply Mem.drew | with_reducible apply Mem.drewN | with_reducible apply Mem.alloc | with_reducible apply Mem.set | with_reducible exact Sto.row | ((with_reducible refine Sto.rowEq2 ?_ ?_); omega; rfl) | ((with_reducible refine Sto.rowEq ?_); omega) | with_reducible apply Sto.int | with_reducible apply Sto.there | with_reducible assumption | (unfold I64; omega) | (with_reducible (have hMx := Mem.undrew hM; exact hMx)) | (with_reducible (have hMx := Mem.undrew hMp; exact hMx))))
      clear hM
      intro wst hM
      (try simp only [World.size_alloc, World.size_setCell, World.heap_drewN, heapDrew, Nat.add_assoc, Nat.reduceAdd, List.setIfInBounds_toArray, List.set_cons_zero, List.set_cons_succ, List.cons_append, List.nil_append] at hM)
      (first | refine (one_any 24 HC.out hM (.there (HP.out.again _)) (by omega)).mono ?_)
      rintro e wc2 ⟨b, rfl, hm⟩
      clear hM
      have hM := hm
      clear hm
      try dsimp only at hM
      cases b
      · go_wp2
        go_ret
        exact ⟨a', c', xs, by omega, HX.out, rfl, hM.curMore (.there (HP.out.again _)) (by omega)⟩
      · go_wp2_with fail
        go_loopw [3, 4] (fun s3 s4 wr => ∃ (d : Int) (a' : Option Addr) (c' : Nat) (zs : List OrderI), s4 = .int .i64 d ∧ s3 = .slice a' zs.length c' ∧ zs.length ≤ 16 ∧ 0 ≤ d ∧ d ≤ 24 + (zs.length : Int) ∧ Hid (allO zs) ∧ Mem w0.heap.size w0 wr (owE FOrder 48 a' zs.length c' zs :: F (curE g ac nc cc (A + 132 + 2 * zs.length)))) (fun s3 _ _ => 17 - lenO s3)
        case atStart => exact ⟨d, a', c', xs, rfl, rfl, by omega, by omega, by omega, HX, hM.curMore (.there (HP.out.again _)) (by omega)⟩
        case round =>
          clear hM HX hxk e0 e1 hk0
          obtain ⟨d2, a2, c2, zs, rfl, rfl, hz, e0, e1, HZ, hM⟩ := hrel
          go_wp2_with fail
          apply Mem.atA
          · (repeat' (first | with_reducible exact hM | with_reducible exact hMp | with_reducible apply Mem.drew | with_reducible apply Mem.drewN | with_reducible apply Mem.alloc | with_reducible apply Mem.set | with_reducible exact Sto.row | ((with_reducible refine Sto.rowEq2 ?_ ?_); omega; rfl) | ((with_reducible refine Sto.rowEq ?_); omega) | with_reducible apply Sto.int | with_reducible apply Sto.there | with_reducible assumption | (unfold I64; omega) | (with_reducible (have hMx := Mem.undrew hM; exact hMx)) | (with_reducible (have hMx := Mem.undrew hMp; exact hMx))))
          clear hM
          intro wst hM
          (try simp only [World.size_alloc, World.size_setCell, World.heap_drewN, heapDrew, Nat.add_assoc, Nat.reduceAdd, List.setIfInBounds_toArray, List.set_cons_zero, List.set_cons_succ, List.cons_append, List.nil_append] at hM)
          (first | refine (pick_any 2 HC.out hM (.there (HP.out.again _)) (by omega)).mono ?_)
          rintro e wc9 ⟨r, hr, hr2, rfl, hm⟩
          clear hM
          have hM := hm
          clear hm
          try dsimp only at hM
          have hr3 := pick_lt hr (by omega)
          clear hr hr2
          have hw : IntKind.i64.wrap (10 + (r : Int)) = 10 + (r : Int) := by rw [wrap_in (by omega)]
          by_cases hlt : zs.length < 10 + r
          · have hlt2 : (zs.length : Int) < 10 + (r : Int) := by omega
            have hw2 : IntKind.i64.wrap (d2 + 1) = d2 + 1 := wrap_in (by omega)
            have hyo : okO (⟨d2 + 1, [120], 99, 1, 0⟩ : OrderI) := by unfold okO; refine ⟨by dsimp only; omega, by show 1 ≤ 20; decide, by dsimp only; omega, by dsimp only; omega, by dsimp only; omega⟩
            have HY := Lib.hid hyo; clear hyo
            go_wp2_with (at_builtin; apply Mem.atL; (focus ((repeat' (first | with_reducible exact hM | with_reducible exact hMp | with_reducible apply Mem.drew | with_reducible apply Mem.drewN | with_reducible apply Mem.alloc | with_reducible apply Mem.set | with_reducible exact Sto.row | ((with_reducible refine Sto.rowEq2 ?_ ?_); omega; rfl) | ((with_reducible refine Sto.rowEq ?_); omega) | with_reducible apply Sto.int | with_reducible apply Sto.there | with_reducible assumption | (unfold I64; omega) | (with_reducible (have hMx := Mem.undrew hM; exact hMx)) | (with_reducible (have hMx := Mem.undrew hMp; exact hMx)))); done)); clear hM; intro hM; refine wpList_pushR (F := FOrder) (⟨d2 + 1, [120], 99, 1, 0⟩ : OrderI) hM (fun _ => .here) rfl (okO_wf HY.out) (by decide) (by show (zs.length + 1) * 5 ≤ _; omega) i0 (.agg #[.int .i64 0, .string ⟨#[]⟩, .int .i64 0, .int .i64 0, .int .i64 0]) 48 hi hz0 hz1 hz2 rfl (by omega) rfl _ _ _ Try.underlying26 rfl rfl rfl ?_)
            intro a3 c3 w3 hM
            have hl3 : (zs ++ [(⟨d2 + 1, [120], 99, 1, 0⟩ : OrderI)]).length = zs.length + 1 := by simp
            go_wp2
            go_roundw
            case rel =>
              refine ⟨d2 + 1, a3, c3, zs ++ [⟨d2 + 1, [120], 99, 1, 0⟩], rfl, by rw [hl3], by rw [hl3]; omega, by omega, by rw [hl3]; omega, Lib.hid (allO_snoc HZ.out HY.out), ?_⟩
              rw [hl3]
              exact hM.curMore (.there (HP.out.again _)) (by omega)
            case measure => simp [lenO]; omega
          · have hlt2 : ¬ (zs.length : Int) < 10 + (r : Int) := by omega
            go_wp2
            go_ret
            exact ⟨a2, c2, zs, hz, HZ.out, rfl, hM.curMore (.there (HP.out.again _)) (by omega)⟩
    obtain ⟨m, rfl⟩ : ∃ m, k = m + 1 := ⟨k - 1, by omega⟩
    have hwd : IntKind.i64.wrap (d + 1) = d + 1 := wrap_in (by omega)
    go_wp2_with fail
    apply Mem.atA
    · (repeat' (first | with_reducible exact hM | with_reducible exact hMp | with_reducible apply Mem.drew | with_reducible apply Mem.drewN | with_reducible apply Mem.alloc | with_reducible apply Mem.set | with_reducible exact Sto.row | ((with_reducible refine Sto.rowEq2 ?_ ?_); omega; rfl) | ((with_reducible refine Sto.rowEq ?_); omega) | with_reducible apply Sto.int | with_reducible apply Sto.there | with_reducible assumption | (unfold I64; omega) | (with_reducible (have hMx := Mem.undrew hM; exact hMx)) | (with_reducible (have hMx := Mem.undrew hMp; exact hMx))))
    clear hM
    intro wst hM
    (try simp only [World.size_alloc, World.size_setCell, World.heap_drewN, heapDrew, Nat.add_assoc, Nat.reduceAdd, List.setIfInBounds_toArray, List.set_cons_zero, List.set_cons_succ, List.cons_append, List.nil_append] at hM)
    (first | refine (pick_any 3 HC.out hM (.there (HP.out.again _)) (by omega)).mono ?_)
    rintro e wc3 ⟨r1, hr1, hr2, rfl, hm⟩
    clear hM
    have hM := hm
    clear hm
    try dsimp only at hM
    have hr3 := pick_lt hr1 (by omega)
    clear hr1 hr2
    have hwe : IntKind.i64.wrap (d + 1 + (r1 : Int)) = d + 1 + (r1 : Int) := wrap_in (by omega)
    go_wp2_with fail
    apply Mem.atA
    · (repeat' (first | with_reducible exact hM | with_reducible exact hMp | with_reducible apply Mem.drew | with_reducible apply Mem.drewN | with_reducible apply Mem.alloc | with_reducible apply Mem.set | with_reducible exact Sto.row | ((with_reducible refine Sto.rowEq2 ?_ ?_); omega; rfl) | ((with_reducible refine Sto.rowEq ?_); omega) | with_reducible apply Sto.int | with_reducible apply Sto.there | with_reducible assumption | (unfold I64; omega) | (with_reducible (have hMx := Mem.undrew hM; exact hMx)) | (with_reducible (have hMx := Mem.undrew hMp; exact hMx))))
    clear hM
    intro wst hM
    (try simp only [World.size_alloc, World.size_setCell, World.heap_drewN, heapDrew, Nat.add_assoc, Nat.reduceAdd, List.setIfInBounds_toArray, List.set_cons_zero, List.set_cons_succ, List.cons_append, List.nil_append] at hM)
    (first | refine (pick_any 60 HC.out hM (.there (HP.out.again _)) (by omega)).mono ?_)
    rintro e wc4 ⟨r2, hr1, hr2, rfl, hm⟩
    clear hM
    have hM := hm
    clear hm
    try dsimp only at hM
    have hr4 := pick_lt hr1 (by omega)
    clear hr1 hr2
    have hqb : 0 ≤ (r2 : Int) / 59 ∧ (r2 : Int) / 59 ≤ 1 := by omega
    obtain ⟨d3, hd3⟩ : ∃ d3, d + 1 + (r1 : Int) - (r2 : Int) / 59 = d3 := ⟨_, rfl⟩
    have hd4 : 0 ≤ d3 ∧ d3 ≤ d + 3 := by omega
    go_wp2_with fail
    clear hd3 hqb
    refine (order_any d3 (by omega) (by omega) HC.out hM (.there (HP.out.again _)) (by omega)).mono ?_
    rintro e wc5 ⟨x, hx, rfl, hm⟩
    clear hM
    have hM := hm
    clear hm
    try dsimp only at hM
    have HFX := Lib.hid hx; clear hx
    obtain ⟨x0, x1, x2, x3, x4⟩ := x
    go_wp2_with (at_builtin; apply Mem.atL; (focus ((repeat' (first | with_reducible exact hM | with_reducible exact hMp | with_reducible apply Mem.drew | with_reducible apply Mem.drewN | with_reducible apply Mem.alloc | with_reducible apply Mem.set | with_reducible exact Sto.row | ((with_reducible refine Sto.rowEq2 ?_ ?_); omega; rfl) | ((with_reducible refine Sto.rowEq ?_); omega) | with_reducible apply Sto.int | with_reducible apply Sto.there | with_reducible assumption | (unfold I64; omega) | (with_reducible (have hMx := Mem.undrew hM; exact hMx)) | (with_reducible (have hMx := Mem.undrew hMp; exact hMx)))); done)); clear hM; intro hM; refine wpList_pushR (F := FOrder) (⟨x0, x1, x2, x3, x4⟩ : OrderI) hM (fun _ => .here) rfl (okO_wf HFX.out) (by decide) (by show (xs.length + 1) * 5 ≤ _; omega) i0 (.agg #[.int .i64 0, .string ⟨#[]⟩, .int .i64 0, .int .i64 0, .int .i64 0]) 48 hi hz0 hz1 hz2 rfl (by omega) rfl _ _ _ Try.underlying26 rfl rfl rfl ?_)
    intro a3 c3 w3 hM
    have hl3 : (xs ++ [(⟨x0, x1, x2, x3, x4⟩ : OrderI)]).length = xs.length + 1 := by simp
    go_wp2
    go_roundw
    case rel =>
      refine ⟨m, d3, a3, c3, xs ++ [⟨x0, x1, x2, x3, x4⟩], by go_num, rfl, by rw [hl3], by rw [hl3]; omega, by omega, by omega, Lib.hid (allO_snoc HX.out HFX.out), ?_⟩
      rw [hl3]
      exact hM.curMore (.there (HP.out.again _)) (by omega)
    case measure => simp [intOf]
end Go.Proofs.Ytfnaenekdenmkaa
