/-
  Small functions of the laws over numbers: same lists, members, sums.
-/
import Derived.Test.YtpoabdmapbdmfaaDoorTLst
import Derived.Test.YtpoabdmapbdmfaaDoorTRd
import Derived.Test.YtpoabdmapbdmfaaDoorTWrap
/-
  Small functions of the laws over numbers: same lists, members, sums.
-/
namespace Go.Proofs.YtpoabdmapbdmfaaDoor
set_option linter.unusedSimpArgs false
set_option linter.unusedVariables false
open Go.RowKit

set_option maxRecDepth 100000 in
set_option maxHeartbeats 1000000 in
theorem vInts_any (a : Option Addr) (n c : Nat) (xs : List Int) (a2 : Option Addr) (n2 c2 : Nat) (ys : List Int) (w : World) (h : Ints w a n c xs) (h2 : Ints w a2 n2 c2 ys) :
    Calls Tryd.prog 77 #[.slice a n c, .slice a2 n2 c2] w fun e w' => e = .returned (.bool (xs == ys)) ∧ Below w.heap.size w w' := by
  have hn := h.cap
  have hc := h.room
  have HL := Lib.hid h.len
  have HL2 := Lib.hid h2.len
  by_cases hne : n = n2
  · subst hne
    go_enter Tryd.func77, Tryd.ntmps77
    go_wp2
    go_loopw [5] (fun i wr => ∃ k : Nat, k ≤ n ∧ i = .int .i64 k ∧ xs.take k = ys.take k ∧ Below w.heap.size w wr) (fun i _ => n - (intOf i).toNat)
    case atStart => exact ⟨0, Nat.zero_le _, rfl, by simp, Below.refl _ _⟩
    case round =>
      obtain ⟨k, hk, rfl, hall, hbr⟩ := hrel
      have HA := Lib.hid hall; clear hall
      by_cases hlt : k < n
      · obtain ⟨b, off, rfl, hb, hcell⟩ := (h.below hbr).at' _ hlt
        obtain ⟨b2, off2, rfl, hb2, hcell2⟩ := (h2.below hbr).at' _ hlt
        have hck := hcell k hlt
        have hck2 := hcell2 k hlt
        clear hcell hcell2
        obtain ⟨x, hx⟩ : ∃ x, xs.getD k 0 = x := ⟨_, rfl⟩
        obtain ⟨y, hy⟩ : ∃ y, ys.getD k 0 = y := ⟨_, rfl⟩
        rw [hx] at hck
        rw [hy] at hck2
        have HX := Lib.hid hx; clear hx
        have HY := Lib.hid hy; clear hy
        by_cases he : x = y
        · subst he
          go_wp2
          go_quiet (fail)
          go_wp2
          go_roundw
          case rel => exact ⟨k + 1, by omega, by go_num, by rw [take_succ' (by rw [HL.out]; exact hlt), take_succ' (by rw [HL2.out]; exact hlt), HA.out, HX.out, HY.out], bdrewN hbr _⟩
          case measure => simp [intOf]; omega
        · go_wp2
          go_quiet (fail)
          go_wp2
          go_ret
          refine ⟨rb ?_, bdrewN hbr _⟩
          symm
          rw [beq_eq_false_iff_ne]
          rintro rfl
          exact he (HX.out.symm.trans HY.out)
      · go_wp2
        go_ret
        obtain rfl : k = n := by omega
        refine ⟨rb ?_, hbr⟩
        symm
        rw [beq_iff_eq, ← List.take_of_length_le (show xs.length ≤ k by rw [HL.out]; exact Nat.le_refl _), HA.out, List.take_of_length_le (by rw [HL2.out]; exact Nat.le_refl _)]
  · have hne' : ((n : Int) != n2) = true := by simp; omega
    go_enter Tryd.func77, Tryd.ntmps77
    go_wp2
    go_ret
    refine ⟨rb ?_, Below.refl _ _⟩
    symm
    rw [beq_eq_false_iff_ne]
    rintro rfl
    exact hne (HL.out.symm.trans HL2.out)
set_option maxRecDepth 100000 in
set_option maxHeartbeats 1000000 in
theorem vTerrain_any (W H : Int) (a : Option Addr) (n c : Nat) (xs : List Int) (W2 H2 : Int) (a2 : Option Addr) (n2 c2 : Nat) (ys : List Int) (w : World) (h : Ints w a n c xs) (h2 : Ints w a2 n2 c2 ys) :
    Calls Tryd.prog 28 #[.agg #[.int .i64 W, .int .i64 H, .slice a n c], .agg #[.int .i64 W2, .int .i64 H2, .slice a2 n2 c2]] w fun e w' => e = .returned (.bool (eqG W H xs W2 H2 ys)) ∧ Below w.heap.size w w' := by
  by_cases hW : W = W2
  · subst hW
    by_cases hH : H = H2
    · subst hH
      have HF := Lib.hid (show eqG W H xs W H ys = (xs == ys) by simp [eqG])
      go_enter Tryd.func28, Tryd.ntmps28
      go_wp2_with fail
      refine (vInts_any a n c xs a2 n2 c2 ys _ ((h.alloc _).alloc _) ((h2.alloc _).alloc _)).mono ?_
      rintro e w1 ⟨rfl, hb⟩
      cases hxy : (xs == ys)
      all_goals
        go_wp2
        go_ret
        exact ⟨rb (by rw [HF.out, hxy]), by (repeat' (first | exact Below.refl _ _ | with_reducible refine Below.setCell ?_ (by first | omega | (simp; done) | (simp; omega)) _ | with_reducible refine Below.alloc ?_ (by first | omega | (simp; done) | (simp; omega)) _ | with_reducible refine Below.drew ?_ | with_reducible refine bdrewN ?_ _ | with_reducible refine Below.trans ?_ (Below.mono hb (by first | omega | (simp; done) | (simp; omega)))))⟩
    · have HF := Lib.hid (show eqG W H xs W H2 ys = false by simp [eqG, hH])
      go_enter Tryd.func28, Tryd.ntmps28
      go_wp2_with fail
      go_ret
      exact ⟨rb HF.out.symm, by (repeat' (first | exact Below.refl _ _ | with_reducible refine Below.setCell ?_ (by first | omega | (simp; done) | (simp; omega)) _ | with_reducible refine Below.alloc ?_ (by first | omega | (simp; done) | (simp; omega)) _ | with_reducible refine Below.drew ?_ | with_reducible refine bdrewN ?_ _))⟩
  · have HF := Lib.hid (show eqG W H xs W2 H2 ys = false by simp [eqG, hW])
    go_enter Tryd.func28, Tryd.ntmps28
    go_wp2_with fail
    go_ret
    exact ⟨rb HF.out.symm, by (repeat' (first | exact Below.refl _ _ | with_reducible refine Below.setCell ?_ (by first | omega | (simp; done) | (simp; omega)) _ | with_reducible refine Below.alloc ?_ (by first | omega | (simp; done) | (simp; omega)) _ | with_reducible refine Below.drew ?_ | with_reducible refine bdrewN ?_ _))⟩
theorem vTerrain_same (W H : Int) (a : Option Addr) (n c : Nat) (xs : List Int) (a2 : Option Addr) (n2 c2 : Nat) (w : World) (h : Ints w a n c xs) (h2 : Ints w a2 n2 c2 xs) :
    Calls Tryd.prog 28 #[.agg #[.int .i64 W, .int .i64 H, .slice a n c], .agg #[.int .i64 W, .int .i64 H, .slice a2 n2 c2]] w fun e w' => e = .returned (.bool true) ∧ Below w.heap.size w w' := by
  have := vTerrain_any W H a n c xs W H a2 n2 c2 xs w h h2
  rw [eqG_refl] at this
  exact this
end Go.Proofs.YtpoabdmapbdmfaaDoor
