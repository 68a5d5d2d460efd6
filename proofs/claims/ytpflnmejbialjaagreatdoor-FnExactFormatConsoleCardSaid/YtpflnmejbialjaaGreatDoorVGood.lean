/- Lemmas. -/
import Derived.Test.YtpflnmejbialjaaGreatDoorVGrid
namespace Go.Proofs.YtpflnmejbialjaaGreatDoor
set_option linter.unusedSimpArgs false
set_option linter.unusedVariables false
open Go.RowKit

set_option maxRecDepth 100000 in
set_option maxHeartbeats 400000 in
theorem l2Good_any (W H : Int) (a : Option Addr) (n c : Nat) (xs : List Int) (w : World) (h : Ints w a n c xs) :
    Calls Tryz.prog 45 #[.agg #[.int .i64 W, .int .i64 H, .slice a n c]] w fun e w' => e = .returned (.bool (goodB 20 W H xs)) ∧ Below w.heap.size w w' := by
  have hn := h.cap
  have hc := h.room
  have HL := Lib.hid h.len
  cases hW : inB W 1 5
  · have HF : Hid (goodB 20 W H xs = false) := by simp only [Hid, goodB, hW, Bool.false_and]
    go_enter Tryz.func45, Tryz.ntmps45
    go_wp2_with (go_at_call 47; refine (l1In_any _ _ _ _).mono ?_; rintro e w' ⟨rfl, rfl⟩)
    go_ret
    exact ⟨rb HF.out.symm, by (repeat' (first | exact Below.refl _ _ | with_reducible refine Below.setCell ?_ (by first | omega | (simp; done) | (simp; omega)) _ | with_reducible refine Below.alloc ?_ (by first | omega | (simp; done) | (simp; omega)) _ | with_reducible refine Below.drew ?_ | with_reducible refine bdrewN ?_ _))⟩
  cases hH : inB H 1 5
  · have HF : Hid (goodB 20 W H xs = false) := by simp only [Hid, goodB, hH, Bool.false_and, Bool.and_false]
    go_enter Tryz.func45, Tryz.ntmps45
    go_wp2_with (go_at_call 47; refine (l1In_any _ _ _ _).mono ?_; rintro e w' ⟨rfl, rfl⟩)
    go_ret
    exact ⟨rb HF.out.symm, by (repeat' (first | exact Below.refl _ _ | with_reducible refine Below.setCell ?_ (by first | omega | (simp; done) | (simp; omega)) _ | with_reducible refine Below.alloc ?_ (by first | omega | (simp; done) | (simp; omega)) _ | with_reducible refine Below.drew ?_ | with_reducible refine bdrewN ?_ _))⟩
  obtain ⟨w1, w2⟩ := inB_true hW
  obtain ⟨h1, h2⟩ := inB_true hH
  obtain ⟨s1, s2⟩ := side_bound w1 w2 h1 h2
  by_cases h3 : (n : Int) = W * H
  · have hne : ((n : Int) != W * H) = false := by rw [h3]; simp
    have HG : Hid (goodB 20 W H xs = xs.all fun x => inB x 0 20) := by simp only [Hid, goodB, hH, hW, HL.out, h3, Bool.true_and, decide_true]
    clear h3
    go_enter Tryz.func45, Tryz.ntmps45
    go_wp2_with (go_at_call 47; refine (l1In_any _ _ _ _).mono ?_; rintro e w' ⟨rfl, rfl⟩)
    go_loop [3] (fun i => ∃ k : Nat, k ≤ n ∧ i = .int .i64 k ∧ ((xs.take k).all fun x => inB x 0 20) = true) (fun i => n - (intOf i).toNat)
    case atStart => exact ⟨0, Nat.zero_le _, rfl, by simp⟩
    case round =>
      obtain ⟨k, hk, rfl, hall⟩ := hrel
      have HA := Lib.hid hall; clear hall
      by_cases hlt : k < n
      · obtain ⟨b, off, rfl, hb, hcell⟩ := h.at' _ hlt
        have hck := hcell k hlt
        clear hcell
        obtain ⟨x, hx⟩ : ∃ x, xs.getD k 0 = x := ⟨_, rfl⟩
        rw [hx] at hck
        have HX := Lib.hid hx; clear hx
        cases hin : inB x 0 20
        · go_wp2_with (go_at_call 47; refine (l1In_any _ _ _ _).mono ?_; rintro e w' ⟨rfl, rfl⟩)
          go_ret
          refine ⟨rb ?_, by (repeat' (first | exact Below.refl _ _ | with_reducible refine Below.setCell ?_ (by first | omega | (simp; done) | (simp; omega)) _ | with_reducible refine Below.alloc ?_ (by first | omega | (simp; done) | (simp; omega)) _ | with_reducible refine Below.drew ?_ | with_reducible refine bdrewN ?_ _))⟩
          rw [HG.out, all_false_of (k := k) (by rw [HL.out]; exact hlt) (by rw [HX.out]; exact hin)]
        · go_wp2_with (go_at_call 47; refine (l1In_any _ _ _ _).mono ?_; rintro e w' ⟨rfl, rfl⟩)
          go_round
          case rel => exact ⟨k + 1, by omega, by go_num, by rw [all_take_succ (by rw [HL.out]; exact hlt), HA.out, HX.out, hin]; rfl⟩
          case measure => simp [intOf]; omega
      · go_wp2
        go_ret
        obtain rfl : k = n := by omega
        refine ⟨rb ?_, by (repeat' (first | exact Below.refl _ _ | with_reducible refine Below.setCell ?_ (by first | omega | (simp; done) | (simp; omega)) _ | with_reducible refine Below.alloc ?_ (by first | omega | (simp; done) | (simp; omega)) _ | with_reducible refine Below.drew ?_ | with_reducible refine bdrewN ?_ _))⟩
        rw [HG.out, ← HA.out, List.take_of_length_le (by rw [HL.out]; exact Nat.le_refl _)]
  · have HF : Hid (goodB 20 W H xs = false) := by simp only [Hid, goodB, HL.out, h3, Bool.false_and, Bool.and_false, decide_false]
    have hne : ((n : Int) != W * H) = true := by simpa using h3
    clear h3
    go_enter Tryz.func45, Tryz.ntmps45
    go_wp2_with (go_at_call 47; refine (l1In_any _ _ _ _).mono ?_; rintro e w' ⟨rfl, rfl⟩)
    go_ret
    exact ⟨rb HF.out.symm, by (repeat' (first | exact Below.refl _ _ | with_reducible refine Below.setCell ?_ (by first | omega | (simp; done) | (simp; omega)) _ | with_reducible refine Below.alloc ?_ (by first | omega | (simp; done) | (simp; omega)) _ | with_reducible refine Below.drew ?_ | with_reducible refine bdrewN ?_ _))⟩

set_option maxRecDepth 100000 in
theorem grainTerrain_any (x : Int) (w : World) :
    Calls Tryz.prog 61 #[.int .i64 x] w fun e w' => e = .returned (.bool (inB x 0 20)) ∧ Below w.heap.size w w' := by
  go_enter Tryz.func61, Tryz.ntmps61
  go_wp2_with (go_at_call 52; refine (in_any _ _ _ _).mono ?_; rintro e w' ⟨rfl, rfl⟩)
  go_ret
  exact ⟨rfl, Below.refl _ _⟩

set_option maxRecDepth 100000 in
set_option maxHeartbeats 400000 in
theorem IsTerrain_any (W H : Int) (a : Option Addr) (n c : Nat) (xs : List Int) (w : World) (h : Ints w a n c xs) :
    Calls Tryz.prog 50 #[.agg #[.int .i64 W, .int .i64 H, .slice a n c]] w fun e w' => e = .returned (.bool (goodB 20 W H xs)) ∧ Below w.heap.size w w' := by
  have hn := h.cap
  have hc := h.room
  have HL := Lib.hid h.len
  have hA : ∀ w', Answers 61 #[] (fun x => inB x 0 20) xs w' := fun w' x _ w'' _ => grainTerrain_any x w''
  have HA := Lib.hid hA; clear hA
  cases hW : inB W 1 5
  · have HF : Hid (goodB 20 W H xs = false) := by simp only [Hid, goodB, hW, Bool.false_and]
    go_enter Tryz.func50, Tryz.ntmps50
    go_wp2_with (go_at_call 52; refine (in_any _ _ _ _).mono ?_; rintro e w' ⟨rfl, rfl⟩)
    go_ret
    exact ⟨rb HF.out.symm, by (repeat' (first | exact Below.refl _ _ | with_reducible refine Below.setCell ?_ (by first | omega | (simp; done) | (simp; omega)) _ | with_reducible refine Below.alloc ?_ (by first | omega | (simp; done) | (simp; omega)) _ | with_reducible refine Below.drew ?_ | with_reducible refine bdrewN ?_ _))⟩
  cases hH : inB H 1 5
  · have HF : Hid (goodB 20 W H xs = false) := by simp only [Hid, goodB, hH, Bool.false_and, Bool.and_false]
    go_enter Tryz.func50, Tryz.ntmps50
    go_wp2_with (go_at_call 52; refine (in_any _ _ _ _).mono ?_; rintro e w' ⟨rfl, rfl⟩)
    go_ret
    exact ⟨rb HF.out.symm, by (repeat' (first | exact Below.refl _ _ | with_reducible refine Below.setCell ?_ (by first | omega | (simp; done) | (simp; omega)) _ | with_reducible refine Below.alloc ?_ (by first | omega | (simp; done) | (simp; omega)) _ | with_reducible refine Below.drew ?_ | with_reducible refine bdrewN ?_ _))⟩
  obtain ⟨w1, w2⟩ := inB_true hW
  obtain ⟨h1, h2⟩ := inB_true hH
  obtain ⟨s1, s2⟩ := side_bound w1 w2 h1 h2
  by_cases h3 : (n : Int) = W * H
  · have hne : ((n : Int) == W * H) = true := by rw [h3]; simp
    have HG : Hid (goodB 20 W H xs = xs.all fun x => inB x 0 20) := by simp only [Hid, goodB, hH, hW, HL.out, h3, Bool.true_and, decide_true]
    clear h3
    go_enter Tryz.func50, Tryz.ntmps50
    go_wp2_with (go_at_call 52; refine (in_any _ _ _ _).mono ?_; rintro e w' ⟨rfl, rfl⟩)
    refine (all_any _ _ _ a n c xs _ (h.alloc _) (enters Tryz.func61 (by kernel_rfl) rfl) (HA.out _)).mono ?_
    rintro e w1 ⟨rfl, hb⟩
    go_wp2
    go_ret
    exact ⟨rb HG.out.symm, by (repeat' (first | exact Below.refl _ _ | with_reducible refine Below.setCell ?_ (by first | omega | (simp; done) | (simp; omega)) _ | with_reducible refine Below.alloc ?_ (by first | omega | (simp; done) | (simp; omega)) _ | with_reducible refine Below.drew ?_ | with_reducible refine bdrewN ?_ _ | with_reducible refine Below.trans ?_ (Below.mono hb (by first | omega | (simp; done) | (simp; omega)))))⟩
  · have HF : Hid (goodB 20 W H xs = false) := by simp only [Hid, goodB, HL.out, h3, Bool.false_and, Bool.and_false, decide_false]
    have hne : ((n : Int) == W * H) = false := by simpa using h3
    clear h3
    go_enter Tryz.func50, Tryz.ntmps50
    go_wp2_with (go_at_call 52; refine (in_any _ _ _ _).mono ?_; rintro e w' ⟨rfl, rfl⟩)
    go_ret
    exact ⟨rb HF.out.symm, by (repeat' (first | exact Below.refl _ _ | with_reducible refine Below.setCell ?_ (by first | omega | (simp; done) | (simp; omega)) _ | with_reducible refine Below.alloc ?_ (by first | omega | (simp; done) | (simp; omega)) _ | with_reducible refine Below.drew ?_ | with_reducible refine bdrewN ?_ _))⟩

end Go.Proofs.YtpflnmejbialjaaGreatDoor
