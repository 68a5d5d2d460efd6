/- Lemmas. -/
import Derived.Test.YtpflnmejbialjaaGreatDoorVLaw
namespace Go.Proofs.YtpflnmejbialjaaGreatDoor
set_option linter.unusedSimpArgs false
set_option linter.unusedVariables false
open Go.RowKit

set_option maxRecDepth 100000 in
set_option maxHeartbeats 400000 in
theorem szTerrain_any (W H : Int) (a : Option Addr) (n c : Nat) (l : Int) (w : World) (hc : n ≤ 17592186044416) (hl : -1 ≤ l ∧ l ≤ 1048576) :
    Calls Tryz.prog 29 #[.agg #[.int .i64 W, .int .i64 H, .slice a n c], .int .i64 l] w fun e w' => e = .returned (.int .i64 (szF n l)) ∧ Below w.heap.size w w' := by
  obtain ⟨z, hz⟩ : ∃ z, szF n l = z := ⟨_, rfl⟩
  have HZ := Lib.hid hz; clear hz
  have hzb : -1 ≤ z := by rw [← HZ.out]; unfold szF; split <;> omega
  have HB := Lib.hid hzb; clear hzb
  by_cases h0 : z < 0
  · obtain rfl : z = -1 := by have := HB.out; omega
    go_enter Tryz.func29, Tryz.ntmps29
    go_wp2_with (go_at_call 11; refine (szIntS_any _ _ _ _ _ hc hl).mono ?_; rw [HZ.out]; rintro e w' ⟨rfl, rfl⟩)
    go_ret
    exact ⟨ri HZ.out.symm, (Below.refl _ _).alloc (Nat.le_refl _) _⟩
  · skip
    go_enter Tryz.func29, Tryz.ntmps29
    go_wp2_with (go_at_call 11; refine (szIntS_any _ _ _ _ _ hc hl).mono ?_; rw [HZ.out]; rintro e w' ⟨rfl, rfl⟩)
    go_ret
    exact ⟨ri HZ.out.symm, (Below.refl _ _).alloc (Nat.le_refl _) _⟩

set_option maxRecDepth 100000 in
set_option maxHeartbeats 400000 in
theorem toTerrain_any (W H : Int) (a : Option Addr) (n c : Nat) (xs : List Int) (w : World) (h : Ints w a n c xs) :
    Calls Tryz.prog 34 #[.agg #[.int .i64 W, .int .i64 H, .slice a n c]] w fun e w' => ∃ a' c', e = .returned (.agg #[.int .i64 W, .int .i64 H, .slice a' n c']) ∧ Own w.heap.size w' a' n c' xs ∧ Below w.heap.size w w' := by
  go_enter Tryz.func34, Tryz.ntmps34
  go_wp2_with fail
  refine (toIntS_any a n c xs _ ?_).mono ?_
  · exact ((h.alloc _).alloc _).alloc _
  rintro e w1 ⟨a', c', rfl, hO, hb⟩
  obtain ⟨c1, f1, l1⟩ := (((Row.new _ (w.heap.size + 1) (by simp) _ _).alloc _).below hb)
  obtain ⟨c2, f2, l2⟩ := ((Row.new _ (w.heap.size + 2) (by simp) _ _).below hb)
  go_wp2
  refine bodyPost_ret (v := .agg #[.int .i64 W, .int .i64 H, .slice a' n c']) (by simp [results, Tryz.results34, go_sem, c1]) rfl ⟨a', c', rfl, ?_, ?_⟩
  · ((repeat with_reducible refine Own.setCell_far ?_ (hO.apart (by first | omega | (simp; done) | (simp; omega))) _); exact hO.mono (by first | omega | (simp; done) | (simp; omega)))
  · (repeat' (first | exact Below.refl _ _ | with_reducible refine Below.setCell ?_ (by first | omega | (simp; done) | (simp; omega)) _ | with_reducible refine Below.alloc ?_ (by first | omega | (simp; done) | (simp; omega)) _ | with_reducible refine Below.drew ?_ | with_reducible refine bdrewN ?_ _ | with_reducible refine Below.trans ?_ (Below.mono hb (by first | omega | (simp; done) | (simp; omega)))))

set_option maxRecDepth 100000 in
set_option maxHeartbeats 400000 in
theorem eqTerrain_any (W H : Int) (a : Option Addr) (n c : Nat) (xs : List Int) (W2 H2 : Int) (a2 : Option Addr) (n2 c2 : Nat) (ys : List Int) (w : World) (h : Ints w a n c xs) (h2 : Ints w a2 n2 c2 ys) :
    Calls Tryz.prog 43 #[.agg #[.int .i64 W, .int .i64 H, .slice a n c], .agg #[.int .i64 W2, .int .i64 H2, .slice a2 n2 c2]] w fun e w' => e = .returned (.bool (eqG W H xs W2 H2 ys)) ∧ Below w.heap.size w w' := by
  by_cases hW : W = W2
  · subst hW
    by_cases hH : H = H2
    · subst hH
      have HF := Lib.hid (show eqG W H xs W H ys = (xs == ys) by simp [eqG])
      go_enter Tryz.func43, Tryz.ntmps43
      go_wp2_with fail
      refine (eqIntS_any a n c xs a2 n2 c2 ys _ ((h.alloc _).alloc _) ((h2.alloc _).alloc _)).mono ?_
      rintro e w1 ⟨rfl, hb⟩
      cases hxy : (xs == ys)
      all_goals
        go_wp2
        go_ret
        exact ⟨rb (by rw [HF.out, hxy]), by (repeat' (first | exact Below.refl _ _ | with_reducible refine Below.setCell ?_ (by first | omega | (simp; done) | (simp; omega)) _ | with_reducible refine Below.alloc ?_ (by first | omega | (simp; done) | (simp; omega)) _ | with_reducible refine Below.drew ?_ | with_reducible refine bdrewN ?_ _ | with_reducible refine Below.trans ?_ (Below.mono hb (by first | omega | (simp; done) | (simp; omega)))))⟩
    · have HF := Lib.hid (show eqG W H xs W H2 ys = false by simp [eqG, hH])
      go_enter Tryz.func43, Tryz.ntmps43
      go_wp2_with fail
      go_ret
      exact ⟨rb HF.out.symm, by (repeat' (first | exact Below.refl _ _ | with_reducible refine Below.setCell ?_ (by first | omega | (simp; done) | (simp; omega)) _ | with_reducible refine Below.alloc ?_ (by first | omega | (simp; done) | (simp; omega)) _ | with_reducible refine Below.drew ?_ | with_reducible refine bdrewN ?_ _))⟩
  · have HF := Lib.hid (show eqG W H xs W2 H2 ys = false by simp [eqG, hW])
    go_enter Tryz.func43, Tryz.ntmps43
    go_wp2_with fail
    go_ret
    exact ⟨rb HF.out.symm, by (repeat' (first | exact Below.refl _ _ | with_reducible refine Below.setCell ?_ (by first | omega | (simp; done) | (simp; omega)) _ | with_reducible refine Below.alloc ?_ (by first | omega | (simp; done) | (simp; omega)) _ | with_reducible refine Below.drew ?_ | with_reducible refine bdrewN ?_ _))⟩

end Go.Proofs.YtpflnmejbialjaaGreatDoor
