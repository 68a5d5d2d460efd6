/- Lemmas. -/
import Derived.Test.YtpoabdmapbdmfaaDoorTGood
namespace Go.Proofs.YtpoabdmapbdmfaaDoor
set_option linter.unusedSimpArgs false
set_option linter.unusedVariables false
open Go.RowKit

set_option maxRecDepth 100000 in
set_option maxHeartbeats 400000 in
theorem copiedTerrain_any (W H : Int) (a : Option Addr) (n c : Nat) (xs : List Int) (w : World) (h : Ints w a n c xs) :
    Calls Tryd.prog 82 #[.agg #[.int .i64 W, .int .i64 H, .slice a n c]] w fun e w' => ∃ a' c', e = .returned (.agg #[.int .i64 W, .int .i64 H, .slice a' n c']) ∧ Own w.heap.size w' a' n c' xs ∧ Below w.heap.size w w' := by
  have hn := h.cap
  have hc := h.room
  go_enter Tryd.func82, Tryd.ntmps82
  go_wp2_with fail
  go_region_held3 (fun w' => (∀ o, w'.cell? ⟨w.heap.size, o, none⟩ = (#[.int .i64 W, .int .i64 H, .slice a n c] : Array Value)[o]?)) (first | assumption | (simp [*, World.cell?_setCell_far]; done)) (first | (go_at_call 106; refine (copyOf_any _ _ _ xs _ (by exact ((h.alloc _).alloc _).drew)).mono ?_; rintro e w1 ⟨a', c', rfl, hO, hb⟩; have k0 := keepRow hb (b := w.heap.size) (by simp; omega) (by assumption); obtain ⟨k1, f1, l1⟩ := ((Row.new _ (w.heap.size + 1) (by simp) _ _).drew.below hb)))
  go_wp2
  refine bodyPost_ret (v := .agg #[.int .i64 W, .int .i64 H, .slice a' n c']) (by simp [results, Tryd.results82, go_sem, k1]) rfl ⟨a', c', rfl, ?_, ?_⟩
  · ((repeat with_reducible refine Own.setCell_far ?_ (hO.apart (by first | omega | (simp; done) | (simp; omega))) _); exact hO.mono (by first | omega | (simp; done) | (simp; omega)))
  · (repeat' (first | exact Below.refl _ _ | with_reducible refine Below.setCell ?_ (by first | omega | (simp; done) | (simp; omega)) _ | with_reducible refine Below.alloc ?_ (by first | omega | (simp; done) | (simp; omega)) _ | with_reducible refine Below.drew ?_ | with_reducible refine bdrewN ?_ _ | with_reducible refine Below.trans ?_ (Below.mono hb (by first | omega | (simp; done) | (simp; omega)))))


theorem row_any (W H c : Int) (s : Value) (w : World) (hc : 0 ≤ c ∧ c ≤ 1000000) (hW : 1 ≤ W ∧ W ≤ 5) :
    Calls Tryd.prog 83 #[.agg #[.int .i64 W, .int .i64 H, s], .int .i64 c] w fun e w' => e = .returned (.int .i64 (c / W)) ∧ Below w.heap.size w w' := by
  obtain ⟨c1, c2⟩ := hc
  obtain ⟨w1, w2⟩ := hW
  have d1 : 0 ≤ c / W := Int.ediv_nonneg c1 (by omega)
  have d2 : c / W ≤ c := Int.ediv_le_self _ c1
  go_enter Tryd.func83, Tryd.ntmps83
  go_wp2
  go_ret
  exact ⟨rfl, by (repeat' (first | exact Below.refl _ _ | with_reducible refine Below.setCell ?_ (by first | omega | (simp; done) | (simp; omega)) _ | with_reducible refine Below.alloc ?_ (by first | omega | (simp; done) | (simp; omega)) _ | with_reducible refine Below.drew ?_ | with_reducible refine bdrewN ?_ _))⟩
theorem column_any (W H c : Int) (s : Value) (w : World) (hc : 0 ≤ c ∧ c ≤ 1000000) (hW : 1 ≤ W ∧ W ≤ 5) :
    Calls Tryd.prog 84 #[.agg #[.int .i64 W, .int .i64 H, s], .int .i64 c] w fun e w' => e = .returned (.int .i64 (c % W)) ∧ Below w.heap.size w w' := by
  obtain ⟨c1, c2⟩ := hc
  obtain ⟨w1, w2⟩ := hW
  go_enter Tryd.func84, Tryd.ntmps84
  go_wp2
  go_ret
  exact ⟨rfl, by (repeat' (first | exact Below.refl _ _ | with_reducible refine Below.setCell ?_ (by first | omega | (simp; done) | (simp; omega)) _ | with_reducible refine Below.alloc ?_ (by first | omega | (simp; done) | (simp; omega)) _ | with_reducible refine Below.drew ?_ | with_reducible refine bdrewN ?_ _))⟩
end Go.Proofs.YtpoabdmapbdmfaaDoor
