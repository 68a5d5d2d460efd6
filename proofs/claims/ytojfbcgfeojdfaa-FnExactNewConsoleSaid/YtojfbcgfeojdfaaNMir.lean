/- Lemmas. -/
import Derived.Test.YtojfbcgfeojdfaaNGood
namespace Go.Proofs.Ytojfbcgfeojdfaa
set_option linter.unusedSimpArgs false
set_option linter.unusedVariables false
open Go.RowKit

set_option maxRecDepth 100000 in
set_option maxHeartbeats 400000 in
theorem copiedTerrain_any (W H : Int) (a : Option Addr) (n c : Nat) (xs : List Int) (w : World) (h : Ints w a n c xs) :
    Calls Try.prog 43 #[.agg #[.int .i64 W, .int .i64 H, .slice a n c]] w fun e w' => ∃ a' c', e = .returned (.agg #[.int .i64 W, .int .i64 H, .slice a' n c']) ∧ Own w.heap.size w' a' n c' xs ∧ Below w.heap.size w w' := by
  have hn := h.cap
  have hc := h.room
  go_enter Try.func43, Try.ntmps43
  go_wp2_with fail
  go_region_held3 (fun w' => (∀ o, w'.cell? ⟨w.heap.size, o, none⟩ = (#[.int .i64 W, .int .i64 H, .slice a n c] : Array Value)[o]?)) (first | assumption | (simp [*, World.cell?_setCell_far]; done)) (first | (go_at_call 53; refine (copyOf_any _ _ _ xs _ (by exact ((h.alloc _).alloc _).drew)).mono ?_; rintro e w1 ⟨a', c', rfl, hO, hb⟩; have k0 := keepRow hb (b := w.heap.size) (by simp; omega) (by assumption); obtain ⟨k1, f1, l1⟩ := ((Row.new _ (w.heap.size + 1) (by simp) _ _).drew.below hb)))
  go_wp2
  refine bodyPost_ret (v := .agg #[.int .i64 W, .int .i64 H, .slice a' n c']) (by simp [results, Try.results43, go_sem, k1]) rfl ⟨a', c', rfl, ?_, ?_⟩
  · ((repeat with_reducible refine Own.setCell_far ?_ (hO.apart (by first | omega | (simp; done) | (simp; omega))) _); exact hO.mono (by first | omega | (simp; done) | (simp; omega)))
  · (repeat' (first | exact Below.refl _ _ | with_reducible refine Below.setCell ?_ (by first | omega | (simp; done) | (simp; omega)) _ | with_reducible refine Below.alloc ?_ (by first | omega | (simp; done) | (simp; omega)) _ | with_reducible refine Below.drew ?_ | with_reducible refine bdrewN ?_ _ | with_reducible refine Below.trans ?_ (Below.mono hb (by first | omega | (simp; done) | (simp; omega)))))


end Go.Proofs.Ytojfbcgfeojdfaa
