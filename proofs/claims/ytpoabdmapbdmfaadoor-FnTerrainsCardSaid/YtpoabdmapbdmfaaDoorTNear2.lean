/- Lemmas. -/
import Derived.Test.YtpoabdmapbdmfaaDoorTNear
namespace Go.Proofs.YtpoabdmapbdmfaaDoor
set_option linter.unusedSimpArgs false
set_option linter.unusedVariables false
open Go.RowKit

/-- does it burn there -/
def brn (xs : List Int) (c : Nat) : Bool := decide (0 < xs.getD c 0)
set_option maxRecDepth 100000 in
set_option maxHeartbeats 400000 in
theorem burns_any (W H : Int) (a : Option Addr) (n c : Nat) (xs : List Int) (k : Nat) (w : World) (h : Ints w a n c xs) (hk : k < n) :
    Calls Tryd.prog 86 #[.agg #[.int .i64 W, .int .i64 H, .slice a n c], .int .i64 k] w fun e w' => e = .returned (.bool (brn xs k)) ∧ Below w.heap.size w w' := by
  obtain ⟨b, off, rfl, hb, hc⟩ := h.at' _ hk
  have hn := h.cap
  have hc' := h.room
  have hck := hc k hk
  have hck2 := ((h.alloc (.cells #[.int .i64 W, .int .i64 H, .slice (some ⟨b, off, none⟩) n c] 44)).get hk)
  clear hc
  obtain ⟨x, hx⟩ : ∃ x, xs.getD k 0 = x := ⟨_, rfl⟩
  rw [hx] at hck hck2
  have HX := Lib.hid (show brn xs k = decide (0 < x) by unfold brn; rw [hx])
  clear hx hck
  have i1 : (k : Int) < (n : Int) := by omega
  go_enter Tryd.func86, Tryd.ntmps86
  go_wp2
  go_ret
  exact ⟨rb HX.out.symm, by (repeat' (first | exact Below.refl _ _ | with_reducible refine Below.setCell ?_ (by first | omega | (simp; done) | (simp; omega)) _ | with_reducible refine Below.alloc ?_ (by first | omega | (simp; done) | (simp; omega)) _ | with_reducible refine Below.drew ?_ | with_reducible refine bdrewN ?_ _))⟩

/-- is it in the list -/
def hasI (xs : List Int) (x : Int) : Bool := xs.any (· == x)
theorem hasI_iff {xs : List Int} {x : Int} : hasI xs x = true ↔ x ∈ xs := by
  unfold hasI
  rw [List.any_eq_true]
  constructor
  · rintro ⟨y, hy, e⟩
    have : y = x := by simpa using e
    rw [← this]; exact hy
  · exact fun h => ⟨x, h, by simp⟩
end Go.Proofs.YtpoabdmapbdmfaaDoor
