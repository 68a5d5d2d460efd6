/-
  Orders: the order in which they are served, the reference's.
-/
import Derived.Test.YtjnbdgldpmmamaaWOrdP
import Derived.Deep.DeepCutAuto
import Derived.Deep.CutBlock
import Derived.RegionTactic
import Derived.Test.YtjnbdgldpmmamaaWRd
import Derived.Test.YtjnbdgldpmmamaaWLst
import Derived.Deep.QuietTactic
import Derived.Deep.LoopGhost
/-
  Orders: the order in which they are served, the program's.
-/
namespace Go.Proofs.Ytjnbdgldpmmamaa
set_option linter.unusedSimpArgs false
set_option linter.unusedVariables false
open Go.RowKit

/-- the first number that is not 0 -/
def orI (x y : Int) : Int := if x = 0 then y else x
set_option maxRecDepth 100000 in
set_option maxHeartbeats 1000000 in
theorem orTwo_any (b : Nat) (x y : Int) (w : World) (hr : Row w b #[.int .i64 x, .int .i64 y]) :
    Calls Try.prog 74 #[.slice (some ⟨b, 0, none⟩) 2 2] w fun e w' => e = .returned (.int .i64 (orI x y)) ∧ w = w' := by
  have c0 := hr.cell 0
  have c1 := hr.cell 1
  by_cases h1 : x = 0
  · subst h1
    have HF := Lib.hid (show orI 0 y = y from rfl)
    by_cases h2 : y = 0
    · subst h2
      go_enter Try.func74, Try.ntmps74
      go_wp2
      go_loop [8] (fun i => i = .int .i64 0 ∨ i = .int .i64 1 ∨ i = .int .i64 2) (fun i => 2 - (intOf i).toNat)
      case atStart => exact .inl rfl
      case round =>
        rcases hrel with rfl | rfl | rfl
        · go_wp2
          go_round
          case rel => exact .inr (.inl rfl)
          case measure => decide
        · go_wp2
          go_round
          case rel => exact .inr (.inr rfl)
          case measure => decide
        · go_wp2
          go_ret
          exact ⟨ri HF.out.symm, rfl⟩
    · have hy : (y != 0) = true := by simpa using h2
      go_enter Try.func74, Try.ntmps74
      go_wp2
      go_loop [8] (fun i => i = .int .i64 0 ∨ i = .int .i64 1) (fun i => 2 - (intOf i).toNat)
      case atStart => exact .inl rfl
      case round =>
        rcases hrel with rfl | rfl
        · go_wp2
          go_round
          case rel => exact .inr rfl
          case measure => decide
        · go_wp2
          go_ret
          exact ⟨ri HF.out.symm, rfl⟩
  · have hx : (x != 0) = true := by simpa using h1
    have HF := Lib.hid (show orI x y = x from if_neg h1)
    go_enter Try.func74, Try.ntmps74
    go_wp2
    go_loop [8] (fun i => i = .int .i64 0) (fun i => 2 - (intOf i).toNat)
    case atStart => rfl
    case round =>
      obtain rfl := hrel
      go_wp2
      go_ret
      exact ⟨ri HF.out.symm, rfl⟩

end Go.Proofs.Ytjnbdgldpmmamaa

/-
  Orders: the order in which they are served, the reference's.
-/
namespace Go.Proofs.Ytjnbdgldpmmamaa
set_option linter.unusedSimpArgs false
set_option linter.unusedVariables false
open Go.RowKit

theorem Ints.take {w : World} {a : Option Addr} {n c : Nat} {xs : List Int} (h : Ints w a n c xs) {k : Nat} (hk : k ≤ n) : Ints w a k c (xs.take k) := by
  have hl := h.len
  refine ⟨by rw [List.length_take]; omega, by have := h.cap; omega, h.capm, h.nil, by have := h.room; omega, fun x hx => h.wf x (List.mem_of_mem_take hx), fun j hj => ?_⟩
  obtain ⟨b, off, ha, hb, hc⟩ := h.at' j (by omega)
  refine ⟨b, off, ha, hb, fun i hi => ?_⟩
  rw [hc i (by omega), List.getD_eq_getElem?_getD, List.getD_eq_getElem?_getD, List.getElem?_take, if_pos hi]
theorem Ints.drop {w : World} {g n c : Nat} {xs : List Int} (h : Ints w (some ⟨g, 0, none⟩) n c xs) {k : Nat} (hk : k ≤ n) : Ints w (some ⟨g, k, none⟩) (n - k) (c - k) (xs.drop k) := by
  have hl := h.len
  refine ⟨by rw [List.length_drop]; omega, by have := h.cap; omega, by have := h.capm; omega, by simp, by have := h.room; omega, fun x hx => h.wf x (List.mem_of_mem_drop hx), fun j hj => ?_⟩
  obtain ⟨b, off, ha, hb, hc⟩ := h.at' (k + j) (by omega)
  simp only [Option.some.injEq, Addr.mk.injEq] at ha
  obtain ⟨rfl, rfl, _⟩ := ha
  refine ⟨g, k, rfl, hb, fun i hi => ?_⟩
  have := hc (k + i) (by omega)
  rw [Nat.zero_add] at this
  rw [this, List.getD_eq_getElem?_getD, List.getD_eq_getElem?_getD, List.getElem?_drop]
end Go.Proofs.Ytjnbdgldpmmamaa
