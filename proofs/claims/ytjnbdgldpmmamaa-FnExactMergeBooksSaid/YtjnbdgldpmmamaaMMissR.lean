/-
  MissingKinds: the reference's.
-/
import Derived.Test.YtjnbdgldpmmamaaMMissP
import Derived.Deep.DeepCutAuto
import Derived.RegionTactic
import Derived.Test.YtjnbdgldpmmamaaMOrdP
import Derived.Lib.Bytealg
import Derived.Test.YtjnbdgldpmmamaaMOpnO
/-
  MissingKinds: the reference's.
-/
namespace Go.Proofs.Ytjnbdgldpmmamaa
set_option linter.unusedSimpArgs false
set_option linter.unusedVariables false
open Go.RowKit

theorem Rd.takeO {α : Type} {F : Fl α} {w : World} {a : Option Addr} {n c k : Nat} {xs : List α} (h : Rd F w a n c xs) (hk : k ≤ n) : Rd F w a k c (xs.take k) := by
  have hl := h.len
  refine ⟨by rw [List.length_take]; omega, by have := h.cap; omega, h.capm, h.nil, Nat.le_trans (Nat.mul_le_mul_right _ hk) h.room, fun x hx => h.wf x (List.mem_of_mem_take hx), fun j hj => ?_⟩
  obtain ⟨b, off, ha, hb, hc⟩ := h.at' j (by omega)
  refine ⟨b, off, ha, hb, fun i hi q hq => ?_⟩
  rw [hc i (by omega) q hq, List.getD_eq_getElem?_getD, List.getD_eq_getElem?_getD, List.getElem?_take, if_pos hi]
theorem Rd.noneR {α : Type} {F : Fl α} {w : World} {a : Option Addr} {c : Nat} (hc : c ≤ maxLen) (h : a = none → c = 0) : Rd F w a 0 c [] :=
  ⟨rfl, Nat.zero_le _, hc, h, by omega, by simp, fun k hk => by omega⟩

end Go.Proofs.Ytjnbdgldpmmamaa
