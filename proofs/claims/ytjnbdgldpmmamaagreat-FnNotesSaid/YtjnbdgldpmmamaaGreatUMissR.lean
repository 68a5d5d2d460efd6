/-
  MissingKinds: the reference's.
-/
import Derived.Test.YtjnbdgldpmmamaaGreatULargest
import Derived.Lib.Bytealg
import Derived.Deep.DeepCutAuto
import Derived.Deep.CutBlock
import Derived.Test.YtjnbdgldpmmamaaGreatUNoteC
import Derived.Test.YtjnbdgldpmmamaaGreatUMissP
import Derived.RegionTactic
import Derived.Laws.Cover1
import Derived.Test.YtjnbdgldpmmamaaGreatURd
import Derived.Deep.LoopGhost
/-
  Library: strings.Compare, math/bits.Len of a small number.
-/
namespace Go.Proofs.YtjnbdgldpmmamaaGreat
set_option linter.unusedSimpArgs false
set_option linter.unusedVariables false
open Go.RowKit

theorem len64_any (n : Nat) (hn : n ≤ 12) (w : World) : Calls Tryz.prog 96 #[.int .u64 n] w fun e w' => (∃ r : Int, e = .returned (.int .i64 r)) ∧ w = w' := by
  obtain rfl | rfl | rfl | rfl | rfl | rfl | rfl | rfl | rfl | rfl | rfl | rfl | rfl : n = 0 ∨ n = 1 ∨ n = 2 ∨ n = 3 ∨ n = 4 ∨ n = 5 ∨ n = 6 ∨ n = 7 ∨ n = 8 ∨ n = 9 ∨ n = 10 ∨ n = 11 ∨ n = 12 := by omega
  all_goals
    go_enter Tryz.func96, Tryz.ntmps96
    go_wp2
    go_ret
    exact ⟨⟨_, rfl⟩, rfl⟩
end Go.Proofs.YtjnbdgldpmmamaaGreat

/-
  Stores: the place of a kind, a copy (the program's).
-/
namespace Go.Proofs.YtjnbdgldpmmamaaGreat
set_option linter.unusedSimpArgs false
set_option linter.unusedVariables false
open Go.RowKit

/-- what a function value answers on the records of a list -/
def AnswersStock (f : FuncId) (caps : Array Value) (p : StockI → Bool) (xs : List StockI) (w : World) : Prop :=
  ∀ v ∈ xs, ∀ w', Below w.heap.size w w' → Calls Tryz.prog f (#[v.val] ++ caps) w' fun o w'' => o = .returned (.bool (p v)) ∧ Below w'.heap.size w' w''
theorem AnswersStock.ext {f : FuncId} {caps : Array Value} {p : StockI → Bool} {xs : List StockI} {w w1 : World} (h : AnswersStock f caps p xs w) (hb : Below w.heap.size w w1) : AnswersStock f caps p xs w1 :=
  fun v hv w' hb' => h v hv w' (hb.trans (hb'.mono hb.size))

end Go.Proofs.YtjnbdgldpmmamaaGreat

/-
  Library and program: sorting and testing stores.
-/
namespace Go.Proofs.YtjnbdgldpmmamaaGreat
set_option linter.unusedSimpArgs false
set_option linter.unusedVariables false
open Go.RowKit

theorem bitsLen_any (n : Nat) (hn : n ≤ 12) (w : World) : Calls Tryz.prog 82 #[.int .u64 n] w fun e w' => (∃ r : Int, e = .returned (.int .i64 r)) ∧ w = w' := by
  go_enter Tryz.func82, Tryz.ntmps82
  go_wp2_with fail
  refine (len64_any n hn _).mono ?_
  rintro e w1 ⟨⟨r, rfl⟩, rfl⟩
  go_wp2
  go_ret
  exact ⟨⟨_, rfl⟩, rfl⟩
end Go.Proofs.YtjnbdgldpmmamaaGreat

/-
  OpenOrders: both sides.
-/
namespace Go.Proofs.YtjnbdgldpmmamaaGreat
set_option linter.unusedSimpArgs false
set_option linter.unusedVariables false
open Go.RowKit

theorem Mem.nilOwO {α : Type} {F : Fl α} {E : TypeId} {B : Nat} {w0 w : World} {G : List Ent} (h : Mem B w0 w G) : Mem B w0 w (owE F E none 0 0 [] :: G) := by
  refine ⟨h.below, h.size, fun e he => ?_, List.pairwise_cons.2 ⟨fun e _ k hk => ?_, h.apart⟩⟩
  · rcases List.mem_cons.1 he with rfl | he
    · exact ⟨rfl, by omega, by simp, World.ownsRow_nil _ _ _ _⟩
    · exact h.ents e he
  · simp [owE, blockOf] at hk
end Go.Proofs.YtjnbdgldpmmamaaGreat

/-
  MissingKinds: the reference's.
-/
namespace Go.Proofs.YtjnbdgldpmmamaaGreat
set_option linter.unusedSimpArgs false
set_option linter.unusedVariables false
open Go.RowKit

theorem Rd.takeO {α : Type} {F : Fl α} {w : World} {a : Option Addr} {n c k : Nat} {xs : List α} (h : Rd F w a n c xs) (hk : k ≤ n) : Rd F w a k c (xs.take k) := by
  have hl := h.len
  refine ⟨by rw [List.length_take]; omega, by have := h.cap; omega, h.capm, h.nil, Nat.le_trans (Nat.mul_le_mul_right _ hk) h.room, fun x hx => h.wf x (List.mem_of_mem_take hx), fun j hj => ?_⟩
  obtain ⟨b, off, ha, hb, hc⟩ := h.at' j (by omega)
  refine ⟨b, off, ha, hb, fun i hi q hq => ?_⟩
  rw [hc i (by omega) q hq, List.getD_eq_getElem?_getD, List.getD_eq_getElem?_getD, List.getElem?_take, if_pos hi]
theorem Rd.noneR {α : Type} {F : Fl α} {w : World} {a : Option Addr} {c : Nat} (hc : c ≤ maxLen) (h : a = none → c = 0) : Rd F w a 0 c [] :=
  ⟨rfl, Nat.zero_le _, hc, h, by omega, by simp, fun k hk => by omega⟩

end Go.Proofs.YtjnbdgldpmmamaaGreat
