/-
  A make of ints as a step of a region that draws its order.
-/
import Derived.Test.YtfnaenekdenmkaaYRd
/-
  A make of ints as a step of a region that draws its order.
-/
namespace Go.Proofs.Ytfnaenekdenmkaa
set_option linter.unusedSimpArgs false
set_option linter.unusedVariables false
open Go.RowKit

theorem step_makeI {P : Program} {w : World} {ops : Array Oper} {o : Oper} {a : Act} {K : Act → World → Prop} {Q : Exit → Act → World → Prop} {R : Prop} {B : Nat} {w0 : World} {G : List Ent} (hM : Mem B w0 w G) (hgd : o.guard = none) (l c : Operand) (t : TypeId) (hop : o.op = Op.makeSlice t l c)
    (i : TypeInfo) (h1 : P.underlying t = some (.slice 3)) (h2 : P.info? 3 = some i) (hz0 : i.zero = some (.int .i64 0)) (hz1 : i.size = 1) (hz2 : i.bytes = 8) (n : Nat) (hl : a.eval l = .int .i64 n) (hc : a.eval c = .int .i64 n) (hn : n ≤ 17592186044416)
    (hK : ∀ b w', Mem B w0 w' (intE (some ⟨b, 0, none⟩) n n (List.replicate n 0) :: G) → K (a.put o.dst (.slice (some ⟨b, 0, none⟩) n n)) w') :
    if Region.wanted o (yielded ops a.tmps) = true then Oper.wp P o a w K Q else R := by
  have hw : Region.wanted o (yielded ops a.tmps) = true := by simp [Region.wanted, hgd]
  rw [if_pos hw]
  obtain ⟨w', hrun, r1, r2⟩ := run_make_full (P := P) w w.heap.size t 3 i (.int .i64 0) 1 h1 h2 hz0 hz1 .i64 .i64 n (by rw [hz2]; omega) (by unfold maxLen; omega) (Nat.le_refl _)
  unfold Oper.wp
  simp [execOp, hop, hl, hc, hrun, Result.andThen]
  exact hK _ _ (hM.own ((Below.refl _ _).grown r2 (Nat.le_refl _) (by intro k hk; cases hk)) (own_made (by rw [Nat.mul_one] at r1; exact r1) (by omega)))
end Go.Proofs.Ytfnaenekdenmkaa
