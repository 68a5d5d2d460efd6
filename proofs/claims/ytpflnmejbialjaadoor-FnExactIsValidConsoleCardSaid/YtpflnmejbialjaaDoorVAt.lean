/-
  An entry at a place of a list.
-/
import Derived.Test.YtpflnmejbialjaaDoorVRd
/-
  An entry at a place of a list.
-/
namespace Go.Proofs.YtpflnmejbialjaaDoor
set_option linter.unusedSimpArgs false
set_option linter.unusedVariables false
open Go.RowKit

/-- an entry at a place, and the list with another one there -/
def At (G : List Ent) (e : Ent) (F : Ent → List Ent) : Prop := ∃ G1 G2, G = G1 ++ e :: G2 ∧ ∀ e', F e' = G1 ++ e' :: G2
theorem At.here {e : Ent} {G : List Ent} : At (e :: G) e (fun e' => e' :: G) := ⟨[], G, rfl, fun _ => rfl⟩
theorem At.there {e x : Ent} {G : List Ent} {F : Ent → List Ent} (h : At G e F) : At (x :: G) e (fun e' => x :: F e') := by
  obtain ⟨G1, G2, rfl, h2⟩ := h
  exact ⟨x :: G1, G2, rfl, fun e' => by show x :: F e' = _; rw [h2]; rfl⟩
theorem At.put {e : Ent} {G : List Ent} {F : Ent → List Ent} (h : At G e F) (e1 e2 : Ent) : Put (F e1) e1 e2 (F e2) := by
  obtain ⟨G1, G2, _, h2⟩ := h
  exact ⟨G1, G2, h2 e1, h2 e2⟩
theorem At.in {e : Ent} {G : List Ent} {F : Ent → List Ent} (h : At G e F) (e1 : Ent) : In (F e1) e1 := (h.put e1 e1).mem
end Go.Proofs.YtpflnmejbialjaaDoor
