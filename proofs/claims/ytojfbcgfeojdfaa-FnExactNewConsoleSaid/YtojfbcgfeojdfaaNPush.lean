/-
  Appends of one record, in terms of entries.
-/
import Derived.Test.YtojfbcgfeojdfaaNQueue
/-
  Appends of one record, in terms of entries.
-/
namespace Go.Proofs.Ytojfbcgfeojdfaa
set_option linter.unusedSimpArgs false
set_option linter.unusedVariables false
open Go.RowKit

section
variable {B : Nat} {w0 w w' : World} {G : List Ent} {G' : Ent → List Ent} {α : Type} {F : Fl α} {E : TypeId}
theorem Mem.toOwR {b : Nat} (h : Mem B w0 w (rowE b E #[] :: G)) : Mem B w0 w (owE F E (some ⟨b, 0, none⟩) 0 0 [] :: G) := by
  have h1 := h.ents _ In.here.mem
  obtain ⟨h2, h3⟩ := h1
  refine h.put .here (Keeps.refl _ _) ?_ (fun k hk => ?_)
  · refine ⟨rfl, by omega, by simp, by simp [Fl.cells], .inr ⟨b, 0, #[], rfl, h2, h3, Nat.le_refl _, Nat.zero_le _, by simp, by simp [Fl.cells]⟩⟩
  · obtain ⟨ad, e1, e2⟩ := hk
    injection e1 with e1
    subst e1
    exact .inl e2
end
end Go.Proofs.Ytojfbcgfeojdfaa
