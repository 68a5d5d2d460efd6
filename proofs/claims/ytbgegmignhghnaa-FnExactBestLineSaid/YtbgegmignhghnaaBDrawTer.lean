/-
  The reference's draws of terrains and of their cells.
-/
import Derived.Test.YtbgegmignhghnaaBPack
import Derived.Test.YtbgegmignhghnaaBRegF
import Derived.Test.YtbgegmignhghnaaBPush
import Derived.Test.YtbgegmignhghnaaBWrap
import Derived.Deep.DeepCutAuto
import Derived.Test.YtbgegmignhghnaaBPutV
/-
  The reference's draws of terrains and of their cells.
-/
namespace Go.Proofs.Ytbgegmignhghnaa
set_option linter.unusedSimpArgs false
set_option linter.unusedVariables false
open Go.RowKit

/-- what a place leaves aside, as one -/
theorem At.head {G : List Ent} {e : Ent} {F : Ent → List Ent} (p : At G e F) : ∃ R, ∀ (B : Nat) (w0 w : World) (X : List Ent) (e1 : Ent), Mem B w0 w (X ++ F e1) ↔ Mem B w0 w (X ++ [e1, packE R]) := by
  obtain ⟨G1, G2, rfl, h2⟩ := p
  refine ⟨G1 ++ G2, fun B w0 w X e1 => ?_⟩
  rw [h2]
  have hp : (X ++ (G1 ++ e1 :: G2)).Perm ((X ++ [e1]) ++ (G1 ++ G2 ++ [])) := by
    rw [List.append_nil, List.append_assoc]
    exact (List.perm_middle (l₁ := G1) (a := e1) (l₂ := G2)).append_left X
  constructor
  · intro h
    have h1 := Mem.packAt (X ++ [e1]) (G := G1 ++ G2) (Y := []) (h.perm hp)
    simpa using h1
  · intro h
    have h1 : Mem B w0 w ((X ++ [e1]) ++ packE (G1 ++ G2) :: []) := by simpa using h
    exact (Mem.unpackAt (X ++ [e1]) h1).perm hp.symm
section
variable {B : Nat} {w0 w : World} {F : Ent → List Ent} {R : List Ent}
def HeadP (F : Ent → List Ent) (R : List Ent) : Prop := ∀ (B : Nat) (w0 w : World) (X : List Ent) (e1 : Ent), Mem B w0 w (X ++ F e1) ↔ Mem B w0 w (X ++ [e1, packE R])
theorem HeadP.in {e : Ent} (h : HeadP F R) (hM : Mem B w0 w (F e)) : Mem B w0 w [e, packE R] := (h B w0 w [] e).1 hM
end
end Go.Proofs.Ytbgegmignhghnaa
