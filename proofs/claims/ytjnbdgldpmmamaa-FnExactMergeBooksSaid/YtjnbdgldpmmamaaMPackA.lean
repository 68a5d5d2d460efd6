/-
  Several entries as one, for regions that draw their order; bounds of logs that are drawn.
-/
import Derived.Test.YtjnbdgldpmmamaaMAt
/-
  Several entries as one, for regions that draw their order; bounds of logs that are drawn.
-/
namespace Go.Proofs.Ytjnbdgldpmmamaa
set_option linter.unusedSimpArgs false
set_option linter.unusedVariables false
open Go.RowKit

def packE (G : List Ent) : Ent where
  hold B w := (∀ e ∈ G, e.hold B w) ∧ G.Pairwise fun e e' : Ent => ∀ k : Nat, e.blk k → ¬ e'.blk k
  blk k := ∃ e ∈ G, e.blk k
  lt := by
    rintro B w ⟨h1, _⟩ k ⟨e, he, hk⟩
    exact e.lt (h1 e he) k hk
  mono := fun h hB => ⟨fun e he => e.mono (h.1 e he) hB, h.2⟩
  keep := by
    rintro B w d w' ⟨h1, h2⟩ hk hd
    exact ⟨fun e he => e.keep (h1 e he) hk (fun k hk' => hd k ⟨e, he, hk'⟩), h2⟩
section
variable {B : Nat} {w0 w : World} {G X Y : List Ent}
theorem Mem.unpackAt (X : List Ent) (h : Mem B w0 w (X ++ packE G :: Y)) : Mem B w0 w (X ++ (G ++ Y)) := by
  have hp : packE G ∈ X ++ packE G :: Y := by simp
  obtain ⟨h1, h2⟩ := h.ents _ hp
  obtain ⟨a1, a2, a3⟩ := List.pairwise_append.1 h.apart
  obtain ⟨a4, a5⟩ := List.pairwise_cons.1 a2
  refine ⟨h.below, h.size, fun e he => ?_, ?_⟩
  · rcases List.mem_append.1 he with he | he
    · exact h.ents e (by simp [he])
    · rcases List.mem_append.1 he with he | he
      · exact h1 e he
      · exact h.ents e (by simp [he])
  · refine List.pairwise_append.2 ⟨a1, List.pairwise_append.2 ⟨h2, a5, fun e he e' he' k hk hk' => a4 e' he' k ⟨e, he, hk⟩ hk'⟩, fun e he e' he' k hk hk' => ?_⟩
    rcases List.mem_append.1 he' with he' | he'
    · exact a3 e he (packE G) (by simp) k hk ⟨e', he', hk'⟩
    · exact a3 e he e' (by simp [he']) k hk hk'
theorem Mem.packAt (X : List Ent) (h : Mem B w0 w (X ++ (G ++ Y))) : Mem B w0 w (X ++ packE G :: Y) := by
  obtain ⟨a1, a2, a3⟩ := List.pairwise_append.1 h.apart
  obtain ⟨a4, a5, a6⟩ := List.pairwise_append.1 a2
  refine ⟨h.below, h.size, fun e he => ?_, ?_⟩
  · rcases List.mem_append.1 he with he | he
    · exact h.ents e (by simp [he])
    · rcases List.mem_cons.1 he with rfl | he
      · exact ⟨fun e' he' => h.ents e' (by simp [he']), a4⟩
      · exact h.ents e (by simp [he])
  · refine List.pairwise_append.2 ⟨a1, List.pairwise_cons.2 ⟨fun e' he' k hk hk' => ?_, a5⟩, fun e he e' he' k hk hk' => ?_⟩
    · obtain ⟨e, he, hk⟩ := hk
      exact a6 e he e' he' k hk hk'
    · rcases List.mem_cons.1 he' with rfl | he'
      · obtain ⟨e2, he2, hk2⟩ := hk'
        exact a3 e he e2 (by simp [he2]) k hk hk2
      · exact a3 e he e' (by simp [he']) k hk hk'
end
end Go.Proofs.Ytjnbdgldpmmamaa
