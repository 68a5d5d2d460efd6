/-
  A queue: a slice of numbers that is cut at its head and appended to; and appends of one number, in terms of entries.
-/
import Derived.Test.YtjnbdgldpmmamaaGreatULst
import Derived.Test.YtjnbdgldpmmamaaGreatURd
import Derived.ArgAppend
import Derived.Deep.Upon
/-
  Several entries as one, for regions that draw their order; bounds of logs that are drawn.
-/
namespace Go.Proofs.YtjnbdgldpmmamaaGreat
set_option linter.unusedSimpArgs false
set_option linter.unusedVariables false
open Go.RowKit

def packE (G : List Ent) : Ent where
  hold B w := (∀ e ∈ G, e.hold B w) ∧ G.Pairwise fun e e' : Ent => ∀ k : Nat, e.blk k → ¬ e'.blk k
  blk k := ∃ e ∈ G, e.blk k
  lt := by
    rintro B w ⟨h1, _⟩ k ⟨e, he, hk⟩
    exact e.lt (h1 e he) k hk
  mono := fun h hB => ⟨fun e he => e.mono (h.1 e he) hB, h.2⟩
  keep := by
    rintro B w d w' ⟨h1, h2⟩ hk hd
    exact ⟨fun e he => e.keep (h1 e he) hk (fun k hk' => hd k ⟨e, he, hk'⟩), h2⟩
section
variable {B : Nat} {w0 w : World} {G X Y : List Ent}
theorem Mem.unpackAt (X : List Ent) (h : Mem B w0 w (X ++ packE G :: Y)) : Mem B w0 w (X ++ (G ++ Y)) := by
  have hp : packE G ∈ X ++ packE G :: Y := by simp
  obtain ⟨h1, h2⟩ := h.ents _ hp
  obtain ⟨a1, a2, a3⟩ := List.pairwise_append.1 h.apart
  obtain ⟨a4, a5⟩ := List.pairwise_cons.1 a2
  refine ⟨h.below, h.size, fun e he => ?_, ?_⟩
  · rcases List.mem_append.1 he with he | he
    · exact h.ents e (by simp [he])
    · rcases List.mem_append.1 he with he | he
      · exact h1 e he
      · exact h.ents e (by simp [he])
  · refine List.pairwise_append.2 ⟨a1, List.pairwise_append.2 ⟨h2, a5, fun e he e' he' k hk hk' => a4 e' he' k ⟨e, he, hk⟩ hk'⟩, fun e he e' he' k hk hk' => ?_⟩
    rcases List.mem_append.1 he' with he' | he'
    · exact a3 e he (packE G) (by simp) k hk ⟨e', he', hk'⟩
    · exact a3 e he e' (by simp [he']) k hk hk'
theorem Mem.packAt (X : List Ent) (h : Mem B w0 w (X ++ (G ++ Y))) : Mem B w0 w (X ++ packE G :: Y) := by
  obtain ⟨a1, a2, a3⟩ := List.pairwise_append.1 h.apart
  obtain ⟨a4, a5, a6⟩ := List.pairwise_append.1 a2
  refine ⟨h.below, h.size, fun e he => ?_, ?_⟩
  · rcases List.mem_append.1 he with he | he
    · exact h.ents e (by simp [he])
    · rcases List.mem_cons.1 he with rfl | he
      · exact ⟨fun e' he' => h.ents e' (by simp [he']), a4⟩
      · exact h.ents e (by simp [he])
  · refine List.pairwise_append.2 ⟨a1, List.pairwise_cons.2 ⟨fun e' he' k hk hk' => ?_, a5⟩, fun e he e' he' k hk hk' => ?_⟩
    · obtain ⟨e, he, hk⟩ := hk
      exact a6 e he e' he' k hk hk'
    · rcases List.mem_cons.1 he' with rfl | he'
      · obtain ⟨e2, he2, hk2⟩ := hk'
        exact a3 e he e2 (by simp [he2]) k hk hk2
      · exact a3 e he e' (by simp [he']) k hk hk'
end
end Go.Proofs.YtjnbdgldpmmamaaGreat

/-
  A region that draws its order and holds several operations that make memory: each is shown once, whatever else has been done.
-/
namespace Go.Proofs.YtjnbdgldpmmamaaGreat
set_option linter.unusedSimpArgs false
set_option linter.unusedVariables false
open Go.RowKit

/-- what an operation made: its value, its memory -/
abbrev Res := Value × List Ent
def puts (ds : Nat → Option Tmp) (ρ : Nat → Res) : List Nat → Act → Act
  | [], a => a
  | i :: is, a => puts ds ρ is (a.put (ds i) (ρ i).1)
def flat (ρ : Nat → Res) (is : List Nat) : List Ent := is.flatMap fun i => (ρ i).2
section
variable {P : Program} {ops : Array Oper} {Q : Exit → Act → World → Prop} {md : Region.Mode} {S : World → Prop} {t : Nat} {B : Nat} {w0 : World} {G0 : List Ent} {ds : Nat → Option Tmp} {pre : Nat → List Nat} {ms : List Nat} {ρ : Nat → Res}

/-- an operation, shown with what it looks at: it makes what R says, whatever else there is -/
def OpMakes (P : Program) (B : Nat) (w0 : World) (o : Oper) (d : Option Tmp) (a : Act) (R : Value → List Ent → Prop) (G : List Ent) : Prop :=
  ∀ w G1, Mem B w0 w (G ++ G1) → ∀ (K : Act → World → Prop) (Q : Exit → Act → World → Prop), ShutT (∀ v E w', R v E → Mem B w0 w' (E ++ (G ++ G1)) → K (a.put d v) w') → Oper.wp P o a w K Q
def SpecAt (P : Program) (ops : Array Oper) (B : Nat) (w0 : World) (G0 : List Ent) (ds : Nat → Option Tmp) (pre : Nat → List Nat) (R : Nat → List Res → Value → List Ent → Prop) (base : Act) (i : Nat) : Prop :=
  ∀ o, ops[i]? = some o → ∀ ρ : Nat → Res, (∀ j ∈ pre i, R j ((pre j).map ρ) (ρ j).1 (ρ j).2) → OpMakes P B w0 o (ds i) (puts ds ρ (pre i) base) (R i ((pre i).map ρ)) (flat ρ (pre i) ++ G0)
theorem SpecAt.intro {R : Nat → List Res → Value → List Ent → Prop} {base : Act} {i : Nat} {o : Oper} (ho : ops[i]? = some o)
    (h : ∀ ρ : Nat → Res, (∀ j ∈ pre i, R j ((pre j).map ρ) (ρ j).1 (ρ j).2) → OpMakes P B w0 o (ds i) (puts ds ρ (pre i) base) (R i ((pre i).map ρ)) (flat ρ (pre i) ++ G0)) : SpecAt P ops B w0 G0 ds pre R base i := by
  intro o' ho'
  obtain rfl : o = o' := Option.some.inj (ho.symm.trans ho')
  exact h
def Specs (P : Program) (ops : Array Oper) (B : Nat) (w0 : World) (G0 : List Ent) (ds : Nat → Option Tmp) (pre : Nat → List Nat) (R : Nat → List Res → Value → List Ent → Prop) (base : Act) : List Nat → Prop
  | [] => True
  | i :: is => SpecAt P ops B w0 G0 ds pre R base i ∧ Specs P ops B w0 G0 ds pre R base is
theorem Specs.at {R : Nat → List Res → Value → List Ent → Prop} {base : Act} : ∀ {is : List Nat}, Specs P ops B w0 G0 ds pre R base is → ∀ i ∈ is, SpecAt P ops B w0 G0 ds pre R base i
  | [], _, i, hi => by simp at hi
  | x :: is, h, i, hi => by
    rcases List.mem_cons.1 hi with rfl | hi
    · exact h.1
    · exact h.2.at i hi

end
end Go.Proofs.YtjnbdgldpmmamaaGreat

/-
  A queue: a slice of numbers that is cut at its head and appended to; and appends of one number, in terms of entries.
-/
namespace Go.Proofs.YtjnbdgldpmmamaaGreat
set_option linter.unusedSimpArgs false
set_option linter.unusedVariables false
open Go.RowKit

/-- the slice (a, n, c) lies in a block from B on, that is nobody else's, with the numbers xs -/
structure Qu (B : Nat) (w : World) (a : Option Addr) (n c : Nat) (xs : List Int) : Prop where
  len : xs.length = n
  cap : n ≤ c
  capm : c ≤ maxLen
  room : n ≤ 17592186044416
  wf : ∀ x ∈ xs, I64 x
  at' : (a = none ∧ c = 0) ∨ ∃ g off cur, a = some ⟨g, off, none⟩ ∧ B ≤ g ∧ w.heap[g]? = some (.cells cur 3 (0, 0)) ∧ off + c ≤ cur.size ∧ (cur.toList.drop off).take n = cellsI xs

theorem Qu.ints {B : Nat} {w : World} {a : Option Addr} {n c : Nat} {xs : List Int} (h : Qu B w a n c xs) : Ints w a n c xs := by
  refine ⟨h.len, h.cap, h.capm, ?_, h.room, h.wf, fun k hk => ?_⟩
  · rintro rfl
    rcases h.at' with ⟨_, h1⟩ | ⟨g, off, cur, e, _⟩
    · exact h1
    · cases e
  · rcases h.at' with ⟨_, h1⟩ | ⟨g, off, cur, e, hb, hh, hle, ht⟩
    · have := h.cap; omega
    · refine ⟨g, off, e, (Array.getElem?_eq_some_iff.1 hh).1, fun i hi => ?_⟩
      have h2 : (cellsI xs)[i]? = some (.int .i64 (xs.getD i 0)) := by
        have hx : i < xs.length := by rw [h.len]; exact hi
        simp [cellsI, List.getElem?_map, List.getElem?_eq_getElem hx, List.getD_eq_getElem?_getD]
      rw [← ht, List.getElem?_take_of_lt hi, List.getElem?_drop] at h2
      simp [World.cell?, hh]
      simpa using h2

section
variable {B : Nat} {w0 w w' : World} {G G' : List Ent}
end
section
variable {B : Nat} {w0 w w' : World} {G : List Ent} {G' : Ent → List Ent}
end

section
variable {B : Nat} {w0 w : World} {G : List Ent} {G' : Ent → List Ent}
end
end Go.Proofs.YtjnbdgldpmmamaaGreat
