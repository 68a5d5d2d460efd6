/-
  A region that draws its order and holds several operations that make memory: each is shown once, whatever else has been done.
-/
import Derived.Test.YtpflnmejbialjaaGreatDoorVRd
/-
  A region that draws its order and holds several operations that make memory: each is shown once, whatever else has been done.
-/
namespace Go.Proofs.YtpflnmejbialjaaGreatDoor
set_option linter.unusedSimpArgs false
set_option linter.unusedVariables false
open Go.RowKit

/-- what an operation made: its value, its memory -/
abbrev Res := Value × List Ent
def puts (ds : Nat → Option Tmp) (ρ : Nat → Res) : List Nat → Act → Act
  | [], a => a
  | i :: is, a => puts ds ρ is (a.put (ds i) (ρ i).1)
def flat (ρ : Nat → Res) (is : List Nat) : List Ent := is.flatMap fun i => (ρ i).2
section
variable {P : Program} {ops : Array Oper} {Q : Exit → Act → World → Prop} {md : Region.Mode} {S : World → Prop} {t : Nat} {B : Nat} {w0 : World} {G0 : List Ent} {ds : Nat → Option Tmp} {pre : Nat → List Nat} {ms : List Nat} {ρ : Nat → Res}

/-- an operation, shown with what it looks at: it makes what R says, whatever else there is -/
def OpMakes (P : Program) (B : Nat) (w0 : World) (o : Oper) (d : Option Tmp) (a : Act) (R : Value → List Ent → Prop) (G : List Ent) : Prop :=
  ∀ w G1, Mem B w0 w (G ++ G1) → ∀ (K : Act → World → Prop) (Q : Exit → Act → World → Prop), ShutT (∀ v E w', R v E → Mem B w0 w' (E ++ (G ++ G1)) → K (a.put d v) w') → Oper.wp P o a w K Q
def SpecAt (P : Program) (ops : Array Oper) (B : Nat) (w0 : World) (G0 : List Ent) (ds : Nat → Option Tmp) (pre : Nat → List Nat) (R : Nat → List Res → Value → List Ent → Prop) (base : Act) (i : Nat) : Prop :=
  ∀ o, ops[i]? = some o → ∀ ρ : Nat → Res, (∀ j ∈ pre i, R j ((pre j).map ρ) (ρ j).1 (ρ j).2) → OpMakes P B w0 o (ds i) (puts ds ρ (pre i) base) (R i ((pre i).map ρ)) (flat ρ (pre i) ++ G0)
theorem SpecAt.intro {R : Nat → List Res → Value → List Ent → Prop} {base : Act} {i : Nat} {o : Oper} (ho : ops[i]? = some o)
    (h : ∀ ρ : Nat → Res, (∀ j ∈ pre i, R j ((pre j).map ρ) (ρ j).1 (ρ j).2) → OpMakes P B w0 o (ds i) (puts ds ρ (pre i) base) (R i ((pre i).map ρ)) (flat ρ (pre i) ++ G0)) : SpecAt P ops B w0 G0 ds pre R base i := by
  intro o' ho'
  obtain rfl : o = o' := Option.some.inj (ho.symm.trans ho')
  exact h
def Specs (P : Program) (ops : Array Oper) (B : Nat) (w0 : World) (G0 : List Ent) (ds : Nat → Option Tmp) (pre : Nat → List Nat) (R : Nat → List Res → Value → List Ent → Prop) (base : Act) : List Nat → Prop
  | [] => True
  | i :: is => SpecAt P ops B w0 G0 ds pre R base i ∧ Specs P ops B w0 G0 ds pre R base is
theorem Specs.at {R : Nat → List Res → Value → List Ent → Prop} {base : Act} : ∀ {is : List Nat}, Specs P ops B w0 G0 ds pre R base is → ∀ i ∈ is, SpecAt P ops B w0 G0 ds pre R base i
  | [], _, i, hi => by simp at hi
  | x :: is, h, i, hi => by
    rcases List.mem_cons.1 hi with rfl | hi
    · exact h.1
    · exact h.2.at i hi

end
end Go.Proofs.YtpflnmejbialjaaGreatDoor
