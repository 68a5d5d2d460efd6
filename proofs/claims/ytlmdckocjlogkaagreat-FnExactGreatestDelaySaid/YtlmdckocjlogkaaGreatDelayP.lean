/-
  The greatest delay: the pure part.
-/
import Derived.Test.YtlmdckocjlogkaaGreatHoldP
import Derived.Test.YtlmdckocjlogkaaGreatArrS
namespace Go.Proofs.YtlmdckocjlogkaaGreat
set_option linter.unusedSimpArgs false
set_option linter.unusedVariables false
open Go.RowKit

section
variable {W n : Nat} {xs ss : List Int} {l : List PhaseI} {start : Int}
theorem arrT_bnd (hx : ∀ x ∈ xs, 0 ≤ x ∧ x ≤ 20) (hl : xs.length = n) (hn : n ≤ 25) (hp : phasesB l = true) (hst : 0 ≤ start ∧ start ≤ 1000) : BndT n (arrT W n xs ss l start) := by
  obtain ⟨m, ⟨ts, hb, hd, hm⟩, hmin⟩ := least_nat (P := fun m => ∃ ts, BegTI W n xs ss l start ts ∧ BndT n ts ∧ sumT ts n = m) ⟨_, beg0 n xs ss start, beg0_ok hst.1, beg0_bnd hst.2, rfl⟩
  have he : ∀ a b, a < n → b < n → edgeI W xs l ts a b := by
    intro a b ha hbn hta hbb hnr
    by_cases hq : ts.getD b 0 = -1 ∨ donI W xs l a b (ts.getD a 0) < ts.getD b 0
    · have hr := relaxI hx hl hn hb hd ha hbn hta hbb hnr hq
      have := hmin _ ⟨_, hr.1, hr.2.1, rfl⟩
      have := hr.2.2
      omega
    · have h1 : ¬ ts.getD b 0 = -1 := fun e => hq (.inl e)
      have h2 : ¬ donI W xs l a b (ts.getD a 0) < ts.getD b 0 := fun e => hq (.inr e)
      exact ⟨h1, by omega⟩
  rw [BegTI.done hp hb he]
  exact hd
end

/-- the last tick at which a cut is in time -/
def lastT (ts : List Int) (c : CutI) : Int := if ts.getD c.cell.toNat 0 = -1 then 9999 else ts.getD c.cell.toNat 0 - 1
def minI (a b : Int) : Int := if a ≤ b then a else b
def dlyTo (ts : List Int) (l : List CutI) : Int := l.foldl (fun d c => minI d (lastT ts c - c.tick)) 9999
theorem dly_succ {ts : List Int} {l : List CutI} {k : Nat} (hk : k < l.length) : dlyTo ts (l.take (k + 1)) = minI (dlyTo ts (l.take k)) (lastT ts (l.getD k CutI.zero) - (l.getD k CutI.zero).tick) := by
  unfold dlyTo
  rw [take_succV (z := CutI.zero) hk, List.foldl_append]
  rfl
theorem dly_bnd {ts : List Int} {l : List CutI} (h : ∀ c ∈ l, -1 ≤ ts.getD c.cell.toNat 0 ∧ 0 ≤ c.tick ∧ c.tick ≤ 9999) : -10001 ≤ dlyTo ts l ∧ dlyTo ts l ≤ 9999 := by
  unfold dlyTo
  have key : ∀ (l : List CutI) (d : Int), (∀ c ∈ l, -1 ≤ ts.getD c.cell.toNat 0 ∧ 0 ≤ c.tick ∧ c.tick ≤ 9999) → -10001 ≤ d → d ≤ 9999 → -10001 ≤ l.foldl (fun d c => minI d (lastT ts c - c.tick)) d ∧ l.foldl (fun d c => minI d (lastT ts c - c.tick)) d ≤ 9999 := by
    intro l
    induction l with
    | nil => intro d _ h1 h2; exact ⟨h1, h2⟩
    | cons c l ih =>
      intro d hc h1 h2
      rw [List.foldl_cons]
      have h3 := hc c (List.mem_cons_self ..)
      have h4 : -1 ≤ lastT ts c := by unfold lastT; split <;> omega
      refine ih _ (fun x hx => hc x (List.mem_cons_of_mem _ hx)) ?_ ?_
      · unfold minI; split <;> omega
      · unfold minI; split <;> omega
  exact key l 9999 h (by omega) (by omega)

structure IB where
  a : Int
  ok : Bool
noncomputable def delayR (W H : Int) (xs : List Int) (ph : List PhaseI) (ss : List Int) (start : Int) (cu : List CutI) (ts : List Int) : IB := if (doHoldR W H xs ph ss start cu ts).ok && (doHoldR W H xs ph ss start cu ts).a && decide (0 < cu.length) then ⟨dlyTo (arrT W.toNat xs.length xs ss ph start) cu, true⟩ else ⟨0, false⟩

end Go.Proofs.YtlmdckocjlogkaaGreat
