/-
  When fire arrives: least times over steps that take their time; plain lists.
-/
import Derived.Test.YtpflnmejbialjaaGreatDoorVNear
/-
  When fire arrives: least times over steps that take their time; plain lists.
-/
namespace Go.Proofs.YtpflnmejbialjaaGreatDoor
set_option linter.unusedSimpArgs false
set_option linter.unusedVariables false
open Go.RowKit

/-- where fire is at what tick, in k steps -/
def arK (n : Nat) (near : Nat → Nat → Bool) (burn src : Nat → Bool) (start : Int) (don : Nat → Nat → Int → Int) : Nat → Nat → Int → Prop
  | 0, c, t => c < n ∧ src c = true ∧ burn c = true ∧ t = start
  | k + 1, c, t => arK n near burn src start don k c t ∨ (c < n ∧ burn c = true ∧ ∃ d t', arK n near burn src start don k d t' ∧ near d c = true ∧ t = don d c t')
def Arr (n : Nat) (near : Nat → Nat → Bool) (burn src : Nat → Bool) (start : Int) (don : Nat → Nat → Int → Int) (c : Nat) (t : Int) : Prop := ∃ k, arK n near burn src start don k c t
section
variable {n : Nat} {near : Nat → Nat → Bool} {burn src : Nat → Bool} {start : Int} {don : Nat → Nat → Int → Int}
theorem Arr.base {c : Nat} (h : c < n) (hs : src c = true) (hb : burn c = true) : Arr n near burn src start don c start := ⟨0, h, hs, hb, rfl⟩
theorem Arr.step {d c : Nat} {t : Int} (hd : Arr n near burn src start don d t) (h : c < n) (hb : burn c = true) (hn : near d c = true) : Arr n near burn src start don c (don d c t) := by
  obtain ⟨k, hk⟩ := hd
  exact ⟨k + 1, .inr ⟨h, hb, d, t, hk, hn, rfl⟩⟩
theorem Arr.least {T : Nat → Int → Prop} (h0 : ∀ c, c < n → src c = true → burn c = true → T c start) (h1 : ∀ d c t, T d t → c < n → burn c = true → near d c = true → T c (don d c t)) {c : Nat} {t : Int} (h : Arr n near burn src start don c t) : T c t := by
  obtain ⟨k, hk⟩ := h
  induction k generalizing c t with
  | zero => obtain ⟨a, b, d, rfl⟩ := hk; exact h0 c a b d
  | succ k ih =>
    rcases hk with hk | ⟨hc, hb, d, t', hk, hn, rfl⟩
    · exact ih hk
    · exact h1 d c t' (ih hk) hc hb hn
/-- the times at which fire arrives -/
structure IsT (n : Nat) (near : Nat → Nat → Bool) (burn src : Nat → Bool) (start : Int) (don : Nat → Nat → Int → Int) (ts : List Int) : Prop where
  len : ts.length = n
  is : ∀ c, c < n → ts.getD c 0 = -1 ∨ (0 ≤ ts.getD c 0 ∧ Arr n near burn src start don c (ts.getD c 0))
  le : ∀ c t, Arr n near burn src start don c t → ts.getD c 0 ≠ -1 ∧ ts.getD c 0 ≤ t
/-- what is begun: times that fire takes, sources at the start -/
structure BegT (n : Nat) (near : Nat → Nat → Bool) (burn src : Nat → Bool) (start : Int) (don : Nat → Nat → Int → Int) (ts : List Int) : Prop where
  len : ts.length = n
  is : ∀ c, c < n → ts.getD c 0 = -1 ∨ (0 ≤ ts.getD c 0 ∧ Arr n near burn src start don c (ts.getD c 0))
  src : ∀ c, c < n → src c = true → burn c = true → ts.getD c 0 ≠ -1 ∧ ts.getD c 0 ≤ start
/-- the edge from a to b has been taken -/
def edgeT (burn : Nat → Bool) (near : Nat → Nat → Bool) (don : Nat → Nat → Int → Int) (ts : List Int) (a b : Nat) : Prop := ts.getD a 0 ≠ -1 → burn b = true → near a b = true → ts.getD b 0 ≠ -1 ∧ ts.getD b 0 ≤ don a b (ts.getD a 0)
theorem BegT.done {ts : List Int} (h : BegT n near burn src start don ts) (hm : ∀ a b t t', 0 ≤ t → t ≤ t' → don a b t ≤ don a b t') (he : ∀ a b, a < n → b < n → edgeT burn near don ts a b) : IsT n near burn src start don ts := by
  refine ⟨h.len, h.is, fun c t ht => ?_⟩
  have key := ht.least (T := fun c t => c < n ∧ ts.getD c 0 ≠ -1 ∧ ts.getD c 0 ≤ t) (fun c hc hs hb => ⟨hc, h.src c hc hs hb⟩) (fun d c t hd hc hb hn => by
    obtain ⟨hdn, hd1, hd2⟩ := hd
    obtain ⟨e1, e2⟩ := he d c hdn hc hd1 hb hn
    have h0 : 0 ≤ ts.getD d 0 := by
      rcases h.is d hdn with e | ⟨e, _⟩
      · exact absurd e hd1
      · exact e
    exact ⟨hc, e1, Int.le_trans e2 (hm d c _ _ h0 hd2)⟩)
  exact key.2
end
end Go.Proofs.YtpflnmejbialjaaGreatDoor
