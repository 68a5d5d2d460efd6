/-
  Arrival times: the plain laws of the reference's and the program's loops.
-/
import Derived.Test.YtojfbcgfeojdfaaGreatCWork
/-
  Arrival times: the plain laws of the reference's and the program's loops.
-/
namespace Go.Proofs.YtojfbcgfeojdfaaGreat
set_option linter.unusedSimpArgs false
set_option linter.unusedVariables false
open Go.RowKit

def donI (W : Nat) (xs : List Int) (l : List PhaseI) (a b : Nat) (t : Int) : Int := doneT (spd l) t (wkI W xs a b)
abbrev IsTI (W n : Nat) (xs ss : List Int) (l : List PhaseI) (start : Int) (ts : List Int) : Prop := IsT n (nearN W) (brn xs) (fun c => hasI ss c) start (donI W xs l) ts
abbrev BegTI (W n : Nat) (xs ss : List Int) (l : List PhaseI) (start : Int) (ts : List Int) : Prop := BegT n (nearN W) (brn xs) (fun c => hasI ss c) start (donI W xs l) ts
abbrev edgeI (W : Nat) (xs : List Int) (l : List PhaseI) (ts : List Int) (a b : Nat) : Prop := edgeT (brn xs) (nearN W) (donI W xs l) ts a b
/-- the times at which fire arrives -/
noncomputable def arrT (W n : Nat) (xs ss : List Int) (l : List PhaseI) (start : Int) : List Int := @Classical.epsilon (List Int) ⟨[]⟩ (IsTI W n xs ss l start)
section
variable {W n : Nat} {xs ss : List Int} {l : List PhaseI} {start : Int} {ts : List Int}
theorem arrT_eq (h : IsTI W n xs ss l start ts) : arrT W n xs ss l start = ts :=
  IsT.unique (@Classical.epsilon_spec _ (IsTI W n xs ss l start) ⟨ts, h⟩) h
theorem donI_ge (a b : Nat) (t : Int) : t ≤ donI W xs l a b t := doneT_ge _ _
theorem donI_mono (hp : phasesB l = true) (a b : Nat) (t t' : Int) (h0 : 0 ≤ t) (h : t ≤ t') : donI W xs l a b t ≤ donI W xs l a b t' := doneT_le_of (fun t h => (spd_pos hp (t := t) h).1) h0 h
theorem donI_le (hx : ∀ x ∈ xs, 0 ≤ x ∧ x ≤ 20) {a b : Nat} (ha : a < xs.length) (hb : b < xs.length) (t : Int) : donI W xs l a b t ≤ t + 120 := by
  have h1 := wkI_bound (W := W) hx ha hb
  have h2 := doneT_le (sp := spd l) (t := t) h1.1
  unfold donI
  omega
theorem BegTI.done (hp : phasesB l = true) (h : BegTI W n xs ss l start ts) (he : ∀ a b, a < n → b < n → edgeI W xs l ts a b) : arrT W n xs ss l start = ts :=
  arrT_eq (BegT.done h (fun a b t t' h0 h1 => donI_mono hp a b t t' h0 h1) he)

def beg0 (n : Nat) (xs ss : List Int) (start : Int) : List Int := (List.range n).map fun c => if brn xs c && hasI ss c then start else -1
theorem beg0_get {c : Nat} (hc : c < n) : (beg0 n xs ss start).getD c 0 = if brn xs c && hasI ss c then start else -1 := by simp [beg0, List.getD, hc]
theorem beg0_ok (hs : 0 ≤ start) : BegTI W n xs ss l start (beg0 n xs ss start) := by
  refine ⟨by simp [beg0], fun c hc => ?_, fun c hc h1 h2 => ?_⟩
  · rw [beg0_get hc]
    cases hb : brn xs c
    · exact .inl rfl
    · cases hh : hasI ss (c : Int)
      · exact .inl rfl
      · exact .inr ⟨hs, Arr.base hc hh hb⟩
  · rw [beg0_get hc, h2, h1]
    simp only [Bool.and_self, if_true]
    exact ⟨by omega, Int.le_refl _⟩

def valT (ts : List Int) (c : Nat) : Nat := if ts.getD c 0 = -1 then 5000 else (ts.getD c 0).toNat
def oneT (ts : List Int) (c : Nat) : Nat := if ts.getD c 0 = -1 then 0 else 1
def sumN (f : Nat → Nat) : Nat → Nat
  | 0 => 0
  | n + 1 => sumN f n + f n
theorem sumN_congr {f g : Nat → Nat} : ∀ {n : Nat}, (∀ c, c < n → f c = g c) → sumN f n = sumN g n
  | 0, _ => rfl
  | n + 1, h => by rw [sumN, sumN, sumN_congr (fun c hc => h c (by omega)), h n (by omega)]
theorem sumN_one {f g : Nat → Nat} {b : Nat} : ∀ {n : Nat}, b < n → (∀ c, c ≠ b → f c = g c) → sumN f n + g b = sumN g n + f b
  | 0, h, _ => by omega
  | n + 1, h, hc => by
    by_cases e : b = n
    · subst e
      have := sumN_congr (f := f) (g := g) (n := b) (fun c h => hc c (by omega))
      rw [sumN, sumN, this]
      omega
    · have := sumN_one (f := f) (g := g) (b := b) (n := n) (by omega) hc
      have h2 := hc n (by omega)
      rw [sumN, sumN, h2]
      omega
theorem sumN_le {f : Nat → Nat} {k : Nat} : ∀ {n : Nat}, (∀ c, c < n → f c ≤ k) → sumN f n ≤ k * n
  | 0, _ => Nat.zero_le _
  | n + 1, h => by
    have h1 := sumN_le (f := f) (k := k) (n := n) (fun c hc => h c (by omega))
    have h2 := h n (by omega)
    rw [sumN, Nat.mul_succ]
    omega
def sumT (ts : List Int) (n : Nat) : Nat := sumN (valT ts) n
def cntT (ts : List Int) (n : Nat) : Nat := sumN (oneT ts) n
theorem cntT_le (ts : List Int) (n : Nat) : cntT ts n ≤ n := by
  have := sumN_le (f := oneT ts) (k := 1) (n := n) (fun c _ => by unfold oneT; split <;> omega)
  unfold cntT
  omega
structure BndT (n : Nat) (ts : List Int) : Prop where
  le : ∀ c, c < n → ts.getD c 0 ≤ 1000 + 120 * (cntT ts n : Nat)
theorem BndT.max {n : Nat} {ts : List Int} (h : BndT n ts) (hn : n ≤ 25) {c : Nat} (hc : c < n) : ts.getD c 0 ≤ 4000 := by
  have h1 := h.le c hc
  have h2 := cntT_le ts n
  omega
theorem beg0_bnd (hs : start ≤ 1000) : BndT n (beg0 n xs ss start) := by
  refine ⟨fun c hc => ?_⟩
  rw [beg0_get hc]
  split <;> omega
theorem set_get {b c : Nat} {v : Int} (hl : ts.length = n) (hc : c < n) : (ts.set b v).getD c 0 = if c = b then v else ts.getD c 0 := by
  by_cases e : c = b
  · subst e
    rw [if_pos rfl]
    simp [List.getD, hl, hc]
  · rw [if_neg e]
    simp [List.getD, List.getElem?_set_ne (Ne.symm e)]
theorem set_get' {b c : Nat} {v : Int} (e : c ≠ b) : (ts.set b v).getD c 0 = ts.getD c 0 := by
  simp [List.getD, List.getElem?_set_ne (Ne.symm e)]
/-- a shorter time: less is left, and the bound stays -/
theorem relax_sum (hl : ts.length = n) (hn : n ≤ 25) (hb : BndT n ts) {b : Nat} {v : Int} (hbn : b < n) (h0 : 0 ≤ v) (hv : v ≤ 1120 + 120 * (cntT ts n : Nat)) (hlt : ts.getD b 0 = -1 ∨ (0 ≤ ts.getD b 0 ∧ v < ts.getD b 0)) :
    sumT (ts.set b v) n < sumT ts n ∧ BndT n (ts.set b v) := by
  have e1 := sumN_one (f := valT (ts.set b v)) (g := valT ts) hbn (fun c hc => by unfold valT; rw [set_get' hc])
  have e2 := sumN_one (f := oneT (ts.set b v)) (g := oneT ts) hbn (fun c hc => by unfold oneT; rw [set_get' hc])
  have g := set_get (b := b) (v := v) hl hbn
  rw [if_pos rfl] at g
  have v1 : valT (ts.set b v) b = v.toNat := by unfold valT; rw [g, if_neg (by omega)]
  have o1 : oneT (ts.set b v) b = 1 := by unfold oneT; rw [g, if_neg (by omega)]
  have hc := cntT_le ts n
  rw [v1] at e1
  rw [o1] at e2
  change sumT (ts.set b v) n + _ = sumT ts n + _ at e1
  change cntT (ts.set b v) n + _ = cntT ts n + _ at e2
  rcases hlt with h | ⟨hp, h⟩
  · have v2 : valT ts b = 5000 := by unfold valT; rw [if_pos h]
    have o2 : oneT ts b = 0 := by unfold oneT; rw [if_pos h]
    rw [v2] at e1
    rw [o2] at e2
    refine ⟨?_, ⟨fun c hcn => ?_⟩⟩
    · have h5 : cntT (ts.set b v) n ≤ n := cntT_le _ _
      omega
    · rw [set_get hl hcn]
      split
      · omega
      · have := hb.le c hcn
        omega
  · have v2 : valT ts b = (ts.getD b 0).toNat := by unfold valT; rw [if_neg (by omega)]
    have o2 : oneT ts b = 1 := by unfold oneT; rw [if_neg (by omega)]
    rw [v2] at e1
    rw [o2] at e2
    refine ⟨by omega, ⟨fun c hcn => ?_⟩⟩
    rw [set_get hl hcn]
    have h6 := hb.le c hcn
    have h7 := hb.le b hbn
    split <;> omega
theorem sumT_le (hl : ts.length = n) (hn : n ≤ 25) (hb : BndT n ts) : sumT ts n ≤ 125000 := by
  have := sumN_le (f := valT ts) (k := 5000) (n := n) (fun c hc => by
    have := hb.max hn hc
    unfold valT
    split <;> omega)
  unfold sumT
  omega
end
end Go.Proofs.YtojfbcgfeojdfaaGreat
