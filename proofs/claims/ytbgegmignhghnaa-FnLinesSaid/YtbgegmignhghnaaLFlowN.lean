/-
  The net of a terrain: what a flow in it carries that cannot grow is the size of the smallest line. Plain Lean, no program in sight.
-/
import Derived.Test.YtbgegmignhghnaaLFlowP
/-
  The net of a terrain: what a flow in it carries that cannot grow is the size of the smallest line. Plain Lean, no program in sight.
-/
namespace Go.Proofs.Ytbgegmignhghnaa
set_option linter.unusedSimpArgs false
set_option linter.unusedVariables false

def freeP (burn src snk : Nat → Bool) (c : Nat) : Bool := burn c && !src c && !snk c
/-- a neighbour of a burnable cell of a set -/
def Tch (n : Nat) (near : Nat → Nat → Bool) (burn A : Nat → Bool) (c : Nat) : Prop := ∃ d, d < n ∧ near c d = true ∧ burn d = true ∧ A d = true
/-- the places of a net: the beginning and the end of each cell, and two more -/
structure Net (N n s t : Nat) (i o dec : Nat → Nat) : Prop where
  il : ∀ x, x < n → i x < N
  ol : ∀ x, x < n → o x < N
  di : ∀ x, x < n → dec (i x) = x
  dO : ∀ x, x < n → dec (o x) = x
  io : ∀ x y, x < n → y < n → i x ≠ o y
  is : ∀ x, x < n → i x ≠ s
  it : ∀ x, x < n → i x ≠ t
  os : ∀ x, x < n → o x ≠ s
  ot : ∀ x, x < n → o x ≠ t
  sN : s < N
  tN : t < N
  st : s ≠ t
def Arc (n : Nat) (near : Nat → Nat → Bool) (burn src snk : Nat → Bool) (s t : Nat) (i o : Nat → Nat) (a b : Nat) : Prop :=
  ∃ x, x < n ∧ freeP burn src snk x = true ∧ ((a = i x ∧ b = o x) ∨ (a = s ∧ b = i x ∧ Tch n near burn src x) ∨ (a = o x ∧ b = t ∧ Tch n near burn snk x) ∨ (a = o x ∧ ∃ y, y < n ∧ freeP burn src snk y = true ∧ near x y = true ∧ b = i y))
open Classical in
noncomputable def capA (n : Nat) (near : Nat → Nat → Bool) (burn src snk : Nat → Bool) (s t : Nat) (i o : Nat → Nat) (a b : Nat) : Int := if Arc n near burn src snk s t i o a b then 1 else 0
/-- cells without which no cell of snk is reached -/
structure LineP (n : Nat) (near : Nat → Nat → Bool) (burn src snk C : Nat → Bool) : Prop where
  free : ∀ c, c < n → C c = true → freeP burn src snk c = true
  hold : ∀ c, c < n → snk c = true → ¬ Reach n near (fun k => burn k && !C k) src c
def cntN (n : Nat) (C : Nat → Bool) : Int := sumN n fun x => if C x = true then 1 else 0
section
variable {N n s t : Nat} {i o dec : Nat → Nat} {near : Nat → Nat → Bool} {burn src snk C : Nat → Bool} {left : Nat → Nat → Int} {v : Int}
theorem freeP_iff {c : Nat} : freeP burn src snk c = true ↔ burn c = true ∧ src c = false ∧ snk c = false := by
  unfold freeP
  cases burn c <;> cases src c <;> cases snk c <;> simp
theorem cap_01 (a b : Nat) : 0 ≤ capA n near burn src snk s t i o a b ∧ capA n near burn src snk s t i o a b ≤ 1 := by
  unfold capA
  split <;> omega
theorem Net.i_inj (h : Net N n s t i o dec) {x y : Nat} (hx : x < n) (hy : y < n) (e : i x = i y) : x = y := by
  rw [← h.di x hx, e, h.di y hy]
theorem Net.o_inj (h : Net N n s t i o dec) {x y : Nat} (hx : x < n) (hy : y < n) (e : o x = o y) : x = y := by
  rw [← h.dO x hx, e, h.dO y hy]
open Classical in
/-- no line is smaller than what a flow carries -/
theorem flow_le (hn : Net N n s t i o dec) (hsym : ∀ a b, near a b = near b a) (hf : Flow N s t (capA n near burn src snk s t i o) left v) (hl : LineP n near burn src snk C) : v ≤ cntN n C := by
  obtain ⟨R, hR⟩ : ∃ R : Nat → Prop, R = Reach n near (fun k => burn k && !C k) src := ⟨_, rfl⟩
  let P : Nat → Prop := fun a => a = s ∨ ∃ x, x < n ∧ freeP burn src snk x = true ∧ ((a = i x ∧ (R x ∨ ∃ d, R d ∧ near d x = true)) ∨ (a = o x ∧ R x))
  let S : Nat → Bool := fun a => decide (P a)
  have hS : ∀ a, S a = true ↔ P a := fun a => decide_eq_true_iff
  have hnS : ∀ a, S a = false ↔ ¬ P a := fun a => decide_eq_false_iff_not
  have hPi : ∀ x, x < n → P (i x) → R x ∨ ∃ d, R d ∧ near d x = true := fun x hx h => by
    rcases h with h | ⟨y, hy, -, ⟨h, h2⟩ | ⟨h, _⟩⟩
    · exact absurd h (hn.is x hx)
    · rw [hn.i_inj hx hy h]; exact h2
    · exact absurd h (hn.io x y hx hy)
  have hPo : ∀ x, x < n → P (o x) → R x := fun x hx h => by
    rcases h with h | ⟨y, hy, -, ⟨h, _⟩ | ⟨h, h2⟩⟩
    · exact absurd h (hn.os x hx)
    · exact absurd h.symm (hn.io y x hy hx)
    · rw [hn.o_inj hx hy h]; exact h2
  have ht : S t = false := (hnS t).2 fun h => by
    rcases h with h | ⟨y, hy, -, ⟨h, _⟩ | ⟨h, _⟩⟩
    · exact hn.st h.symm
    · exact hn.it y hy h.symm
    · exact hn.ot y hy h.symm
  have hs : S s = true := (hS s).2 (.inl rfl)
  have hRb : ∀ {c}, c < n → src c = true → burn c = true → C c = false → R c := fun h1 h2 h3 h4 => by
    rw [hR]; exact Reach.base h1 h2 (by simp [h3, h4])
  have hRs : ∀ {d c}, R d → c < n → burn c = true → C c = false → near d c = true → R c := fun h1 h2 h3 h4 h5 => by
    rw [hR] at h1 ⊢; exact Reach.step h1 h2 (by simp [h3, h4]) h5
  have hCf : ∀ {c}, c < n → (src c = true ∨ snk c = true) → C c = false := fun {c} h1 h2 => by
    cases e : C c
    · rfl
    · have h3 := freeP_iff.1 (hl.free c h1 e)
      rw [h3.2.1, h3.2.2] at h2
      simp at h2
  have hcr : ∀ a b, S a = true → S b = false → Arc n near burn src snk s t i o a b → ∃ x, x < n ∧ C x = true ∧ a = i x ∧ b = o x := by
    rintro a b ha hb ⟨x, hx, hfx, h⟩
    have ha := (hS a).1 ha
    have hb := (hnS b).1 hb
    obtain ⟨hbx, hsx, htx⟩ := freeP_iff.1 hfx
    rcases h with ⟨rfl, rfl⟩ | ⟨rfl, rfl, d, hd, h1, h2, h3⟩ | ⟨rfl, rfl, d, hd, h1, h2, h3⟩ | ⟨rfl, y, hy, h1, h2, rfl⟩
    · have h1 := hPi x hx ha
      have h2 : ¬ R x := fun h => hb (.inr ⟨x, hx, hfx, .inr ⟨rfl, h⟩⟩)
      rcases h1 with h1 | ⟨d, h1, h3⟩
      · exact absurd h1 h2
      · cases e : C x
        · exact absurd (hRs h1 hx hbx e h3) h2
        · exact ⟨x, hx, e, rfl, rfl⟩
    · exact absurd (.inr ⟨x, hx, hfx, .inl ⟨rfl, .inr ⟨d, hRb hd h3 h2 (hCf hd (.inl h3)), by rw [hsym]; exact h1⟩⟩⟩) hb
    · have h4 := hPo x hx ha
      have h5 := hRs h4 hd h2 (hCf hd (.inr h3)) h1
      rw [hR] at h5
      exact absurd h5 (hl.hold d hd h3)
    · exact absurd (.inr ⟨y, hy, h1, .inl ⟨rfl, .inr ⟨x, hPo x hx ha, h2⟩⟩⟩) hb
  let H : Nat → Nat → Nat → Int := fun x a b => if C x = true ∧ a = i x ∧ b = o x then 1 else 0
  have hH0 : ∀ x a b, 0 ≤ H x a b := fun x a b => by show 0 ≤ ite _ _ _; split <;> omega
  have h1 : v ≤ sumN N fun a => sumN N fun b => sumN n fun x => H x a b := by
    refine Int.le_trans (hf.le hs ht hn.sN) (sumN_le fun a _ => sumN_le fun b _ => ?_)
    unfold cross
    split
    · rename_i hab
      rw [Bool.and_eq_true, Bool.not_eq_true'] at hab
      unfold capA
      split
      · rename_i hA
        obtain ⟨x, hx, hc, h1, h2⟩ := hcr a b hab.1 hab.2 hA
        refine Int.le_trans ?_ (sumN_le_of_nonneg (f := fun x => H x a b) (fun j _ => hH0 j a b) hx)
        show (1 : Int) ≤ ite _ _ _
        rw [if_pos ⟨hc, h1, h2⟩]
        omega
      · exact sumN_nonneg fun j _ => hH0 j a b
    · exact sumN_nonneg fun j _ => hH0 j a b
  have h2 : (sumN N fun a => sumN N fun b => sumN n fun x => H x a b) = sumN n fun x => sumN N fun a => sumN N fun b => H x a b :=
    (sumN_congr fun a _ => sumN_swap (fun b x => H x a b) N n).trans (sumN_swap (fun a x => sumN N fun b => H x a b) N n)
  rw [h2] at h1
  refine Int.le_trans h1 (sumN_le fun x hx => ?_)
  rw [sumN_one (k := i x) (fun a _ hne => ?_)]
  · split
    · rw [sumN_one (k := o x) (fun b _ hne => if_neg (fun h => hne h.2.2))]
      split
      · show ite _ _ _ ≤ ite _ _ _
        by_cases hc : C x = true
        · rw [if_pos hc, if_pos ⟨hc, rfl, rfl⟩]; omega
        · rw [if_neg hc, if_neg (fun h => hc h.1)]; omega
      · split <;> omega
    · split <;> omega
  · exact (sumN_congr fun b _ => if_neg (fun h => hne h.2.1)).trans (sumN_zero N)
open Classical in
/-- where a flow cannot grow, there is a line that is no larger -/
theorem flow_line (hn : Net N n s t i o dec) (hsym : ∀ a b, near a b = near b a) (hdis : ∀ c, c < n → src c = true → snk c = false) (hop : ∀ c d, c < n → d < n → src c = true → burn c = true → snk d = true → burn d = true → near c d = false)
    (hf : Flow N s t (capA n near burn src snk s t i o) left v) {S : Nat → Bool} (hs : S s = true) (ht : S t = false) (hfull : ∀ a b, a < N → b < N → S a = true → S b = false → ¬ 0 < left a b) : ∃ C, LineP n near burn src snk C ∧ cntN n C ≤ v := by
  let cell : Nat → Nat → Nat := fun a b => if a = s then dec b else dec a
  let X : Nat → Nat → Prop := fun a b => S a = true ∧ S b = false ∧ Arc n near burn src snk s t i o a b
  let P : Nat → Prop := fun x => freeP burn src snk x = true ∧ ∃ a b, a < N ∧ b < N ∧ X a b ∧ cell a b = x
  have hcs : ∀ x, x < n → cell s (i x) = x := fun x hx => by show ite _ _ _ = _; rw [if_pos rfl, hn.di x hx]
  have hci : ∀ x b, x < n → cell (i x) b = x := fun x b hx => by show ite _ _ _ = _; rw [if_neg (hn.is x hx), hn.di x hx]
  have hco : ∀ x b, x < n → cell (o x) b = x := fun x b hx => by show ite _ _ _ = _; rw [if_neg (hn.os x hx), hn.dO x hx]
  refine ⟨fun x => decide (P x), ⟨fun c _ h => (of_decide_eq_true h).1, fun c hc hsc hR => ?_⟩, ?_⟩
  · have hno : ∀ {x}, (burn x && !decide (P x)) = true → burn x = true ∧ ¬ P x := fun {x} h => by
      rw [Bool.and_eq_true, Bool.not_eq_true'] at h
      exact ⟨h.1, of_decide_eq_false h.2⟩
    -- what is reached is a source, or its end lies in S
    have hT := hR.least (T := fun c => c < n ∧ burn c = true ∧ ¬ P c ∧ (src c = true ∨ (freeP burn src snk c = true ∧ S (o c) = true))) (fun c h1 h2 h3 => ⟨h1, (hno h3).1, (hno h3).2, .inl h2⟩) (fun d c hd hc hbc hnear => ?_)
    · obtain ⟨-, -, -, h | ⟨h, -⟩⟩ := hT
      · rw [hdis c hc h] at hsc; cases hsc
      · rw [(freeP_iff.1 h).2.2] at hsc; cases hsc
    · obtain ⟨hd1, hd2, hd3, hd4⟩ := hd
      obtain ⟨hb, hnP⟩ := hno hbc
      refine ⟨hc, hb, hnP, ?_⟩
      cases esc : src c
      rotate_left
      · exact .inl rfl
      cases etc' : snk c
      rotate_left
      · exfalso
        rcases hd4 with h | ⟨h1, h2⟩
        · rw [hop d c hd1 hc h hd2 etc' hb] at hnear; cases hnear
        · exact hd3 ⟨h1, o d, t, hn.ol d hd1, hn.tN, ⟨h2, ht, d, hd1, h1, .inr (.inr (.inl ⟨rfl, rfl, c, hc, hnear, hb, etc'⟩))⟩, hco d t hd1⟩
      have hfc : freeP burn src snk c = true := freeP_iff.2 ⟨hb, esc, etc'⟩
      refine .inr ⟨hfc, ?_⟩
      have hi : S (i c) = true := by
        cases e : S (i c)
        · exfalso
          rcases hd4 with h | ⟨h1, h2⟩
          · exact hnP ⟨hfc, s, i c, hn.sN, hn.il c hc, ⟨hs, e, c, hc, hfc, .inr (.inl ⟨rfl, rfl, d, hd1, by rw [hsym]; exact hnear, hd2, h⟩)⟩, hcs c hc⟩
          · exact hd3 ⟨h1, o d, i c, hn.ol d hd1, hn.il c hc, ⟨h2, e, d, hd1, h1, .inr (.inr (.inr ⟨rfl, c, hc, hfc, hnear, rfl⟩))⟩, hco d _ hd1⟩
        · rfl
      cases e : S (o c)
      · exact absurd ⟨hfc, i c, o c, hn.il c hc, hn.ol c hc, ⟨hi, e, c, hc, hfc, .inl ⟨rfl, rfl⟩⟩, hci c _ hc⟩ hnP
      · rfl
  · rw [hf.full hs ht hn.sN hfull]
    let H : Nat → Nat → Nat → Int := fun x a b => if X a b ∧ cell a b = x then 1 else 0
    have hH0 : ∀ x a b, 0 ≤ H x a b := fun x a b => by show 0 ≤ ite _ _ _; split <;> omega
    have h1 : cntN n (fun x => decide (P x)) ≤ sumN n fun x => sumN N fun a => sumN N fun b => H x a b := by
      refine sumN_le fun x _ => ?_
      have h0 : 0 ≤ sumN N fun a => sumN N fun b => H x a b := sumN_nonneg fun a _ => sumN_nonneg fun b _ => hH0 x a b
      split
      · rename_i h
        obtain ⟨-, a, b, ha, hb, hX, hcell⟩ := of_decide_eq_true h
        refine Int.le_trans ?_ (sumN_le_of_nonneg (f := fun a => sumN N fun b => H x a b) (fun j _ => sumN_nonneg fun b _ => hH0 x j b) ha)
        refine Int.le_trans ?_ (sumN_le_of_nonneg (f := fun b => H x a b) (fun j _ => hH0 x a j) hb)
        show (1 : Int) ≤ ite _ _ _
        rw [if_pos ⟨hX, hcell⟩]
        omega
      · exact h0
    have h2 : (sumN n fun x => sumN N fun a => sumN N fun b => H x a b) = sumN N fun a => sumN N fun b => sumN n fun x => H x a b := by
      rw [sumN_swap]
      exact sumN_congr fun a _ => sumN_swap (fun x b => H x a b) n N
    rw [h2] at h1
    refine Int.le_trans h1 (sumN_le fun a _ => sumN_le fun b _ => ?_)
    rw [sumN_one (k := cell a b) (fun x _ hne => if_neg (fun h => hne h.2.symm))]
    have hcr : 0 ≤ cross S (capA n near burn src snk s t i o) a b := by
      unfold cross
      split
      · exact (cap_01 a b).1
      · omega
    split
    · show ite _ _ _ ≤ _
      split
      · rename_i h
        unfold cross capA
        rw [if_pos (by rw [h.1.1, h.1.2.1]; rfl), if_pos h.1.2.2]
        omega
      · exact hcr
    · exact hcr
end
end Go.Proofs.Ytbgegmignhghnaa
