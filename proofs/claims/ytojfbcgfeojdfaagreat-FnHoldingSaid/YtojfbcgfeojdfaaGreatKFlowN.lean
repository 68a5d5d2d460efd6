/-
  The net of a terrain: what a flow in it carries that cannot grow is the size of the smallest line. Plain Lean, no program in sight.
-/
import Derived.Test.YtojfbcgfeojdfaaGreatKSpeed
/-
  Flows in a net: what a flow carries is what every cut lets through. Plain Lean, no program in sight.
-/
namespace Go.Proofs.YtojfbcgfeojdfaaGreat
set_option linter.unusedSimpArgs false
set_option linter.unusedVariables false

/-- the sum over the numbers below n -/
def sumN : Nat → (Nat → Int) → Int
  | 0, _ => 0
  | n + 1, f => sumN n f + f n
section
variable {n m : Nat} {f g : Nat → Int}
theorem sumN_congr : ∀ {n : Nat}, (∀ k, k < n → f k = g k) → sumN n f = sumN n g
  | 0, _ => rfl
  | n + 1, h => by
    show sumN n f + f n = sumN n g + g n
    rw [sumN_congr (fun k hk => h k (by omega)), h n (by omega)]
theorem sumN_le : ∀ {n : Nat}, (∀ k, k < n → f k ≤ g k) → sumN n f ≤ sumN n g
  | 0, _ => Int.le_refl _
  | n + 1, h => by
    show sumN n f + f n ≤ sumN n g + g n
    have h1 := sumN_le (n := n) (fun k hk => h k (by omega))
    have h2 := h n (by omega)
    omega
theorem sumN_zero : ∀ n : Nat, sumN n (fun _ => 0) = 0
  | 0 => rfl
  | n + 1 => by show sumN n _ + 0 = 0; rw [sumN_zero n]; rfl
theorem sumN_nonneg (h : ∀ k, k < n → 0 ≤ f k) : 0 ≤ sumN n f := by
  have := sumN_le (f := fun _ => 0) (g := f) h
  rw [sumN_zero] at this
  exact this
theorem sumN_add : ∀ n : Nat, sumN n (fun k => f k + g k) = sumN n f + sumN n g
  | 0 => rfl
  | n + 1 => by
    show sumN n _ + (f n + g n) = sumN n f + f n + (sumN n g + g n)
    rw [sumN_add n]
    omega
theorem sumN_neg : ∀ n : Nat, sumN n (fun k => - f k) = - sumN n f
  | 0 => rfl
  | n + 1 => by
    show sumN n _ + - f n = -(sumN n f + f n)
    rw [sumN_neg n]
    omega
theorem sumN_swap (h : Nat → Nat → Int) : ∀ n m : Nat, sumN n (fun a => sumN m (fun b => h a b)) = sumN m (fun b => sumN n (fun a => h a b))
  | 0, m => (sumN_zero m).symm
  | n + 1, m => by
    show sumN n _ + sumN m (fun b => h n b) = sumN m (fun b => sumN n (fun a => h a b) + h n b)
    rw [sumN_add, sumN_swap h n m]
theorem sumN_le_of_nonneg : ∀ {n k : Nat}, (∀ j, j < n → 0 ≤ f j) → k < n → f k ≤ sumN n f
  | n + 1, k, h, hk => by
    show f k ≤ sumN n f + f n
    by_cases e : k = n
    · subst e
      have := sumN_nonneg (n := k) (f := f) (fun j hj => h j (by omega))
      omega
    · have := sumN_le_of_nonneg (n := n) (k := k) (fun j hj => h j (by omega)) (by omega)
      have := h n (by omega)
      omega
/-- a sum with at most one term -/
theorem sumN_one {k : Nat} : ∀ {n : Nat}, (∀ j, j < n → j ≠ k → f j = 0) → sumN n f = if k < n then f k else 0
  | 0, _ => rfl
  | n + 1, h => by
    show sumN n f + f n = _
    rw [sumN_one (n := n) (fun j hj => h j (by omega))]
    by_cases e : k = n
    · subst e
      rw [if_neg (Nat.lt_irrefl k), if_pos (Nat.lt_succ_self k)]
      omega
    · rw [h n (by omega) (fun h2 => e h2.symm)]
      by_cases hk : k < n
      · rw [if_pos hk, if_pos (by omega)]; omega
      · rw [if_neg hk, if_neg (by omega)]; omega
/-- two sums that differ at one place -/
theorem sumN_at {k : Nat} {d : Int} (hk : k < n) (h : ∀ j, j < n → f j = g j + if j = k then d else 0) : sumN n f = sumN n g + d := by
  rw [sumN_congr h, sumN_add]
  congr 1
  rw [sumN_one (k := k) (fun j _ hj => if_neg hj), if_pos hk, if_pos rfl]
end

/-- a flow: what of the capacities is left, and what it carries -/
structure Flow (N s t : Nat) (cap left : Nat → Nat → Int) (v : Int) : Prop where
  pos : ∀ a b, a < N → b < N → 0 ≤ left a b
  anti : ∀ a b, a < N → b < N → left a b + left b a = cap a b + cap b a
  out : ∀ a, a < N → a ≠ t → sumN N (fun b => cap a b - left a b) = if a = s then v else 0
/-- on the way back from the end: one unit stands at c -/
structure FlowM (N s t c : Nat) (cap left : Nat → Nat → Int) (v : Int) : Prop where
  pos : ∀ a b, a < N → b < N → 0 ≤ left a b
  anti : ∀ a b, a < N → b < N → left a b + left b a = cap a b + cap b a
  out : ∀ a, a < N → a ≠ t → sumN N (fun b => cap a b - left a b) = (if a = s then v else 0) + if a = c then 1 else 0
section
variable {N s t : Nat} {cap left : Nat → Nat → Int} {v : Int}
theorem Flow.mid (h : Flow N s t cap left v) : FlowM N s t t cap left v :=
  ⟨h.pos, h.anti, fun a ha hn => by rw [h.out a ha hn, if_neg (c := a = t) hn]; omega⟩
theorem FlowM.done (h : FlowM N s t s cap left v) : Flow N s t cap left (v + 1) :=
  ⟨h.pos, h.anti, fun a ha hn => by rw [h.out a ha hn]; by_cases e : a = s <;> simp [e]⟩
theorem Flow.start (hc : ∀ a b, a < N → b < N → 0 ≤ cap a b) : Flow N s t cap cap 0 :=
  ⟨hc, fun _ _ _ _ => rfl, fun a _ _ => by
    rw [sumN_congr (g := fun _ => 0) (fun k _ => by show cap a k - cap a k = 0; omega), sumN_zero]
    split <;> rfl⟩
/-- one step back: from c to p -/
def pushed (left : Nat → Nat → Int) (p c : Nat) (a b : Nat) : Int := left a b - (if a = p ∧ b = c then 1 else 0) + if a = c ∧ b = p then 1 else 0
theorem FlowM.step {c p : Nat} (h : FlowM N s t c cap left v) (hc : c < N) (hp : p < N) (hne : p ≠ c) (hl : 1 ≤ left p c) : FlowM N s t p cap (pushed left p c) v := by
  refine ⟨fun a b ha hb => ?_, fun a b ha hb => ?_, fun a ha hn => ?_⟩
  · have := h.pos a b ha hb
    unfold pushed
    by_cases e : a = p ∧ b = c
    · obtain ⟨rfl, rfl⟩ := e
      rw [if_pos ⟨rfl, rfl⟩, if_neg (fun h2 => hne h2.1)]
      omega
    · rw [if_neg e]
      split <;> omega
  · have := h.anti a b ha hb
    unfold pushed
    have e1 : (b = p ∧ a = c) ↔ (a = c ∧ b = p) := And.comm
    have e2 : (b = c ∧ a = p) ↔ (a = p ∧ b = c) := And.comm
    simp only [e1, e2]
    omega
  · have h1 := h.out a ha hn
    by_cases e1 : a = p
    · subst e1
      rw [sumN_at (k := c) (d := 1) (g := fun b => cap a b - left a b) hc (fun j _ => ?_), h1, if_neg (c := a = c) hne, if_pos (c := a = a) rfl]
      · omega
      · unfold pushed
        rw [if_neg (c := a = c ∧ j = a) (fun h2 => hne h2.1)]
        by_cases e : j = c
        · rw [if_pos ⟨rfl, e⟩, if_pos e]; omega
        · rw [if_neg (fun h2 => e h2.2), if_neg e]; omega
    · by_cases e2 : a = c
      · subst e2
        rw [sumN_at (k := p) (d := -1) (g := fun b => cap a b - left a b) hp (fun j _ => ?_), h1, if_pos (c := a = a) rfl, if_neg (c := a = p) e1]
        · omega
        · unfold pushed
          rw [if_neg (c := a = p ∧ j = a) (fun h2 => e1 h2.1)]
          by_cases e : j = p
          · rw [if_pos ⟨rfl, e⟩, if_pos e]; omega
          · rw [if_neg (fun h2 => e h2.2), if_neg e]; omega
      · rw [sumN_congr (g := fun b => cap a b - left a b) (fun j _ => ?_), h1, if_neg (c := a = c) e2, if_neg (c := a = p) e1]
        show cap a j - pushed left p c a j = cap a j - left a j
        unfold pushed
        rw [if_neg (fun h2 => e1 h2.1), if_neg (fun h2 => e2 h2.1)]
        omega
/-- what crosses a cut -/
def cross (S : Nat → Bool) (f : Nat → Nat → Int) (a b : Nat) : Int := if (S a && !S b) = true then f a b else 0
theorem sum_anti {f : Nat → Nat → Int} (h : ∀ a b, a < N → b < N → f a b = - f b a) : sumN N (fun a => sumN N (fun b => f a b)) = 0 := by
  have h1 := sumN_swap f N N
  have h2 : sumN N (fun b => sumN N (fun a => f a b)) = - sumN N (fun b => sumN N (fun a => f b a)) := by
    rw [← sumN_neg]
    refine sumN_congr fun b hb => ?_
    show sumN N (fun a => f a b) = - sumN N (fun a => f b a)
    rw [← sumN_neg]
    exact sumN_congr fun a ha => h a b ha hb
  have h3 : sumN N (fun b => sumN N (fun a => f b a)) = sumN N (fun a => sumN N (fun b => f a b)) := rfl
  omega
theorem Flow.cut (h : Flow N s t cap left v) {S : Nat → Bool} (hs : S s = true) (ht : S t = false) (hsN : s < N) : v = sumN N fun a => sumN N fun b => cross S (fun a b => cap a b - left a b) a b := by
  -- the sum over S of what leaves each place
  have h1 : sumN N (fun a => if S a = true then sumN N (fun b => cap a b - left a b) else 0) = v := by
    rw [sumN_one (k := s) (fun j hj hn => ?_), if_pos hsN, if_pos hs]
    · rw [h.out s hsN (fun e => by rw [e, ht] at hs; cases hs), if_pos rfl]
    · by_cases e : S j = true
      · rw [if_pos e, h.out j hj (fun e2 => by rw [e2, ht] at e; cases e), if_neg hn]
      · rw [if_neg e]
  have h2 : sumN N (fun a => sumN N (fun b => if (S a && S b) = true then cap a b - left a b else 0)) = 0 := by
    refine sum_anti fun a b ha hb => ?_
    have := h.anti a b ha hb
    rw [Bool.and_comm (S b) (S a)]
    split <;> omega
  have h3 : sumN N (fun a => if S a = true then sumN N (fun b => cap a b - left a b) else 0) = sumN N (fun a => sumN N (fun b => if (S a && S b) = true then cap a b - left a b else 0)) + sumN N (fun a => sumN N (fun b => cross S (fun a b => cap a b - left a b) a b)) := by
    rw [← sumN_add]
    refine sumN_congr fun a _ => ?_
    show _ = sumN N _ + sumN N _
    rw [← sumN_add]
    cases e : S a
    · rw [if_neg (by decide)]
      refine (sumN_zero N).symm.trans (sumN_congr fun b _ => ?_)
      simp [cross, e]
    · rw [if_pos rfl]
      refine sumN_congr fun b _ => ?_
      unfold cross
      rw [e]
      cases S b <;> simp
  omega
theorem Flow.le (h : Flow N s t cap left v) {S : Nat → Bool} (hs : S s = true) (ht : S t = false) (hsN : s < N) : v ≤ sumN N fun a => sumN N fun b => cross S cap a b := by
  rw [h.cut hs ht hsN]
  refine sumN_le fun a ha => sumN_le fun b hb => ?_
  have := h.pos a b ha hb
  unfold cross
  dsimp only
  split <;> omega
/-- where nothing is left across a cut, it lets through what the flow carries -/
theorem Flow.full (h : Flow N s t cap left v) {S : Nat → Bool} (hs : S s = true) (ht : S t = false) (hsN : s < N) (hf : ∀ a b, a < N → b < N → S a = true → S b = false → ¬ 0 < left a b) : v = sumN N fun a => sumN N fun b => cross S cap a b := by
  rw [h.cut hs ht hsN]
  refine sumN_congr fun a ha => sumN_congr fun b hb => ?_
  have := h.pos a b ha hb
  unfold cross
  cases ea : S a
  · rfl
  cases eb : S b
  · have := hf a b ha hb ea eb
    simp only [Bool.not_false, Bool.and_true, if_true]
    omega
  · rfl
/-- it carries no more than leaves the beginning -/
theorem Flow.most (h : Flow N s t cap left v) (hs : s < N) (hst : s ≠ t) (hc : ∀ a b, a < N → b < N → cap a b ≤ 1) : v ≤ N := by
  have h1 := h.out s hs hst
  rw [if_pos rfl] at h1
  rw [← h1]
  have h2 : sumN N (fun b => cap s b - left s b) ≤ sumN N (fun _ => 1) := sumN_le fun b hb => by
    have := h.pos s b hs hb
    have := hc s b hs hb
    omega
  have h3 : ∀ m : Nat, sumN m (fun _ => 1) = m := fun m => by
    induction m with
    | zero => rfl
    | succ m ih => show sumN m _ + 1 = _; rw [ih]; omega
  rw [h3] at h2
  exact h2
end
end Go.Proofs.YtojfbcgfeojdfaaGreat

/-
  The net of a terrain: what a flow in it carries that cannot grow is the size of the smallest line. Plain Lean, no program in sight.
-/
namespace Go.Proofs.YtojfbcgfeojdfaaGreat
set_option linter.unusedSimpArgs false
set_option linter.unusedVariables false

def freeP (burn src snk : Nat → Bool) (c : Nat) : Bool := burn c && !src c && !snk c
/-- a neighbour of a burnable cell of a set -/
def Tch (n : Nat) (near : Nat → Nat → Bool) (burn A : Nat → Bool) (c : Nat) : Prop := ∃ d, d < n ∧ near c d = true ∧ burn d = true ∧ A d = true
/-- the places of a net: the beginning and the end of each cell, and two more -/
structure Net (N n s t : Nat) (i o dec : Nat → Nat) : Prop where
  il : ∀ x, x < n → i x < N
  ol : ∀ x, x < n → o x < N
  di : ∀ x, x < n → dec (i x) = x
  dO : ∀ x, x < n → dec (o x) = x
  io : ∀ x y, x < n → y < n → i x ≠ o y
  is : ∀ x, x < n → i x ≠ s
  it : ∀ x, x < n → i x ≠ t
  os : ∀ x, x < n → o x ≠ s
  ot : ∀ x, x < n → o x ≠ t
  sN : s < N
  tN : t < N
  st : s ≠ t
def Arc (n : Nat) (near : Nat → Nat → Bool) (burn src snk : Nat → Bool) (s t : Nat) (i o : Nat → Nat) (a b : Nat) : Prop :=
  ∃ x, x < n ∧ freeP burn src snk x = true ∧ ((a = i x ∧ b = o x) ∨ (a = s ∧ b = i x ∧ Tch n near burn src x) ∨ (a = o x ∧ b = t ∧ Tch n near burn snk x) ∨ (a = o x ∧ ∃ y, y < n ∧ freeP burn src snk y = true ∧ near x y = true ∧ b = i y))
open Classical in
noncomputable def capA (n : Nat) (near : Nat → Nat → Bool) (burn src snk : Nat → Bool) (s t : Nat) (i o : Nat → Nat) (a b : Nat) : Int := if Arc n near burn src snk s t i o a b then 1 else 0
/-- cells without which no cell of snk is reached -/
structure LineP (n : Nat) (near : Nat → Nat → Bool) (burn src snk C : Nat → Bool) : Prop where
  free : ∀ c, c < n → C c = true → freeP burn src snk c = true
  hold : ∀ c, c < n → snk c = true → ¬ Reach n near (fun k => burn k && !C k) src c
def cntN (n : Nat) (C : Nat → Bool) : Int := sumN n fun x => if C x = true then 1 else 0
section
variable {N n s t : Nat} {i o dec : Nat → Nat} {near : Nat → Nat → Bool} {burn src snk C : Nat → Bool} {left : Nat → Nat → Int} {v : Int}
theorem freeP_iff {c : Nat} : freeP burn src snk c = true ↔ burn c = true ∧ src c = false ∧ snk c = false := by
  unfold freeP
  cases burn c <;> cases src c <;> cases snk c <;> simp
theorem cap_01 (a b : Nat) : 0 ≤ capA n near burn src snk s t i o a b ∧ capA n near burn src snk s t i o a b ≤ 1 := by
  unfold capA
  split <;> omega
theorem Net.i_inj (h : Net N n s t i o dec) {x y : Nat} (hx : x < n) (hy : y < n) (e : i x = i y) : x = y := by
  rw [← h.di x hx, e, h.di y hy]
theorem Net.o_inj (h : Net N n s t i o dec) {x y : Nat} (hx : x < n) (hy : y < n) (e : o x = o y) : x = y := by
  rw [← h.dO x hx, e, h.dO y hy]
open Classical in
/-- no line is smaller than what a flow carries -/
theorem flow_le (hn : Net N n s t i o dec) (hsym : ∀ a b, near a b = near b a) (hf : Flow N s t (capA n near burn src snk s t i o) left v) (hl : LineP n near burn src snk C) : v ≤ cntN n C := by
  obtain ⟨R, hR⟩ : ∃ R : Nat → Prop, R = Reach n near (fun k => burn k && !C k) src := ⟨_, rfl⟩
  let P : Nat → Prop := fun a => a = s ∨ ∃ x, x < n ∧ freeP burn src snk x = true ∧ ((a = i x ∧ (R x ∨ ∃ d, R d ∧ near d x = true)) ∨ (a = o x ∧ R x))
  let S : Nat → Bool := fun a => decide (P a)
  have hS : ∀ a, S a = true ↔ P a := fun a => decide_eq_true_iff
  have hnS : ∀ a, S a = false ↔ ¬ P a := fun a => decide_eq_false_iff_not
  have hPi : ∀ x, x < n → P (i x) → R x ∨ ∃ d, R d ∧ near d x = true := fun x hx h => by
    rcases h with h | ⟨y, hy, -, ⟨h, h2⟩ | ⟨h, _⟩⟩
    · exact absurd h (hn.is x hx)
    · rw [hn.i_inj hx hy h]; exact h2
    · exact absurd h (hn.io x y hx hy)
  have hPo : ∀ x, x < n → P (o x) → R x := fun x hx h => by
    rcases h with h | ⟨y, hy, -, ⟨h, _⟩ | ⟨h, h2⟩⟩
    · exact absurd h (hn.os x hx)
    · exact absurd h.symm (hn.io y x hy hx)
    · rw [hn.o_inj hx hy h]; exact h2
  have ht : S t = false := (hnS t).2 fun h => by
    rcases h with h | ⟨y, hy, -, ⟨h, _⟩ | ⟨h, _⟩⟩
    · exact hn.st h.symm
    · exact hn.it y hy h.symm
    · exact hn.ot y hy h.symm
  have hs : S s = true := (hS s).2 (.inl rfl)
  have hRb : ∀ {c}, c < n → src c = true → burn c = true → C c = false → R c := fun h1 h2 h3 h4 => by
    rw [hR]; exact Reach.base h1 h2 (by simp [h3, h4])
  have hRs : ∀ {d c}, R d → c < n → burn c = true → C c = false → near d c = true → R c := fun h1 h2 h3 h4 h5 => by
    rw [hR] at h1 ⊢; exact Reach.step h1 h2 (by simp [h3, h4]) h5
  have hCf : ∀ {c}, c < n → (src c = true ∨ snk c = true) → C c = false := fun {c} h1 h2 => by
    cases e : C c
    · rfl
    · have h3 := freeP_iff.1 (hl.free c h1 e)
      rw [h3.2.1, h3.2.2] at h2
      simp at h2
  have hcr : ∀ a b, S a = true → S b = false → Arc n near burn src snk s t i o a b → ∃ x, x < n ∧ C x = true ∧ a = i x ∧ b = o x := by
    rintro a b ha hb ⟨x, hx, hfx, h⟩
    have ha := (hS a).1 ha
    have hb := (hnS b).1 hb
    obtain ⟨hbx, hsx, htx⟩ := freeP_iff.1 hfx
    rcases h with ⟨rfl, rfl⟩ | ⟨rfl, rfl, d, hd, h1, h2, h3⟩ | ⟨rfl, rfl, d, hd, h1, h2, h3⟩ | ⟨rfl, y, hy, h1, h2, rfl⟩
    · have h1 := hPi x hx ha
      have h2 : ¬ R x := fun h => hb (.inr ⟨x, hx, hfx, .inr ⟨rfl, h⟩⟩)
      rcases h1 with h1 | ⟨d, h1, h3⟩
      · exact absurd h1 h2
      · cases e : C x
        · exact absurd (hRs h1 hx hbx e h3) h2
        · exact ⟨x, hx, e, rfl, rfl⟩
    · exact absurd (.inr ⟨x, hx, hfx, .inl ⟨rfl, .inr ⟨d, hRb hd h3 h2 (hCf hd (.inl h3)), by rw [hsym]; exact h1⟩⟩⟩) hb
    · have h4 := hPo x hx ha
      have h5 := hRs h4 hd h2 (hCf hd (.inr h3)) h1
      rw [hR] at h5
      exact absurd h5 (hl.hold d hd h3)
    · exact absurd (.inr ⟨y, hy, h1, .inl ⟨rfl, .inr ⟨x, hPo x hx ha, h2⟩⟩⟩) hb
  let H : Nat → Nat → Nat → Int := fun x a b => if C x = true ∧ a = i x ∧ b = o x then 1 else 0
  have hH0 : ∀ x a b, 0 ≤ H x a b := fun x a b => by show 0 ≤ ite _ _ _; split <;> omega
  have h1 : v ≤ sumN N fun a => sumN N fun b => sumN n fun x => H x a b := by
    refine Int.le_trans (hf.le hs ht hn.sN) (sumN_le fun a _ => sumN_le fun b _ => ?_)
    unfold cross
    split
    · rename_i hab
      rw [Bool.and_eq_true, Bool.not_eq_true'] at hab
      unfold capA
      split
      · rename_i hA
        obtain ⟨x, hx, hc, h1, h2⟩ := hcr a b hab.1 hab.2 hA
        refine Int.le_trans ?_ (sumN_le_of_nonneg (f := fun x => H x a b) (fun j _ => hH0 j a b) hx)
        show (1 : Int) ≤ ite _ _ _
        rw [if_pos ⟨hc, h1, h2⟩]
        omega
      · exact sumN_nonneg fun j _ => hH0 j a b
    · exact sumN_nonneg fun j _ => hH0 j a b
  have h2 : (sumN N fun a => sumN N fun b => sumN n fun x => H x a b) = sumN n fun x => sumN N fun a => sumN N fun b => H x a b :=
    (sumN_congr fun a _ => sumN_swap (fun b x => H x a b) N n).trans (sumN_swap (fun a x => sumN N fun b => H x a b) N n)
  rw [h2] at h1
  refine Int.le_trans h1 (sumN_le fun x hx => ?_)
  rw [sumN_one (k := i x) (fun a _ hne => ?_)]
  · split
    · rw [sumN_one (k := o x) (fun b _ hne => if_neg (fun h => hne h.2.2))]
      split
      · show ite _ _ _ ≤ ite _ _ _
        by_cases hc : C x = true
        · rw [if_pos hc, if_pos ⟨hc, rfl, rfl⟩]; omega
        · rw [if_neg hc, if_neg (fun h => hc h.1)]; omega
      · split <;> omega
    · split <;> omega
  · exact (sumN_congr fun b _ => if_neg (fun h => hne h.2.1)).trans (sumN_zero N)
open Classical in
/-- where a flow cannot grow, there is a line that is no larger -/
theorem flow_line (hn : Net N n s t i o dec) (hsym : ∀ a b, near a b = near b a) (hdis : ∀ c, c < n → src c = true → snk c = false) (hop : ∀ c d, c < n → d < n → src c = true → burn c = true → snk d = true → burn d = true → near c d = false)
    (hf : Flow N s t (capA n near burn src snk s t i o) left v) {S : Nat → Bool} (hs : S s = true) (ht : S t = false) (hfull : ∀ a b, a < N → b < N → S a = true → S b = false → ¬ 0 < left a b) : ∃ C, LineP n near burn src snk C ∧ cntN n C ≤ v := by
  let cell : Nat → Nat → Nat := fun a b => if a = s then dec b else dec a
  let X : Nat → Nat → Prop := fun a b => S a = true ∧ S b = false ∧ Arc n near burn src snk s t i o a b
  let P : Nat → Prop := fun x => freeP burn src snk x = true ∧ ∃ a b, a < N ∧ b < N ∧ X a b ∧ cell a b = x
  have hcs : ∀ x, x < n → cell s (i x) = x := fun x hx => by show ite _ _ _ = _; rw [if_pos rfl, hn.di x hx]
  have hci : ∀ x b, x < n → cell (i x) b = x := fun x b hx => by show ite _ _ _ = _; rw [if_neg (hn.is x hx), hn.di x hx]
  have hco : ∀ x b, x < n → cell (o x) b = x := fun x b hx => by show ite _ _ _ = _; rw [if_neg (hn.os x hx), hn.dO x hx]
  refine ⟨fun x => decide (P x), ⟨fun c _ h => (of_decide_eq_true h).1, fun c hc hsc hR => ?_⟩, ?_⟩
  · have hno : ∀ {x}, (burn x && !decide (P x)) = true → burn x = true ∧ ¬ P x := fun {x} h => by
      rw [Bool.and_eq_true, Bool.not_eq_true'] at h
      exact ⟨h.1, of_decide_eq_false h.2⟩
    -- what is reached is a source, or its end lies in S
    have hT := hR.least (T := fun c => c < n ∧ burn c = true ∧ ¬ P c ∧ (src c = true ∨ (freeP burn src snk c = true ∧ S (o c) = true))) (fun c h1 h2 h3 => ⟨h1, (hno h3).1, (hno h3).2, .inl h2⟩) (fun d c hd hc hbc hnear => ?_)
    · obtain ⟨-, -, -, h | ⟨h, -⟩⟩ := hT
      · rw [hdis c hc h] at hsc; cases hsc
      · rw [(freeP_iff.1 h).2.2] at hsc; cases hsc
    · obtain ⟨hd1, hd2, hd3, hd4⟩ := hd
      obtain ⟨hb, hnP⟩ := hno hbc
      refine ⟨hc, hb, hnP, ?_⟩
      cases esc : src c
      rotate_left
      · exact .inl rfl
      cases etc' : snk c
      rotate_left
      · exfalso
        rcases hd4 with h | ⟨h1, h2⟩
        · rw [hop d c hd1 hc h hd2 etc' hb] at hnear; cases hnear
        · exact hd3 ⟨h1, o d, t, hn.ol d hd1, hn.tN, ⟨h2, ht, d, hd1, h1, .inr (.inr (.inl ⟨rfl, rfl, c, hc, hnear, hb, etc'⟩))⟩, hco d t hd1⟩
      have hfc : freeP burn src snk c = true := freeP_iff.2 ⟨hb, esc, etc'⟩
      refine .inr ⟨hfc, ?_⟩
      have hi : S (i c) = true := by
        cases e : S (i c)
        · exfalso
          rcases hd4 with h | ⟨h1, h2⟩
          · exact hnP ⟨hfc, s, i c, hn.sN, hn.il c hc, ⟨hs, e, c, hc, hfc, .inr (.inl ⟨rfl, rfl, d, hd1, by rw [hsym]; exact hnear, hd2, h⟩)⟩, hcs c hc⟩
          · exact hd3 ⟨h1, o d, i c, hn.ol d hd1, hn.il c hc, ⟨h2, e, d, hd1, h1, .inr (.inr (.inr ⟨rfl, c, hc, hfc, hnear, rfl⟩))⟩, hco d _ hd1⟩
        · rfl
      cases e : S (o c)
      · exact absurd ⟨hfc, i c, o c, hn.il c hc, hn.ol c hc, ⟨hi, e, c, hc, hfc, .inl ⟨rfl, rfl⟩⟩, hci c _ hc⟩ hnP
      · rfl
  · rw [hf.full hs ht hn.sN hfull]
    let H : Nat → Nat → Nat → Int := fun x a b => if X a b ∧ cell a b = x then 1 else 0
    have hH0 : ∀ x a b, 0 ≤ H x a b := fun x a b => by show 0 ≤ ite _ _ _; split <;> omega
    have h1 : cntN n (fun x => decide (P x)) ≤ sumN n fun x => sumN N fun a => sumN N fun b => H x a b := by
      refine sumN_le fun x _ => ?_
      have h0 : 0 ≤ sumN N fun a => sumN N fun b => H x a b := sumN_nonneg fun a _ => sumN_nonneg fun b _ => hH0 x a b
      split
      · rename_i h
        obtain ⟨-, a, b, ha, hb, hX, hcell⟩ := of_decide_eq_true h
        refine Int.le_trans ?_ (sumN_le_of_nonneg (f := fun a => sumN N fun b => H x a b) (fun j _ => sumN_nonneg fun b _ => hH0 x j b) ha)
        refine Int.le_trans ?_ (sumN_le_of_nonneg (f := fun b => H x a b) (fun j _ => hH0 x a j) hb)
        show (1 : Int) ≤ ite _ _ _
        rw [if_pos ⟨hX, hcell⟩]
        omega
      · exact h0
    have h2 : (sumN n fun x => sumN N fun a => sumN N fun b => H x a b) = sumN N fun a => sumN N fun b => sumN n fun x => H x a b := by
      rw [sumN_swap]
      exact sumN_congr fun a _ => sumN_swap (fun x b => H x a b) n N
    rw [h2] at h1
    refine Int.le_trans h1 (sumN_le fun a _ => sumN_le fun b _ => ?_)
    rw [sumN_one (k := cell a b) (fun x _ hne => if_neg (fun h => hne h.2.symm))]
    have hcr : 0 ≤ cross S (capA n near burn src snk s t i o) a b := by
      unfold cross
      split
      · exact (cap_01 a b).1
      · omega
    split
    · show ite _ _ _ ≤ _
      split
      · rename_i h
        unfold cross capA
        rw [if_pos (by rw [h.1.1, h.1.2.1]; rfl), if_pos h.1.2.2]
        omega
      · exact hcr
    · exact hcr
end
end Go.Proofs.YtojfbcgfeojdfaaGreat
