/-
  Flows in a net: what a flow carries is what every cut lets through. Plain Lean, no program in sight.
-/
import Derived.Test.YtbgegmignhghnaaLVoc
namespace Go.Proofs.Ytbgegmignhghnaa
set_option linter.unusedSimpArgs false
set_option linter.unusedVariables false
/-- cells that are reached in k steps from sources, over cells that burn -/
def rK (n : Nat) (near : Nat → Nat → Bool) (burn src : Nat → Bool) : Nat → Nat → Prop
  | 0, c => c < n ∧ src c = true ∧ burn c = true
  | k + 1, c => rK n near burn src k c ∨ (c < n ∧ burn c = true ∧ ∃ d, rK n near burn src k d ∧ near d c = true)
def Reach (n : Nat) (near : Nat → Nat → Bool) (burn src : Nat → Bool) (c : Nat) : Prop := ∃ k, rK n near burn src k c
section
variable {n : Nat} {near : Nat → Nat → Bool} {burn src : Nat → Bool}
theorem Reach.base {c : Nat} (h : c < n) (hs : src c = true) (hb : burn c = true) : Reach n near burn src c := ⟨0, h, hs, hb⟩
theorem Reach.step {d c : Nat} (hd : Reach n near burn src d) (h : c < n) (hb : burn c = true) (hn : near d c = true) : Reach n near burn src c := by
  obtain ⟨k, hk⟩ := hd
  exact ⟨k + 1, .inr ⟨h, hb, d, hk, hn⟩⟩
theorem Reach.least {T : Nat → Prop} (h0 : ∀ c, c < n → src c = true → burn c = true → T c) (h1 : ∀ d c, T d → c < n → burn c = true → near d c = true → T c) {c : Nat} (h : Reach n near burn src c) : T c := by
  obtain ⟨k, hk⟩ := h
  induction k generalizing c with
  | zero => exact h0 c hk.1 hk.2.1 hk.2.2
  | succ k ih =>
    rcases hk with hk | ⟨hc, hb, d, hd, hn⟩
    · exact ih hk
    · exact h1 d c (ih hd) hc hb hn
theorem Reach.lt {c : Nat} (h : Reach n near burn src c) : c < n ∧ burn c = true :=
  h.least (T := fun c => c < n ∧ burn c = true) (fun _ h1 _ h3 => ⟨h1, h3⟩) (fun _ _ _ h1 h2 _ => ⟨h1, h2⟩)
end
noncomputable def reachB (n : Nat) (near : Nat → Nat → Bool) (burn src : Nat → Bool) (c : Nat) : Bool := @decide (Reach n near burn src c) (Classical.propDecidable _)
theorem reachB_iff {n : Nat} {near : Nat → Nat → Bool} {burn src : Nat → Bool} {c : Nat} : reachB n near burn src c = true ↔ Reach n near burn src c := by
  unfold reachB
  exact @decide_eq_true_iff _ (Classical.propDecidable _)
/-- strictly ascending lists with the same elements are the same -/
theorem asc_ext : ∀ {xs ys : List Int}, xs.Pairwise (· < ·) → ys.Pairwise (· < ·) → (∀ x, x ∈ xs ↔ x ∈ ys) → xs = ys
  | [], [], _, _, _ => rfl
  | [], y :: ys, _, _, h => by have := (h y).2 (by simp); simp at this
  | x :: xs, [], _, _, h => by have := (h x).1 (by simp); simp at this
  | x :: xs, y :: ys, hx, hy, h => by
    obtain ⟨hx1, hx2⟩ := List.pairwise_cons.1 hx
    obtain ⟨hy1, hy2⟩ := List.pairwise_cons.1 hy
    have e : x = y := by
      have h1 := (h x).1 (by simp)
      have h2 := (h y).2 (by simp)
      rcases List.mem_cons.1 h1 with h1 | h1
      · exact h1
      · rcases List.mem_cons.1 h2 with h2 | h2
        · exact h2.symm
        · have := hx1 y h2
          have := hy1 x h1
          omega
    subst e
    rw [asc_ext hx2 hy2 (fun z => ?_)]
    constructor
    · intro hz
      rcases List.mem_cons.1 ((h z).1 (by simp [hz])) with rfl | h3
      · have := hx1 z hz; omega
      · exact h3
    · intro hz
      rcases List.mem_cons.1 ((h z).2 (by simp [hz])) with rfl | h3
      · have := hy1 z hz; omega
      · exact h3
end Go.Proofs.Ytbgegmignhghnaa

/-
  Flows in a net: what a flow carries is what every cut lets through. Plain Lean, no program in sight.
-/
namespace Go.Proofs.Ytbgegmignhghnaa
set_option linter.unusedSimpArgs false
set_option linter.unusedVariables false

/-- the sum over the numbers below n -/
def sumN : Nat → (Nat → Int) → Int
  | 0, _ => 0
  | n + 1, f => sumN n f + f n
section
variable {n m : Nat} {f g : Nat → Int}
theorem sumN_congr : ∀ {n : Nat}, (∀ k, k < n → f k = g k) → sumN n f = sumN n g
  | 0, _ => rfl
  | n + 1, h => by
    show sumN n f + f n = sumN n g + g n
    rw [sumN_congr (fun k hk => h k (by omega)), h n (by omega)]
theorem sumN_le : ∀ {n : Nat}, (∀ k, k < n → f k ≤ g k) → sumN n f ≤ sumN n g
  | 0, _ => Int.le_refl _
  | n + 1, h => by
    show sumN n f + f n ≤ sumN n g + g n
    have h1 := sumN_le (n := n) (fun k hk => h k (by omega))
    have h2 := h n (by omega)
    omega
theorem sumN_zero : ∀ n : Nat, sumN n (fun _ => 0) = 0
  | 0 => rfl
  | n + 1 => by show sumN n _ + 0 = 0; rw [sumN_zero n]; rfl
theorem sumN_nonneg (h : ∀ k, k < n → 0 ≤ f k) : 0 ≤ sumN n f := by
  have := sumN_le (f := fun _ => 0) (g := f) h
  rw [sumN_zero] at this
  exact this
theorem sumN_add : ∀ n : Nat, sumN n (fun k => f k + g k) = sumN n f + sumN n g
  | 0 => rfl
  | n + 1 => by
    show sumN n _ + (f n + g n) = sumN n f + f n + (sumN n g + g n)
    rw [sumN_add n]
    omega
theorem sumN_neg : ∀ n : Nat, sumN n (fun k => - f k) = - sumN n f
  | 0 => rfl
  | n + 1 => by
    show sumN n _ + - f n = -(sumN n f + f n)
    rw [sumN_neg n]
    omega
theorem sumN_swap (h : Nat → Nat → Int) : ∀ n m : Nat, sumN n (fun a => sumN m (fun b => h a b)) = sumN m (fun b => sumN n (fun a => h a b))
  | 0, m => (sumN_zero m).symm
  | n + 1, m => by
    show sumN n _ + sumN m (fun b => h n b) = sumN m (fun b => sumN n (fun a => h a b) + h n b)
    rw [sumN_add, sumN_swap h n m]
theorem sumN_le_of_nonneg : ∀ {n k : Nat}, (∀ j, j < n → 0 ≤ f j) → k < n → f k ≤ sumN n f
  | n + 1, k, h, hk => by
    show f k ≤ sumN n f + f n
    by_cases e : k = n
    · subst e
      have := sumN_nonneg (n := k) (f := f) (fun j hj => h j (by omega))
      omega
    · have := sumN_le_of_nonneg (n := n) (k := k) (fun j hj => h j (by omega)) (by omega)
      have := h n (by omega)
      omega
/-- a sum with at most one term -/
theorem sumN_one {k : Nat} : ∀ {n : Nat}, (∀ j, j < n → j ≠ k → f j = 0) → sumN n f = if k < n then f k else 0
  | 0, _ => rfl
  | n + 1, h => by
    show sumN n f + f n = _
    rw [sumN_one (n := n) (fun j hj => h j (by omega))]
    by_cases e : k = n
    · subst e
      rw [if_neg (Nat.lt_irrefl k), if_pos (Nat.lt_succ_self k)]
      omega
    · rw [h n (by omega) (fun h2 => e h2.symm)]
      by_cases hk : k < n
      · rw [if_pos hk, if_pos (by omega)]; omega
      · rw [if_neg hk, if_neg (by omega)]; omega
/-- two sums that differ at one place -/
theorem sumN_at {k : Nat} {d : Int} (hk : k < n) (h : ∀ j, j < n → f j = g j + if j = k then d else 0) : sumN n f = sumN n g + d := by
  rw [sumN_congr h, sumN_add]
  congr 1
  rw [sumN_one (k := k) (fun j _ hj => if_neg hj), if_pos hk, if_pos rfl]
end

/-- a flow: what of the capacities is left, and what it carries -/
structure Flow (N s t : Nat) (cap left : Nat → Nat → Int) (v : Int) : Prop where
  pos : ∀ a b, a < N → b < N → 0 ≤ left a b
  anti : ∀ a b, a < N → b < N → left a b + left b a = cap a b + cap b a
  out : ∀ a, a < N → a ≠ t → sumN N (fun b => cap a b - left a b) = if a = s then v else 0
/-- on the way back from the end: one unit stands at c -/
structure FlowM (N s t c : Nat) (cap left : Nat → Nat → Int) (v : Int) : Prop where
  pos : ∀ a b, a < N → b < N → 0 ≤ left a b
  anti : ∀ a b, a < N → b < N → left a b + left b a = cap a b + cap b a
  out : ∀ a, a < N → a ≠ t → sumN N (fun b => cap a b - left a b) = (if a = s then v else 0) + if a = c then 1 else 0
section
variable {N s t : Nat} {cap left : Nat → Nat → Int} {v : Int}
theorem Flow.mid (h : Flow N s t cap left v) : FlowM N s t t cap left v :=
  ⟨h.pos, h.anti, fun a ha hn => by rw [h.out a ha hn, if_neg (c := a = t) hn]; omega⟩
theorem FlowM.done (h : FlowM N s t s cap left v) : Flow N s t cap left (v + 1) :=
  ⟨h.pos, h.anti, fun a ha hn => by rw [h.out a ha hn]; by_cases e : a = s <;> simp [e]⟩
theorem Flow.start (hc : ∀ a b, a < N → b < N → 0 ≤ cap a b) : Flow N s t cap cap 0 :=
  ⟨hc, fun _ _ _ _ => rfl, fun a _ _ => by
    rw [sumN_congr (g := fun _ => 0) (fun k _ => by show cap a k - cap a k = 0; omega), sumN_zero]
    split <;> rfl⟩
/-- one step back: from c to p -/
def pushed (left : Nat → Nat → Int) (p c : Nat) (a b : Nat) : Int := left a b - (if a = p ∧ b = c then 1 else 0) + if a = c ∧ b = p then 1 else 0
theorem FlowM.step {c p : Nat} (h : FlowM N s t c cap left v) (hc : c < N) (hp : p < N) (hne : p ≠ c) (hl : 1 ≤ left p c) : FlowM N s t p cap (pushed left p c) v := by
  refine ⟨fun a b ha hb => ?_, fun a b ha hb => ?_, fun a ha hn => ?_⟩
  · have := h.pos a b ha hb
    unfold pushed
    by_cases e : a = p ∧ b = c
    · obtain ⟨rfl, rfl⟩ := e
      rw [if_pos ⟨rfl, rfl⟩, if_neg (fun h2 => hne h2.1)]
      omega
    · rw [if_neg e]
      split <;> omega
  · have := h.anti a b ha hb
    unfold pushed
    have e1 : (b = p ∧ a = c) ↔ (a = c ∧ b = p) := And.comm
    have e2 : (b = c ∧ a = p) ↔ (a = p ∧ b = c) := And.comm
    simp only [e1, e2]
    omega
  · have h1 := h.out a ha hn
    by_cases e1 : a = p
    · subst e1
      rw [sumN_at (k := c) (d := 1) (g := fun b => cap a b - left a b) hc (fun j _ => ?_), h1, if_neg (c := a = c) hne, if_pos (c := a = a) rfl]
      · omega
      · unfold pushed
        rw [if_neg (c := a = c ∧ j = a) (fun h2 => hne h2.1)]
        by_cases e : j = c
        · rw [if_pos ⟨rfl, e⟩, if_pos e]; omega
        · rw [if_neg (fun h2 => e h2.2), if_neg e]; omega
    · by_cases e2 : a = c
      · subst e2
        rw [sumN_at (k := p) (d := -1) (g := fun b => cap a b - left a b) hp (fun j _ => ?_), h1, if_pos (c := a = a) rfl, if_neg (c := a = p) e1]
        · omega
        · unfold pushed
          rw [if_neg (c := a = p ∧ j = a) (fun h2 => e1 h2.1)]
          by_cases e : j = p
          · rw [if_pos ⟨rfl, e⟩, if_pos e]; omega
          · rw [if_neg (fun h2 => e h2.2), if_neg e]; omega
      · rw [sumN_congr (g := fun b => cap a b - left a b) (fun j _ => ?_), h1, if_neg (c := a = c) e2, if_neg (c := a = p) e1]
        show cap a j - pushed left p c a j = cap a j - left a j
        unfold pushed
        rw [if_neg (fun h2 => e1 h2.1), if_neg (fun h2 => e2 h2.1)]
        omega
/-- what crosses a cut -/
def cross (S : Nat → Bool) (f : Nat → Nat → Int) (a b : Nat) : Int := if (S a && !S b) = true then f a b else 0
theorem sum_anti {f : Nat → Nat → Int} (h : ∀ a b, a < N → b < N → f a b = - f b a) : sumN N (fun a => sumN N (fun b => f a b)) = 0 := by
  have h1 := sumN_swap f N N
  have h2 : sumN N (fun b => sumN N (fun a => f a b)) = - sumN N (fun b => sumN N (fun a => f b a)) := by
    rw [← sumN_neg]
    refine sumN_congr fun b hb => ?_
    show sumN N (fun a => f a b) = - sumN N (fun a => f b a)
    rw [← sumN_neg]
    exact sumN_congr fun a ha => h a b ha hb
  have h3 : sumN N (fun b => sumN N (fun a => f b a)) = sumN N (fun a => sumN N (fun b => f a b)) := rfl
  omega
theorem Flow.cut (h : Flow N s t cap left v) {S : Nat → Bool} (hs : S s = true) (ht : S t = false) (hsN : s < N) : v = sumN N fun a => sumN N fun b => cross S (fun a b => cap a b - left a b) a b := by
  -- the sum over S of what leaves each place
  have h1 : sumN N (fun a => if S a = true then sumN N (fun b => cap a b - left a b) else 0) = v := by
    rw [sumN_one (k := s) (fun j hj hn => ?_), if_pos hsN, if_pos hs]
    · rw [h.out s hsN (fun e => by rw [e, ht] at hs; cases hs), if_pos rfl]
    · by_cases e : S j = true
      · rw [if_pos e, h.out j hj (fun e2 => by rw [e2, ht] at e; cases e), if_neg hn]
      · rw [if_neg e]
  have h2 : sumN N (fun a => sumN N (fun b => if (S a && S b) = true then cap a b - left a b else 0)) = 0 := by
    refine sum_anti fun a b ha hb => ?_
    have := h.anti a b ha hb
    rw [Bool.and_comm (S b) (S a)]
    split <;> omega
  have h3 : sumN N (fun a => if S a = true then sumN N (fun b => cap a b - left a b) else 0) = sumN N (fun a => sumN N (fun b => if (S a && S b) = true then cap a b - left a b else 0)) + sumN N (fun a => sumN N (fun b => cross S (fun a b => cap a b - left a b) a b)) := by
    rw [← sumN_add]
    refine sumN_congr fun a _ => ?_
    show _ = sumN N _ + sumN N _
    rw [← sumN_add]
    cases e : S a
    · rw [if_neg (by decide)]
      refine (sumN_zero N).symm.trans (sumN_congr fun b _ => ?_)
      simp [cross, e]
    · rw [if_pos rfl]
      refine sumN_congr fun b _ => ?_
      unfold cross
      rw [e]
      cases S b <;> simp
  omega
theorem Flow.le (h : Flow N s t cap left v) {S : Nat → Bool} (hs : S s = true) (ht : S t = false) (hsN : s < N) : v ≤ sumN N fun a => sumN N fun b => cross S cap a b := by
  rw [h.cut hs ht hsN]
  refine sumN_le fun a ha => sumN_le fun b hb => ?_
  have := h.pos a b ha hb
  unfold cross
  dsimp only
  split <;> omega
/-- where nothing is left across a cut, it lets through what the flow carries -/
theorem Flow.full (h : Flow N s t cap left v) {S : Nat → Bool} (hs : S s = true) (ht : S t = false) (hsN : s < N) (hf : ∀ a b, a < N → b < N → S a = true → S b = false → ¬ 0 < left a b) : v = sumN N fun a => sumN N fun b => cross S cap a b := by
  rw [h.cut hs ht hsN]
  refine sumN_congr fun a ha => sumN_congr fun b hb => ?_
  have := h.pos a b ha hb
  unfold cross
  cases ea : S a
  · rfl
  cases eb : S b
  · have := hf a b ha hb ea eb
    simp only [Bool.not_false, Bool.and_true, if_true]
    omega
  · rfl
/-- it carries no more than leaves the beginning -/
theorem Flow.most (h : Flow N s t cap left v) (hs : s < N) (hst : s ≠ t) (hc : ∀ a b, a < N → b < N → cap a b ≤ 1) : v ≤ N := by
  have h1 := h.out s hs hst
  rw [if_pos rfl] at h1
  rw [← h1]
  have h2 : sumN N (fun b => cap s b - left s b) ≤ sumN N (fun _ => 1) := sumN_le fun b hb => by
    have := h.pos s b hs hb
    have := hc s b hs hb
    omega
  have h3 : ∀ m : Nat, sumN m (fun _ => 1) = m := fun m => by
    induction m with
    | zero => rfl
    | succ m ih => show sumN m _ + 1 = _; rw [ih]; omega
  rw [h3] at h2
  exact h2
end
end Go.Proofs.Ytbgegmignhghnaa
