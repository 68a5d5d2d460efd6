/-
  spec.l2Reach.
-/
import Derived.Test.YtpflnmejbialjaaGreatDoorVFlood
import Derived.Test.YtpflnmejbialjaaGreatDoorVNear2
import Derived.Deep.LoopGhost
import Derived.Test.YtpflnmejbialjaaGreatDoorVClear
import Derived.Deep.DeepCutAuto
/-
  spec.l1Put: a number put to its place in a list, once.
-/
namespace Go.Proofs.YtpflnmejbialjaaGreatDoor
set_option linter.unusedSimpArgs false
set_option linter.unusedVariables false
open Go.RowKit

/-- where a number belongs in an ascending list -/
def putK (x : Int) : List Int → Nat
  | [] => 0
  | y :: ys => if y < x then putK x ys + 1 else 0
def putL (xs : List Int) (x : Int) : List Int := xs.take (putK x xs) ++ x :: xs.drop (putK x xs)
theorem putK_le (x : Int) : ∀ xs : List Int, putK x xs ≤ xs.length
  | [] => Nat.le_refl _
  | y :: ys => by
    unfold putK
    have := putK_le x ys
    split <;> simp <;> omega
theorem putL_mem {xs : List Int} {x y : Int} : y ∈ putL xs x ↔ y = x ∨ y ∈ xs := by
  unfold putL
  have : y ∈ xs ↔ y ∈ xs.take (putK x xs) ∨ y ∈ xs.drop (putK x xs) := by
    rw [← List.mem_append, List.take_append_drop]
  rw [List.mem_append, List.mem_cons, this]
  constructor
  · rintro (h | h | h)
    · exact .inr (.inl h)
    · exact .inl h
    · exact .inr (.inr h)
  · rintro (h | h | h)
    · exact .inr (.inl h)
    · exact .inl h
    · exact .inr (.inr h)
theorem putL_asc {x : Int} : ∀ {xs : List Int}, xs.Pairwise (· < ·) → x ∉ xs → (putL xs x).Pairwise (· < ·)
  | [], _, _ => by simp [putL, putK]
  | y :: ys, h, hx => by
    obtain ⟨h1, h2⟩ := List.pairwise_cons.1 h
    have hxy : x ≠ y := fun e => hx (by simp [e])
    have hxs : x ∉ ys := fun e => hx (by simp [e])
    unfold putL putK
    by_cases hy : y < x
    · rw [if_pos hy, List.take_succ_cons, List.drop_succ_cons, List.cons_append, List.pairwise_cons]
      refine ⟨fun z hz => ?_, putL_asc h2 hxs⟩
      rcases putL_mem.1 (show z ∈ putL ys x from hz) with rfl | hz
      · exact hy
      · exact h1 z hz
    · rw [if_neg hy, List.take_zero, List.drop_zero, List.nil_append, List.pairwise_cons]
      refine ⟨fun z hz => ?_, h⟩
      rcases List.mem_cons.1 hz with rfl | hz
      · omega
      · have := h1 z hz; omega
theorem putL_length (xs : List Int) (x : Int) : (putL xs x).length = xs.length + 1 := by
  unfold putL
  have := putK_le x xs
  rw [List.length_append, List.length_cons, List.length_take, List.length_drop]
  omega

end Go.Proofs.YtpflnmejbialjaaGreatDoor

/-
  spec.l2Reach.
-/
namespace Go.Proofs.YtpflnmejbialjaaGreatDoor
set_option linter.unusedSimpArgs false
set_option linter.unusedVariables false
open Go.RowKit

theorem unseen_add {n x : Nat} {f g : Nat → Bool} (hx : x < n) (hf : f x = false) (hg : ∀ c, g c = (f c || c == x)) : unseen n g + 1 = unseen n f := by
  unfold unseen
  induction n with
  | zero => omega
  | succ n ih =>
    rw [List.range_succ, List.filter_append, List.filter_append, List.length_append, List.length_append]
    by_cases e : x = n
    · subst e
      have h1 : (List.range x).filter (fun c => !g c) = (List.range x).filter (fun c => !f c) := List.filter_congr fun c hc => by
        have : c < x := List.mem_range.1 hc
        have h2 : (c == x) = false := by simp; omega
        rw [hg, h2, Bool.or_false]
      rw [h1]
      have h3 : g x = true := by rw [hg]; simp
      simp [h3, hf]
    · have h4 := ih (by omega)
      have h2 : (n == x) = false := by simp; omega
      have h5 : g n = f n := by rw [hg, h2, Bool.or_false]
      simp only [List.filter_cons, List.filter_nil, h5]
      cases f n <;> simp <;> omega

/-- where the reference's search stands -/
structure SI (n : Nat) (near : Nat → Nat → Bool) (burn src : Nat → Bool) (out : List Int) (q : List Nat) : Prop where
  asc : out.Pairwise (· < ·)
  only : ∀ x ∈ out, ∃ c : Nat, x = c ∧ Reach n near burn src c
  que : ∀ c ∈ q, c < n ∧ (burn c = true → Reach n near burn src c)
  seed : ∀ c, c < n → src c = true → burn c = true → (c : Int) ∈ out ∨ c ∈ q
  shut : ∀ d : Nat, (d : Int) ∈ out → ∀ c, c < n → near d c = true → burn c = true → (c : Int) ∈ out ∨ c ∈ q
  size : out.length + unseen n (fun c => hasI out c) ≤ n
section
variable {n : Nat} {near : Nat → Nat → Bool} {burn src : Nat → Bool} {out : List Int} {q : List Nat} {x : Nat}
theorem SI.start (h : ∀ c ∈ q, c < n ∧ src c = true) (h2 : ∀ c, c < n → src c = true → c ∈ q) : SI n near burn src [] q :=
  ⟨List.Pairwise.nil, by simp, fun c hc => ⟨(h c hc).1, fun hb => Reach.base (h c hc).1 (h c hc).2 hb⟩, fun c hc hs _ => .inr (h2 c hc hs), by simp, by have := unseen_le n (fun c => hasI [] (c : Int)); simpa using this⟩
theorem SI.skip (h : SI n near burn src out (x :: q)) (hx : burn x = false ∨ (x : Int) ∈ out) : SI n near burn src out q := by
  have key : ∀ c, burn c = true → ((c : Int) ∈ out ∨ c ∈ x :: q) → (c : Int) ∈ out ∨ c ∈ q := by
    intro c hb h1
    rcases h1 with h1 | h1
    · exact .inl h1
    · rcases List.mem_cons.1 h1 with rfl | h1
      · rcases hx with hx | hx
        · rw [hx] at hb; cases hb
        · exact .inl hx
      · exact .inr h1
  exact ⟨h.asc, h.only, fun c hc => h.que c (by simp [hc]), fun c hc hs hb => key c hb (h.seed c hc hs hb), fun d hd c hc hn hb => key c hb (h.shut d hd c hc hn hb), h.size⟩
theorem hasI_put {x : Int} {out : List Int} (c : Nat) (y : Nat) (e : x = y) : hasI (putL out x) c = (hasI out c || c == y) := by
  rw [Bool.eq_iff_iff, hasI_iff, putL_mem, Bool.or_eq_true, hasI_iff, beq_iff_eq, e]
  constructor
  · rintro (h | h)
    · exact .inr (by omega)
    · exact .inl h
  · rintro (h | h)
    · exact .inr h
    · exact .inl (by omega)
theorem SI.add (h : SI n near burn src out (x :: q)) (hb : burn x = true) (hx : (x : Int) ∉ out) : SI n near burn src (putL out x) (q ++ (List.range n).filter (near x)) := by
  obtain ⟨hxn, hxr⟩ := h.que x (by simp)
  have hr := hxr hb
  refine ⟨putL_asc h.asc hx, fun y hy => ?_, fun c hc => ?_, fun c hc hs hbc => ?_, fun d hd c hc hn hbc => ?_, ?_⟩
  · rcases putL_mem.1 hy with rfl | hy
    · exact ⟨x, rfl, hr⟩
    · exact h.only y hy
  · rcases List.mem_append.1 hc with hc | hc
    · exact h.que c (by simp [hc])
    · obtain ⟨h1, h2⟩ := List.mem_filter.1 hc
      exact ⟨List.mem_range.1 h1, fun hbc => Reach.step hr (List.mem_range.1 h1) hbc h2⟩
  · rcases h.seed c hc hs hbc with h1 | h1
    · exact .inl (putL_mem.2 (.inr h1))
    · rcases List.mem_cons.1 h1 with rfl | h1
      · exact .inl (putL_mem.2 (.inl rfl))
      · exact .inr (List.mem_append_left _ h1)
  · rcases putL_mem.1 hd with e | hd
    · obtain rfl : d = x := by omega
      exact .inr (List.mem_append_right _ (List.mem_filter.2 ⟨List.mem_range.2 hc, hn⟩))
    · rcases h.shut d hd c hc hn hbc with h1 | h1
      · exact .inl (putL_mem.2 (.inr h1))
      · rcases List.mem_cons.1 h1 with rfl | h1
        · exact .inl (putL_mem.2 (.inl rfl))
        · exact .inr (List.mem_append_left _ h1)
  · have h1 := unseen_add (n := n) (x := x) (f := fun c => hasI out c) (g := fun c => hasI (putL out x) c) hxn (by
      cases e : hasI out (x : Int)
      · rfl
      · exact absurd (hasI_iff.1 e) hx) (fun c => hasI_put c x rfl)
    have h2 := h.size
    rw [putL_length]
    omega
theorem SI.measure (h : SI n near burn src out (x :: q)) (hx : (x : Int) ∉ out) : unseen n (fun c => hasI (putL out x) c) + 1 = unseen n (fun c => hasI out c) :=
  unseen_add (h.que x (by simp)).1 (by
    cases e : hasI out (x : Int)
    · rfl
    · exact absurd (hasI_iff.1 e) hx) (fun c => hasI_put c x rfl)
theorem SI.done (h : SI n near burn src out []) : out = cellsN n (reachB n near burn src) := by
  refine asc_ext h.asc (cellsN_asc _ _) fun y => ?_
  rw [cellsN_mem]
  constructor
  · intro hy
    obtain ⟨c, rfl, hr⟩ := h.only y hy
    exact ⟨c, rfl, hr.lt.1, reachB_iff.2 hr⟩
  · rintro ⟨c, rfl, hc, hr⟩
    have := (reachB_iff.1 hr).least (T := fun c => (c : Int) ∈ out) (fun c hc hs hb => ?_) (fun d c hd hc hb hn => ?_)
    · exact this
    · rcases h.seed c hc hs hb with h1 | h1
      · exact h1
      · simp at h1
    · rcases h.shut d hd c hc hn hb with h1 | h1
      · exact h1
      · simp at h1
end

end Go.Proofs.YtpflnmejbialjaaGreatDoor
