/-
  What a flood reaches: the plain law.
-/
import Derived.Test.YtpflnmejbialjaaGreatDoorVMkr
import Derived.Test.YtpflnmejbialjaaGreatDoorVLst
import Derived.ArgAppend
import Derived.Deep.Upon
import Derived.Test.YtpflnmejbialjaaGreatDoorVNear
/-
  A queue: a slice of numbers that is cut at its head and appended to; and appends of one number, in terms of entries.
-/
namespace Go.Proofs.YtpflnmejbialjaaGreatDoor
set_option linter.unusedSimpArgs false
set_option linter.unusedVariables false
open Go.RowKit

/-- the slice (a, n, c) lies in a block from B on, that is nobody else's, with the numbers xs -/
structure Qu (B : Nat) (w : World) (a : Option Addr) (n c : Nat) (xs : List Int) : Prop where
  len : xs.length = n
  cap : n ≤ c
  capm : c ≤ maxLen
  room : n ≤ 17592186044416
  wf : ∀ x ∈ xs, I64 x
  at' : (a = none ∧ c = 0) ∨ ∃ g off cur, a = some ⟨g, off, none⟩ ∧ B ≤ g ∧ w.heap[g]? = some (.cells cur 3 (0, 0)) ∧ off + c ≤ cur.size ∧ (cur.toList.drop off).take n = cellsI xs

theorem Qu.ints {B : Nat} {w : World} {a : Option Addr} {n c : Nat} {xs : List Int} (h : Qu B w a n c xs) : Ints w a n c xs := by
  refine ⟨h.len, h.cap, h.capm, ?_, h.room, h.wf, fun k hk => ?_⟩
  · rintro rfl
    rcases h.at' with ⟨_, h1⟩ | ⟨g, off, cur, e, _⟩
    · exact h1
    · cases e
  · rcases h.at' with ⟨_, h1⟩ | ⟨g, off, cur, e, hb, hh, hle, ht⟩
    · have := h.cap; omega
    · refine ⟨g, off, e, (Array.getElem?_eq_some_iff.1 hh).1, fun i hi => ?_⟩
      have h2 : (cellsI xs)[i]? = some (.int .i64 (xs.getD i 0)) := by
        have hx : i < xs.length := by rw [h.len]; exact hi
        simp [cellsI, List.getElem?_map, List.getElem?_eq_getElem hx, List.getD_eq_getElem?_getD]
      rw [← ht, List.getElem?_take_of_lt hi, List.getElem?_drop] at h2
      simp [World.cell?, hh]
      simpa using h2

section
variable {B : Nat} {w0 w w' : World} {G G' : List Ent}
end
section
variable {B : Nat} {w0 w w' : World} {G : List Ent} {G' : Ent → List Ent}
theorem Mem.oneI {b : Nat} {x : Int} (h : Mem B w0 w G) (i : In G (rowE b 3 #[.int .i64 x])) (hx : I64 x) : Ints w (some ⟨b, 0, none⟩) 1 1 [x] := by
  have hr := h.row i
  refine ⟨rfl, Nat.le_refl _, by unfold maxLen; omega, by simp, by omega, by simpa using hx, fun k hk => ⟨b, 0, rfl, hr.lt, fun j hj => ?_⟩⟩
  obtain rfl : j = 0 := by omega
  rw [hr.cell]
  rfl
/-- out = append(out, x) -/
theorem wpList_pushI {ops : Array Oper} {rest : List Oper} {o : Oper} {a : Act} {Q : Exit → Act → World → Prop} {b : Nat} {x : Int} {va : Option Addr} {na ca : Nat} {xs : List Int} (hM : Mem B w0 w (rowE b 3 #[.int .i64 x] :: G)) (p : ∀ e', Put G (intE va na ca xs) e' (G' e')) (hx : I64 x) (hroom : na + 1 ≤ 17592186044416)
    (hgd : o.guard = none) (s v : Operand) (t : TypeId) (ht : Tryz.prog.underlying t = some (.slice 3)) (ho : o.op = .call { callee := .builtin .append, args := #[s, v], argTypes := #[t, t] }) (hs : a.eval s = .slice va na ca) (hv : a.eval v = .slice (some ⟨b, 0, none⟩) 1 1)
    (h : ∀ a' c' w', Mem B w0 w' (G' (intE a' (na + 1) c' (xs ++ [x]))) → wpList Tryz.prog ops Q rest (a.put o.dst (.slice a' (na + 1) c')) w') : wpList Tryz.prog ops Q (o :: rest) a w := by
  obtain ⟨i0, hi, hz0, hz1, hz2⟩ := info_parts Tryz.info3
  have hown := hM.ents _ (List.mem_cons_of_mem _ (p (rowE 0 0 #[])).mem)
  have ho1 : Own B w va na ca xs := hown
  refine wpList_appendI hgd s v t ho 3 i0 ht hi hz0 hz1 hz2 B va na ca xs hs ho1.row (some ⟨b, 0, none⟩) 1 1 [x] hv (hM.oneI .here hx) hroom hM.size ?_
  intro a' c' w' h1 h2 h3
  refine h a' c' w' ?_
  refine (hM.tail).put (p _) ((Keeps.grown h2).mono (fun k _ hk => ownBlock_blockOf hk)) (e' := intE a' (na + 1) c' (xs ++ [x])) ⟨by rw [List.length_append, ho1.len]; rfl, hroom, ?_, h1⟩ (fun k hk => (h3 k hk).imp id (fun e => by omega))
  intro y hy
  rcases List.mem_append.1 hy with hy | hy
  · exact ho1.wf y hy
  · obtain rfl : y = x := by simpa using hy
    exact hx
end

section
variable {B : Nat} {w0 w : World} {G : List Ent} {G' : Ent → List Ent}
end
end Go.Proofs.YtpflnmejbialjaaGreatDoor

/-
  What a flood reaches: the plain law.
-/
namespace Go.Proofs.YtpflnmejbialjaaGreatDoor
set_option linter.unusedSimpArgs false
set_option linter.unusedVariables false
open Go.RowKit

/-- how many of the first n are not marked -/
def unseen (n : Nat) (f : Nat → Bool) : Nat := ((List.range n).filter fun c => !f c).length
theorem unseen_le (n : Nat) (f : Nat → Bool) : unseen n f ≤ n := Nat.le_trans (List.length_filter_le _ _) (by simp)
/-- marked behind the first k steps from x, and what is new -/
def stepF (st : Nat → Nat → Bool) (x : Nat) (f : Nat → Bool) (k : Nat) (c : Nat) : Bool := f c || (decide (c < k) && st x c)
def newF (st : Nat → Nat → Bool) (x : Nat) (f : Nat → Bool) (k : Nat) : List Nat := (List.range k).filter fun c => !f c && st x c
/-- where a flood stands -/
structure FI (n : Nat) (st : Nat → Nat → Bool) (src : Nat → Bool) (f : Nat → Bool) (q : List Nat) : Prop where
  seed : ∀ c, c < n → src c = true → f c = true
  que : ∀ c ∈ q, c < n ∧ f c = true
  only : ∀ c, c < n → f c = true → Reach n st (fun _ => true) src c
  shut : ∀ c, c < n → f c = true → c ∈ q ∨ ∀ d, d < n → st c d = true → f d = true
theorem FI.start {n : Nat} {st : Nat → Nat → Bool} {src : Nat → Bool} {q : List Nat} (h : ∀ c ∈ q, c < n ∧ src c = true) (h2 : ∀ c, c < n → src c = true → c ∈ q) : FI n st src src q :=
  ⟨fun _ _ h => h, h, fun c hc hs => Reach.base hc hs rfl, fun c hc hs => .inl (h2 c hc hs)⟩
theorem FI.step {n : Nat} {st : Nat → Nat → Bool} {src f : Nat → Bool} {x : Nat} {q : List Nat} (h : FI n st src f (x :: q)) : FI n st src (stepF st x f n) (q ++ newF st x f n) := by
  obtain ⟨hx, hfx⟩ := h.que x (by simp)
  refine ⟨fun c hc hs => ?_, fun c hc => ?_, fun c hc hf => ?_, fun c hc hf => ?_⟩
  · simp [stepF, h.seed c hc hs]
  · rcases List.mem_append.1 hc with hc | hc
    · obtain ⟨h1, h2⟩ := h.que c (by simp [hc])
      exact ⟨h1, by simp [stepF, h2]⟩
    · obtain ⟨h1, h2⟩ := List.mem_filter.1 hc
      have h3 := List.mem_range.1 h1
      simp only [Bool.and_eq_true] at h2
      exact ⟨h3, by simp [stepF, h3, h2.2]⟩
  · simp only [stepF, Bool.or_eq_true, Bool.and_eq_true, decide_eq_true_eq] at hf
    rcases hf with hf | hf
    · exact h.only c hc hf
    · exact Reach.step (h.only x hx hfx) hc rfl hf.2
  · by_cases h1 : f c = true
    · rcases h.shut c hc h1 with h2 | h2
      · rcases List.mem_cons.1 h2 with rfl | h2
        · refine .inr fun d hd hst => ?_
          simp [stepF, hd, hst]
        · exact .inl (by simp [h2])
      · refine .inr fun d hd hst => ?_
        simp [stepF, h2 d hd hst]
    · refine .inl (List.mem_append_right _ (List.mem_filter.2 ⟨List.mem_range.2 hc, ?_⟩))
      simp only [stepF, Bool.or_eq_true, Bool.and_eq_true] at hf
      rcases hf with hf | hf
      · exact absurd hf h1
      · simp [h1, hf.2]
theorem FI.done {n : Nat} {st : Nat → Nat → Bool} {src f : Nat → Bool} (h : FI n st src f []) {c : Nat} (hc : c < n) : f c = reachB n st (fun _ => true) src c := by
  rw [Bool.eq_iff_iff, reachB_iff]
  refine ⟨h.only c hc, fun hr => ?_⟩
  have := hr.least (T := fun c => c < n ∧ f c = true) (fun c hc hs _ => ⟨hc, h.seed c hc hs⟩) (fun d c hd hc _ hst => ⟨hc, ?_⟩)
  · exact this.2
  · rcases h.shut d hd.1 hd.2 with h1 | h1
    · simp at h1
    · exact h1 c hc hst
end Go.Proofs.YtpflnmejbialjaaGreatDoor
