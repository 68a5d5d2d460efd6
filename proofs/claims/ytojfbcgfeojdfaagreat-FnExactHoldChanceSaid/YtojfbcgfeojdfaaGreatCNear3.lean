/- Lemmas. -/
import Derived.Test.YtojfbcgfeojdfaaGreatCNear
import Derived.Test.YtojfbcgfeojdfaaGreatCNear2
import Derived.Test.YtojfbcgfeojdfaaGreatCQueue
/-
  What a flood reaches: the plain law.
-/
namespace Go.Proofs.YtojfbcgfeojdfaaGreat
set_option linter.unusedSimpArgs false
set_option linter.unusedVariables false
open Go.RowKit

/-- how many of the first n are not marked -/
def unseen (n : Nat) (f : Nat → Bool) : Nat := ((List.range n).filter fun c => !f c).length
theorem unseen_le (n : Nat) (f : Nat → Bool) : unseen n f ≤ n := Nat.le_trans (List.length_filter_le _ _) (by simp)
theorem filter_split {α : Type} (p q : α → Bool) (l : List α) : (l.filter p).length = (l.filter fun x => p x && q x).length + (l.filter fun x => p x && !q x).length := by
  induction l with
  | nil => rfl
  | cons x l ih =>
    simp only [List.filter_cons]
    cases p x <;> cases q x <;> simp [ih] <;> omega
/-- marked behind the first k steps from x, and what is new -/
def stepF (st : Nat → Nat → Bool) (x : Nat) (f : Nat → Bool) (k : Nat) (c : Nat) : Bool := f c || (decide (c < k) && st x c)
def newF (st : Nat → Nat → Bool) (x : Nat) (f : Nat → Bool) (k : Nat) : List Nat := (List.range k).filter fun c => !f c && st x c
theorem newF_succ (st : Nat → Nat → Bool) (x : Nat) (f : Nat → Bool) (k : Nat) : newF st x f (k + 1) = newF st x f k ++ if !f k && st x k then [k] else [] := by
  unfold newF
  rw [List.range_succ, List.filter_append]
  cases h : (!f k && st x k) <;> simp [h]
theorem newF_length (st : Nat → Nat → Bool) (x : Nat) (f : Nat → Bool) (k : Nat) : (newF st x f k).length ≤ k := Nat.le_trans (List.length_filter_le _ _) (by simp)
theorem stepF_zero (st : Nat → Nat → Bool) (x : Nat) (f : Nat → Bool) : stepF st x f 0 = f := by
  funext c
  simp [stepF]
theorem stepF_at (st : Nat → Nat → Bool) (x : Nat) (f : Nat → Bool) (k : Nat) : stepF st x f k k = f k := by simp [stepF]
theorem stepF_yes {st : Nat → Nat → Bool} {x : Nat} {f : Nat → Bool} {k : Nat} (h : st x k = true) (i : Nat) : (stepF st x f k i || i == k) = stepF st x f (k + 1) i := by
  unfold stepF
  by_cases e : i = k
  · subst e; simp [h]
  · have : decide (i < k + 1) = decide (i < k) := by simp; omega
    rw [this]
    have h2 : (i == k) = false := by simpa using e
    rw [h2, Bool.or_false]
theorem stepF_no {st : Nat → Nat → Bool} {x : Nat} {f : Nat → Bool} {k : Nat} (h : (!f k && st x k) = false) (i : Nat) : stepF st x f k i = stepF st x f (k + 1) i := by
  unfold stepF
  by_cases e : i = k
  · subst e
    cases h1 : f i <;> simp [h1] at h ⊢
    exact h
  · have : decide (i < k + 1) = decide (i < k) := by simp; omega
    rw [this]
theorem unseen_step (n : Nat) (st : Nat → Nat → Bool) (x : Nat) (f : Nat → Bool) : unseen n f = (newF st x f n).length + unseen n (stepF st x f n) := by
  unfold unseen newF
  rw [filter_split (fun c => !f c) (fun c => st x c)]
  congr 2
  refine List.filter_congr fun c hc => ?_
  have : c < n := List.mem_range.1 hc
  simp [stepF, this]

/-- where a flood stands -/
structure FI (n : Nat) (st : Nat → Nat → Bool) (src : Nat → Bool) (f : Nat → Bool) (q : List Nat) : Prop where
  seed : ∀ c, c < n → src c = true → f c = true
  que : ∀ c ∈ q, c < n ∧ f c = true
  only : ∀ c, c < n → f c = true → Reach n st (fun _ => true) src c
  shut : ∀ c, c < n → f c = true → c ∈ q ∨ ∀ d, d < n → st c d = true → f d = true
theorem FI.start {n : Nat} {st : Nat → Nat → Bool} {src : Nat → Bool} {q : List Nat} (h : ∀ c ∈ q, c < n ∧ src c = true) (h2 : ∀ c, c < n → src c = true → c ∈ q) : FI n st src src q :=
  ⟨fun _ _ h => h, h, fun c hc hs => Reach.base hc hs rfl, fun c hc hs => .inl (h2 c hc hs)⟩
theorem FI.step {n : Nat} {st : Nat → Nat → Bool} {src f : Nat → Bool} {x : Nat} {q : List Nat} (h : FI n st src f (x :: q)) : FI n st src (stepF st x f n) (q ++ newF st x f n) := by
  obtain ⟨hx, hfx⟩ := h.que x (by simp)
  refine ⟨fun c hc hs => ?_, fun c hc => ?_, fun c hc hf => ?_, fun c hc hf => ?_⟩
  · simp [stepF, h.seed c hc hs]
  · rcases List.mem_append.1 hc with hc | hc
    · obtain ⟨h1, h2⟩ := h.que c (by simp [hc])
      exact ⟨h1, by simp [stepF, h2]⟩
    · obtain ⟨h1, h2⟩ := List.mem_filter.1 hc
      have h3 := List.mem_range.1 h1
      simp only [Bool.and_eq_true] at h2
      exact ⟨h3, by simp [stepF, h3, h2.2]⟩
  · simp only [stepF, Bool.or_eq_true, Bool.and_eq_true, decide_eq_true_eq] at hf
    rcases hf with hf | hf
    · exact h.only c hc hf
    · exact Reach.step (h.only x hx hfx) hc rfl hf.2
  · by_cases h1 : f c = true
    · rcases h.shut c hc h1 with h2 | h2
      · rcases List.mem_cons.1 h2 with rfl | h2
        · refine .inr fun d hd hst => ?_
          simp [stepF, hd, hst]
        · exact .inl (by simp [h2])
      · refine .inr fun d hd hst => ?_
        simp [stepF, h2 d hd hst]
    · refine .inl (List.mem_append_right _ (List.mem_filter.2 ⟨List.mem_range.2 hc, ?_⟩))
      simp only [stepF, Bool.or_eq_true, Bool.and_eq_true] at hf
      rcases hf with hf | hf
      · exact absurd hf h1
      · simp [h1, hf.2]
theorem FI.done {n : Nat} {st : Nat → Nat → Bool} {src f : Nat → Bool} (h : FI n st src f []) {c : Nat} (hc : c < n) : f c = reachB n st (fun _ => true) src c := by
  rw [Bool.eq_iff_iff, reachB_iff]
  refine ⟨h.only c hc, fun hr => ?_⟩
  have := hr.least (T := fun c => c < n ∧ f c = true) (fun c hc hs _ => ⟨hc, h.seed c hc hs⟩) (fun d c hd hc _ hst => ⟨hc, ?_⟩)
  · exact this.2
  · rcases h.shut d hd.1 hd.2 with h1 | h1
    · simp at h1
    · exact h1 c hc hst
/-- natural numbers as Go's -/
def natsI (q : List Nat) : List Int := q.map Int.ofNat
theorem natsI_length (q : List Nat) : (natsI q).length = q.length := by simp [natsI]
theorem natsI_append (q r : List Nat) : natsI (q ++ r) = natsI q ++ natsI r := by simp [natsI]
theorem natsI_of {xs : List Int} (h : ∀ x ∈ xs, 0 ≤ x) : natsI (xs.map Int.toNat) = xs := by
  unfold natsI
  rw [List.map_map]
  conv => rhs; rw [← List.map_id xs]
  refine List.map_congr_left fun x hx => ?_
  have := h x hx
  simp
  omega
/-- a flood over steps that ask whether it burns there is what burns and is reached -/
theorem reachB_flood {n : Nat} {near : Nat → Nat → Bool} {burn src : Nat → Bool} {c : Nat} :
    reachB n (fun a b => near a b && burn b) (fun _ => true) (fun c => src c && burn c) c = reachB n near burn src c := by
  rw [Bool.eq_iff_iff, reachB_iff, reachB_iff]
  constructor
  · intro h
    refine h.least (T := Reach n near burn src) (fun c hc hs _ => ?_) (fun d c hd hc _ hst => ?_)
    · simp only [Bool.and_eq_true] at hs
      exact Reach.base hc hs.1 hs.2
    · simp only [Bool.and_eq_true] at hst
      exact Reach.step hd hc hst.2 hst.1
  · intro h
    refine h.least (T := fun c => Reach n (fun a b => near a b && burn b) (fun _ => true) (fun c => src c && burn c) c) (fun c hc hs hb => ?_) (fun d c hd hc hb hst => ?_)
    · exact Reach.base hc (by simp [hs, hb]) rfl
    · exact Reach.step hd hc rfl (by simp [hst, hb])
end Go.Proofs.YtojfbcgfeojdfaaGreat

namespace Go.Proofs.YtojfbcgfeojdfaaGreat
set_option linter.unusedSimpArgs false
set_option linter.unusedVariables false
open Go.RowKit

/-- what a function value (bound fi, captured caps) answers on the numbers below n -/
def AnsN (f : FuncId) (fi caps : Array Value) (p : Nat → Bool) (n : Nat) (w : World) : Prop :=
  ∀ k, k < n → ∀ w', Below w.heap.size w w' → Calls Tryz.prog f (fi ++ #[.int .i64 (k : Int)] ++ caps) w' fun e w'' => e = .returned (.bool (p k)) ∧ Below w'.heap.size w' w''
theorem i64_nat {k : Nat} (h : k ≤ 1000000000) : I64 (k : Int) := by unfold I64; omega

set_option maxRecDepth 100000 in
set_option maxHeartbeats 1000000 in
theorem cellsThat_any (f : FuncId) (fi caps : Array Value) (p : Nat → Bool) (W H : Int) (a : Option Addr) (n c : Nat) (xs : List Int) (w : World) (h : Ints w a n c xs) (hn25 : n ≤ 25) (hcf : ∀ args w, (callFunc f args).run Tryz.prog w = .ok (.enter f args) w) (hf : AnsN f fi caps p n w) :
    Calls Tryz.prog 126 #[.agg #[.int .i64 W, .int .i64 H, .slice a n c], .func (.func f) fi caps] w fun e w' => ∃ a' m c', e = .returned (.slice a' m c') ∧ Mem w.heap.size w w' [intE a' m c' (cellsN n p)] := by
  have HF := Lib.hid hf
  clear hf
  have hM := Mem.start w
  go_enter Tryz.func126, Tryz.ntmps126
  go_wp2_with fail
  go_loopw [5, 11] (fun s i wr => ∃ (k : Nat) (a' : Option Addr) (m c' : Nat), k ≤ n ∧ i = .int .i64 k ∧ s = .slice a' m c' ∧ Mem w.heap.size w wr [intE a' m c' (cellsN k p), rowE w.heap.size 26 #[.int .i64 W, .int .i64 H, .slice a n c]]) (fun _ i _ => n - (intOf i).toNat)
  case atStart =>
    refine ⟨0, _, 0, _, Nat.zero_le _, rfl, rfl, ?_⟩
    have hM := (hM.alloc #[.int .i64 W, .int .i64 H, .slice a n c] 26).empty
    simp only [World.size_alloc] at hM
    exact hM
  case round =>
    clear hM
    obtain ⟨k, a', m, c', hk, rfl, rfl, hM⟩ := hrel
    by_cases hlt : k < n
    · have hm := (hM.ints .here).len
      have hl := cellsN_length k p
      obtain ⟨ys, hys⟩ : ∃ ys, cellsN k p = ys := ⟨_, rfl⟩
      have hsu := cellsN_succ k p
      rw [hys] at hM hl hm hsu
      have HY := Lib.hid hsu; clear hys hsu
      have hmk : m ≤ k := by omega
      have HL := Lib.hid hm; clear hm hl
      go_wp2_with fail
      apply Mem.at
      · (repeat' (first | with_reducible exact hM | with_reducible exact hMp | with_reducible apply Mem.drew | with_reducible apply Mem.drewN | with_reducible apply Mem.alloc | with_reducible apply Mem.set | with_reducible exact Sto.row | ((with_reducible refine Sto.rowEq2 ?_ ?_); omega; rfl) | ((with_reducible refine Sto.rowEq ?_); omega) | with_reducible apply Sto.int | with_reducible apply Sto.there | with_reducible assumption | (unfold I64; omega) | (with_reducible (have hMx := Mem.undrew hM; exact hMx)) | (with_reducible (have hMx := Mem.undrew hMp; exact hMx))))
      clear hM
      intro hM
      (try simp only [World.size_alloc, World.size_setCell, World.heap_drewN, heapDrew, Nat.add_assoc, Nat.reduceAdd, List.setIfInBounds_toArray, List.set_cons_zero, List.set_cons_succ, List.cons_append, List.nil_append] at hM)
      refine (HF.out k hlt _ hM.below).mono ?_
      rintro e w1 ⟨rfl, hb⟩
      replace hM := hM.ext hb
      clear hb
      cases hp : p k
      · go_wp2
        go_roundw
        case rel =>
          refine ⟨k + 1, a', m, c', by omega, by go_num, rfl, ?_⟩
          rw [HY.out, hp]
          simpa using hM
        case measure => simp [intOf]; omega
      · go_wp2_with (at_builtin; apply Mem.atL; (focus ((repeat' (first | with_reducible exact hM | with_reducible exact hMp | with_reducible apply Mem.drew | with_reducible apply Mem.drewN | with_reducible apply Mem.alloc | with_reducible apply Mem.set | with_reducible exact Sto.row | ((with_reducible refine Sto.rowEq2 ?_ ?_); omega; rfl) | ((with_reducible refine Sto.rowEq ?_); omega) | with_reducible apply Sto.int | with_reducible apply Sto.there | with_reducible assumption | (unfold I64; omega) | (with_reducible (have hMx := Mem.undrew hM; exact hMx)) | (with_reducible (have hMx := Mem.undrew hMp; exact hMx)))); done)); clear hM; intro hM; refine wpList_pushI hM (fun _ => .here) (i64_nat (by omega)) (by omega) rfl _ _ _ Tryz.underlying24 rfl rfl rfl ?_)
        intro a2 c2 w2 hM
        go_wp2
        go_roundw
        case rel =>
          refine ⟨k + 1, a2, m + 1, c2, by omega, by go_num, rfl, ?_⟩
          rw [HY.out, hp]
          exact hM
        case measure => simp [intOf]; omega
    · obtain rfl : k = n := by omega
      go_wp2
      go_ret
      exact ⟨a', m, c', rfl, hM.first⟩
end Go.Proofs.YtojfbcgfeojdfaaGreat
