/-
  For the reference's draws of incidents: what is valid, and l1Put on one number at its place.
-/
import Derived.Test.YtkohfegajcmdbaaQDrawAct
import Derived.Test.YtkohfegajcmdbaaQIncP
import Derived.Test.YtkohfegajcmdbaaQSaved
import Derived.Test.YtkohfegajcmdbaaQPutV
/-
  For the reference's draws of incidents: what is valid, and l1Put on one number at its place.
-/
namespace Go.Proofs.Ytkohfegajcmdbaa
set_option linter.unusedSimpArgs false
set_option linter.unusedVariables false
open Go.RowKit

theorem fireTo_or {xs : List Int} {c : Nat} : ∀ {cells acc : List Int}, (fireTo xs cells acc).getD c 0 = acc.getD c 0 ∨ (fireTo xs cells acc).getD c 0 = xs.getD c 0 := by
  intro cells
  induction cells with
  | nil => intro acc; exact .inl rfl
  | cons d ds ih =>
    intro acc
    have h2 : fireTo xs (d :: ds) acc = fireTo xs ds (acc.set d.toNat (xs.getD d.toNat 0)) := rfl
    rw [h2]
    rcases @ih (acc.set d.toNat (xs.getD d.toNat 0)) with h | h
    · rw [h]
      by_cases hl : d.toNat < acc.length
      · rw [getD_setI hl]
        by_cases hc : c = d.toNat
        · subst hc
          rw [if_pos rfl]
          exact .inr rfl
        · rw [if_neg hc]
          exact .inl rfl
      · rw [List.set_eq_of_length_le (by omega)]
        exact .inl rfl
    · exact .inr h
theorem goodB_of {Wn Hn : Nat} {xs : List Int} (hW : 1 ≤ Wn ∧ Wn ≤ 5) (hH : 1 ≤ Hn ∧ Hn ≤ 5) (hl : xs.length = Wn * Hn) (hx : allB 0 20 xs) : goodB 20 Wn Hn xs = true := by
  unfold goodB
  simp only [Bool.and_eq_true, decide_eq_true_eq, List.all_eq_true]
  refine ⟨⟨⟨?_, ?_⟩, ?_⟩, fun x hm => ?_⟩
  · unfold inB; simp; omega
  · unfold inB; simp; omega
  · rw [hl]; push_cast; rfl
  · have := hx x hm
    unfold inB; simp; omega
theorem inc_new {W H : Int} {xs cells : List Int} (hg : goodB 20 W H xs = true) : incB W H xs (fireL xs cells) (List.replicate xs.length 0) 0 = true := by
  refine incB_of hg (by unfold fireL; rw [fireTo_length, List.length_replicate]) (by simp) ⟨by omega, by omega⟩ fun c hc => ?_
  rw [okC_iff]
  obtain ⟨Wn, Hn, rfl, rfl, -, -, -, -, -, -, hall⟩ := goodB_true hg
  have hx := hall (xs.getD c 0) (getD_mem hc)
  have hr : (List.replicate xs.length (0 : Int)).getD c 0 = 0 := by
    rw [List.getD_eq_getElem?_getD, List.getElem?_replicate]
    split <;> rfl
  have hf := fireTo_or (xs := xs) (c := c) (cells := cells) (acc := List.replicate xs.length 0)
  rw [hr] at hf ⊢
  unfold fireL
  rcases hf with hf | hf
  · rw [hf]; omega
  · rw [hf]; omega
theorem set_one {n p : Nat} (hp : p < n) : setB n [(p : Int)] = true := setB_iff.2 ⟨List.pairwise_singleton _ _, fun x hx => by
  obtain rfl := List.mem_singleton.1 hx
  omega⟩
theorem set_two {n p q : Nat} (hp : p < n) (hq : q < n) (hx : (q : Int) ∉ [(p : Int)]) : setB n (putL [(p : Int)] q) = true := setB_iff.2 ⟨putL_asc (List.pairwise_singleton _ _) hx, fun x hm => by
  rcases putL_mem.1 hm with rfl | hm
  · omega
  · obtain rfl := List.mem_singleton.1 hm
    omega⟩
theorem At.swap {B : Nat} {w0 w : World} {G : List Ent} {F : Ent → List Ent} {e x : Ent} (p : At G e F) (h : Mem B w0 w (x :: G)) : Mem B w0 w (F x) := by
  obtain ⟨G1, G2, rfl, h2⟩ := p
  rw [h2]
  have h3 : Mem B w0 w (x :: (G1 ++ G2)) := h.sub (List.Sublist.cons_cons _ (List.Sublist.append (List.Sublist.refl _) (List.sublist_cons_self _ _)))
  exact h3.perm List.perm_middle.symm
set_option maxHeartbeats 1000000 in
theorem l1PutS_any {B : Nat} {w0 w : World} {G : List Ent} {F : Ent → List Ent} (g p q n : Nat) (hp : p < n) (hq : q < n) (hn : n ≤ 1000) (pl : At G (rowE g 3 #[.int .i64 (p : Int)]) F) (hM : Mem B w0 w G) :
    Calls Try.prog 115 #[.slice (some ⟨g, 0, none⟩) 1 1, .int .i64 q] w fun e w' => ∃ (g' c' : Nat) (ys : List Int), setB n ys = true ∧ e = .returned (.slice (some ⟨g', 0, none⟩) ys.length c') ∧ Mem B w0 w' (F (intE (some ⟨g', 0, none⟩) ys.length c' ys)) := by
  rw [← pl.self] at hM
  have hi := hM.toInts (xs := [(p : Int)]) (pl.put _ _) rfl (by intro x hx; obtain rfl := List.mem_singleton.1 hx; unfold I64; omega) (by simp)
  have hI := hi.intsR (pl.in _)
  refine (l1PutN_any g 0 1 1 [(p : Int)] q w hI (by unfold I64; omega) (by omega)).mono ?_
  rintro e w' hpost
  by_cases hx : (q : Int) ∈ [(p : Int)]
  · rcases hpost with ⟨-, rfl, hb⟩ | ⟨g', c', hne, rfl, hm⟩
    · exact ⟨g, 1, [(p : Int)], set_one hp, rfl, hi.ext hb⟩
    · obtain rfl : p = q := by have := List.mem_singleton.1 hx; omega
      exact absurd (by simp [putK]) (hne (by simp [putK]))
  · rcases hpost with ⟨h1, -, -⟩ | ⟨g', c', -, rfl, hm⟩
    · exact absurd h1 hx
    · have hj : Mem B w0 w' (intE (some ⟨g', 0, none⟩) (1 + 1) c' (putL [(p : Int)] q) :: F (intE (some ⟨g, 0, none⟩) [(p : Int)].length [(p : Int)].length [(p : Int)])) := hi.join hm
      have hl : (putL [(p : Int)] q).length = 1 + 1 := putL_length _ _
      refine ⟨g', c', putL [(p : Int)] q, set_two hp hq hx, by rw [hl], ?_⟩
      rw [hl]
      exact (pl.again _).swap hj
end Go.Proofs.Ytkohfegajcmdbaa
