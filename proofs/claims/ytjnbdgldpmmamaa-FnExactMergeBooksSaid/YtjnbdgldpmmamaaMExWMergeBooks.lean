/-
  The law FnExactMergeBooks returns true for every input, and each argument reads afterwards as it read before.
  Conditions: none beyond those that the given row states.
-/
import Derived.Test.YtjnbdgldpmmamaaMExMergeBooks
import Derived.Test.YtjnbdgldpmmamaaMOpNote
import Derived.Test.YtjnbdgldpmmamaaMWrap
import Derived.ChangeMaps5
/-
  The law FnExactMergeBooks returns true for every input, and each argument reads afterwards as it read before.
  Conditions: none beyond those that the given row states.
-/
namespace Go.Proofs.Ytjnbdgldpmmamaa
set_option linter.unusedSimpArgs false
set_option linter.unusedVariables false
open Go.ChangeShapes Go.WideShapes Go.ChangeAt Go.RowKit Go.Joins

set_option maxRecDepth 100000 in
theorem FnExactMergeBooks_lifted (os : Os) (started : os.Started) (H : Type) (enc : TypeId × Value → H) :
    ReturnsInHanded {} Try.checked os 3 .any (Rows.fnExactMergeBooksSpec.pre6 enc Try.prog Try.f3 Rows.fnExactMergeBooksRow.domain false) (Rows.fnExactMergeBooksSpec.post enc Try.prog Try.f3 false true false false) := by
  refine returnsInHanded_of_change_sized (C := Try.checked) Try.own started (by kernel_rfl) Try.func3
    (ChangeSpec.witness6 (enc := enc) (C := Try.checked) false ⟨#[], #[.int .i64 0, .slice none 0 0, .slice none 0 0], []⟩ 8 (by kernel_rfl) (by kernel_rfl) (by kernel_rfl) (by kernel_rfl)) ?_
  intro W base args ds gs before hval0 hW _ hsz0 _
  have hval : ∀ (j : Nat) t v, Try.f3.params[j]? = some t → args[j]? = some v → Value.okWide Try.prog W .any base t v := hval0
  have hW1 : DataW.Whole enc Try.prog Try.f3.params.toList Rows.fnExactMergeBooksSpec.vars false W args.toList ds gs before := hW
  have hlt : ∀ p ∈ before, p.block < W.heap.size := fun p hp => by simpa using hW1.lt p hp
  have hW' := hW1
  obtain ⟨p, q, hA, hV, rfl, _, _⟩ := hW1
  obtain ⟨rfl, rfl⟩ := trodVars_none hV
  have hsz : (DataW.weightsEach Try.prog (Try.f3.params.toList ++ []) (ds ++ [])).all (· ≤ reachBytes) = true := hsz0
  rw [Try.params3] at hA hval hsz
  obtain ⟨v0, vs0, d0, ds0, p0, q0, hargs, rfl, rfl, h0, r0⟩ := trodAll_cons hA
  obtain ⟨v1, vs1, d1, ds1, p1, q1, rfl, rfl, rfl, h1, r1⟩ := trodAll_cons r0
  obtain ⟨v2, vs2, d2, ds2, p2, q2, rfl, rfl, rfl, h2, r2⟩ := trodAll_cons r1
  obtain ⟨rfl, rfl, rfl⟩ := trodAll_nil r2
  obtain rfl : args = #[v0, v1, v2] := by cases args; simp_all
  obtain ⟨z0, rfl, _, _, wz0⟩ := open_int Try.underlying3 (hval 0 _ _ rfl rfl) h0
  obtain ⟨f1, hf1⟩ := h1
  obtain ⟨b1, l1, cc1, rfl⟩ := okWide_slice Try.underlying22 (hval 1 _ _ rfl rfl)
  obtain ⟨a1, n1, c1, xs1, e1, I1⟩ := openNoteS hf1 (fun x hx => hlt x (by simp [hx])) (fun k hk => of_decide_eq_true (List.all_eq_true.1 hsz k (DataW.weights_mem_each (j := 1) rfl rfl k hk)))
  obtain ⟨rfl, rfl, rfl⟩ : b1 = a1 ∧ l1 = n1 ∧ cc1 = c1 := by simpa [Value.cells] using e1
  obtain ⟨f2, hf2⟩ := h2
  obtain ⟨b2, l2, cc2, rfl⟩ := okWide_slice Try.underlying22 (hval 2 _ _ rfl rfl)
  obtain ⟨a2, n2, c2, xs2, e2, I2⟩ := openNoteS hf2 (fun x hx => hlt x (by simp [hx])) (fun k hk => of_decide_eq_true (List.all_eq_true.1 hsz k (DataW.weights_mem_each (j := 2) rfl rfl k hk)))
  obtain ⟨rfl, rfl, rfl⟩ : b2 = a2 ∧ l2 = n2 ∧ cc2 = c2 := by simpa [Value.cells] using e2
  refine (FnExactMergeBooks_walk z0 b1 l1 cc1 xs1 b2 l2 cc2 xs2 W (i64_of_wf wz0) I1 I2).mono fun e W' ⟨he, hb⟩ => ?_
  exact ⟨_, he, post_law hW' rfl rfl rfl (by rw [Try.params3]; intro t ht; simp at ht; rcases ht with rfl | rfl | rfl <;> exact ⟨by kernel_rfl, of_decide_eq_true (by kernel_rfl)⟩) hb⟩

set_option maxRecDepth 100000 in
set_option maxHeartbeats 16000000 in
theorem FnExactMergeBooks_holds : Rows.FnExactMergeBooksSaid := by
  refine OpenClaim.holds_of_wide 3 Try.f3 rfl rfl rfl rfl rfl rfl rfl ⟨rfl, rfl, rfl, rfl, rfl⟩ rfl rfl rfl rfl rfl ?h1 Try.func3 ?h2 (of_decide_eq_true ?h3) ?h4 (fun os started H enc _ => FnExactMergeBooks_lifted os started H enc)
  case h1 => as_aux_lemma => kernel_rfl
  case h2 => as_aux_lemma => kernel_rfl
  case h3 => as_aux_lemma => kernel_rfl
  case h4 => as_aux_lemma => (unfold Func.isWrapper; first | (rw [if_pos (by decide +kernel)]; kernel_rfl) | (rw [if_neg (by decide +kernel)]; exact ⟨rfl, rfl⟩))

end Go.Proofs.Ytjnbdgldpmmamaa
