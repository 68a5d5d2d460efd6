/-
  The law FnExactRunActions returns true for every input, and each argument reads afterwards as it read before.
  Conditions: none beyond those that the given row states.
-/
import Derived.Test.YtlmdckocjlogkaaExRunActions
import Derived.Test.YtlmdckocjlogkaaOpAction
import Derived.Test.YtlmdckocjlogkaaOpIncident
import Derived.Test.YtlmdckocjlogkaaWrap
namespace Go.Proofs.Ytlmdckocjlogkaa
set_option linter.unusedSimpArgs false
set_option linter.unusedVariables false
open Go.ChangeShapes Go.WideShapes Go.ChangeAt Go.RowKit Go.Joins

set_option maxRecDepth 100000 in
theorem FnExactRunActions_lifted (os : Os) (started : os.Started) (H : Type) (enc : TypeId × Value → H) :
    ReturnsInHanded {} Try.checked os 11 .any (Rows.fnExactRunActionsSpec.pre6 enc Try.prog Try.f11 Rows.fnExactRunActionsRow.domain false) (Rows.fnExactRunActionsSpec.post enc Try.prog Try.f11 false true false false) := by
  refine returnsInHanded_of_change_sized (C := Try.checked) Try.own started (by kernel_rfl) Try.func11
    (ChangeSpec.witness6 (enc := enc) (C := Try.checked) false ⟨#[], #[.agg #[.int .i64 0, .int .i64 0, .slice none 0 0, .slice none 0 0, .slice none 0 0, .int .i64 0], .slice none 0 0], []⟩ 8 (by kernel_rfl) (by kernel_rfl) (by kernel_rfl) (by kernel_rfl)) ?_
  intro W base args ds gs before hval0 hW _ hsz0 _
  have hval : ∀ (j : Nat) t v, Try.f11.params[j]? = some t → args[j]? = some v → Value.okWide Try.prog W .any base t v := hval0
  have hW1 : DataW.Whole enc Try.prog Try.f11.params.toList Rows.fnExactRunActionsSpec.vars false W args.toList ds gs before := hW
  have hlt : ∀ p ∈ before, p.block < W.heap.size := fun p hp => by simpa using hW1.lt p hp
  have hW' := hW1
  obtain ⟨p, q, hA, hV, rfl, _, _⟩ := hW1
  obtain ⟨rfl, rfl⟩ := trodVars_none hV
  have hsz : (DataW.weightsEach Try.prog (Try.f11.params.toList ++ []) (ds ++ [])).all (· ≤ reachBytes) = true := hsz0
  rw [Try.params11] at hA hval hsz
  obtain ⟨v0, vs0, d0, ds0, p0, q0, hargs, rfl, rfl, h0, r0⟩ := trodAll_cons hA
  obtain ⟨v1, vs1, d1, ds1, p1, q1, rfl, rfl, rfl, h1, r1⟩ := trodAll_cons r0
  obtain ⟨rfl, rfl, rfl⟩ := trodAll_nil r1
  obtain rfl : args = #[v0, v1] := by cases args; simp_all
  obtain ⟨W0, H0, a0_2, n0_2, c0_2, xs0_2, a0_3, n0_3, c0_3, xs0_3, a0_4, n0_4, c0_4, xs0_4, t0, rfl, iw0, ih0, I0_2, I0_3, I0_4, it0⟩ := openIncident (hval 0 _ _ rfl rfl) h0 (fun x hx => hlt x (by simp [hx])) (fun k hk => of_decide_eq_true (List.all_eq_true.1 hsz k (DataW.weights_mem_each (j := 0) rfl rfl k hk)))
  obtain ⟨f1, hf1⟩ := h1
  obtain ⟨b1, l1, cc1, rfl⟩ := okWide_slice Try.underlying61 (hval 1 _ _ rfl rfl)
  obtain ⟨a1, n1, c1, xs1, e1, I1⟩ := openActionS hf1 (fun x hx => hlt x (by simp [hx])) (fun k hk => of_decide_eq_true (List.all_eq_true.1 hsz k (DataW.weights_mem_each (j := 1) rfl rfl k hk)))
  obtain ⟨rfl, rfl, rfl⟩ : b1 = a1 ∧ l1 = n1 ∧ cc1 = c1 := by simpa [Value.cells] using e1
  refine (FnExactRunActions_walk W0 H0 a0_2 n0_2 c0_2 xs0_2 a0_3 n0_3 c0_3 xs0_3 a0_4 n0_4 c0_4 xs0_4 t0 b1 l1 cc1 xs1 W iw0 ih0 I0_2 I0_3 I0_4 it0 I1).mono fun e W' ⟨he, hb⟩ => ?_
  exact ⟨_, he, post_law hW' rfl rfl rfl (by rw [Try.params11]; intro t ht; simp at ht; rcases ht with rfl | rfl <;> exact ⟨by kernel_rfl, of_decide_eq_true (by kernel_rfl)⟩) hb⟩

theorem FnExactRunActions_holds : Rows.FnExactRunActionsSaid :=
  OpenClaim.holds_of_wide 11 Try.f11 rfl rfl rfl rfl rfl rfl rfl ⟨rfl, rfl, rfl, rfl, rfl⟩ rfl rfl rfl rfl rfl (by kernel_rfl) Try.func11 (by kernel_rfl)
    (of_decide_eq_true (by kernel_rfl)) (by unfold Func.isWrapper; first | (rw [if_pos (by decide +kernel)]; kernel_rfl) | (rw [if_neg (by decide +kernel)]; exact ⟨rfl, rfl⟩))
    (fun os started H enc _ => FnExactRunActions_lifted os started H enc)

#print axioms FnExactRunActions_holds
end Go.Proofs.Ytlmdckocjlogkaa
