/-
  A region that draws its order and has a last operation t, for which all others wait: a condition S on the world is asked behind every operation but t.
-/
import Derived.Test.YtpflnmejbialjaaGreatDoorVVoc
import Derived.OrdersHeld
import Derived.Deep.RegionHeld3
/-
  A region that draws its order and has a last operation t, for which all others wait: a condition S on the world is asked behind every operation but t.
-/
namespace Go.Proofs.YtpflnmejbialjaaGreatDoor
set_option linter.unusedSimpArgs false
set_option linter.unusedVariables false
open Go.RowKit

section
variable {P : Program} {ops : Array Oper} {Q : Exit → Act → World → Prop} {md : Region.Mode} {S : World → Prop} {t : Nat}

/-- does t wait for i, by way of others too -/
def anc (md : Region.Mode) (ops : Array Oper) (i : Nat) : Nat → Nat → Bool
  | 0, _ => false
  | f + 1, t => match ops[t]? with
    | some o => o.after.any fun e => Region.binds md e && (e.on == i || anc md ops i f e.on)
    | none => false

/-- what has come up waits for nothing that hasn't -/
def Closed (md : Region.Mode) (ops : Array Oper) (l : Array Bool) : Prop :=
  ∀ j o, ops[j]? = some o → l.getD j false = true → ∀ e ∈ o.after, Region.binds md e = true → l.getD e.on false = true

theorem anc_listed {i : Nat} {l : Array Bool} (hc : Closed md ops l) : ∀ (f t : Nat) (o : Oper), ops[t]? = some o → anc md ops i f t = true →
    (∀ e ∈ o.after, Region.binds md e = true → l.getD e.on false = true) → l.getD i false = true
  | 0, _, _, _, h, _ => by cases h
  | f + 1, t, o, ho, h, hall => by
    unfold anc at h
    rw [ho] at h
    obtain ⟨e, he, hb⟩ := Array.any_eq_true'.1 h
    simp only [Bool.and_eq_true, Bool.or_eq_true, beq_iff_eq] at hb
    have hl := hall e he hb.1
    rcases hb.2 with e1 | e1
    · rw [← e1]; exact hl
    · cases ho' : ops[e.on]? with
      | none =>
        cases f with
        | zero => cases e1
        | succ f =>
          unfold anc at e1
          rw [ho'] at e1
          cases e1
      | some o' => exact anc_listed hc f e.on o' ho' e1 (hc e.on o' ho' hl)

theorem Closed.set {l : Array Bool} {j : Nat} (hc : Closed md ops l) (hj : j ∈ Region.ready md ops l) : Closed md ops (l.setIfInBounds j true) := by
  obtain ⟨_, oj, hoj, hall⟩ := mem_ready.1 hj
  intro k o ho hl e he hb
  by_cases hjk : j = k
  · subst hjk
    have : o = oj := Option.some.inj (ho.symm.trans hoj)
    subst this
    exact getD_set_true (hall e he hb)
  · rw [getD_set_ne false hjk] at hl
    exact getD_set_true (hc k o ho hl e he hb)

theorem Closed.none (n : Nat) : Closed md ops (Array.replicate n false) := by
  intro j o _ hl
  by_cases h : j < n <;> simp [h] at hl

theorem not_ready {i : Nat} {l : Array Bool} {f : Nat} (hc : Closed md ops l) (ha : anc md ops i f t = true) (hi : i ∈ Region.ready md ops l) : t ∉ Region.ready md ops l := by
  intro ht
  obtain ⟨_, o, ho, hall⟩ := mem_ready.1 ht
  have h1 := anc_listed hc f t o ho ha hall
  have h2 := (mem_ready.1 hi).1
  by_cases hlt : i < l.size
  · simp [hlt] at h1 h2
    rw [h1] at h2
    cases h2
  · simp [hlt] at h1

/-- whatever order is picked; S holds behind each operation but t -/
def wpAnyT (P : Program) (md : Region.Mode) (ops : Array Oper) (Q : Exit → Act → World → Prop) (S : World → Prop) (t : Nat) : Nat → Array Bool → Act → World → Prop
  | 0, l, a, w => Region.ready md ops l = [] ∧ Q .normal a w
  | f + 1, l, a, w => (Region.ready md ops l = [] → Q .normal a w) ∧ ∀ i ∈ Region.ready md ops l, wpOp P ops Q i (fun a' w' => (i ≠ t → S w') ∧ wpAnyT P md ops Q S t f (l.setIfInBounds i true) a' w') a w

theorem wpAny_of_T : ∀ (f : Nat) (l : Array Bool) (a : Act) (w : World), wpAnyT P md ops Q S t f l a w → wpAny P md ops Q f l a w
  | 0, _, _, _, h => h
  | f + 1, _, _, _, h => ⟨h.1, fun i hi => wpOp_mono (fun a' w' h' => wpAny_of_T f _ a' w' h'.2) (h.2 i hi)⟩

theorem wpAnyT_first {i : Nat} {oi : Oper} {v : Value} {fa : Nat} (hi : ops[i]? = some oi) (hsel : ∀ (j : Nat) (o : Oper) cs b, ops[j]? = some o → o.op ≠ .select cs b)
    (hQ : ∀ c a w, Q (.panic c) (a.put oi.dst v) w → Q (.panic c) a w) (ha : anc md ops i fa t = true) :
    ∀ (f : Nat) (l : Array Bool) (a : Act) (w : World), Closed md ops l →
      (∀ j oj, ops[j]? = some oj → j ≠ i → l.getD j true = false → (∀ e ∈ oj.after, Region.binds md e = true → e.on ≠ i) → oi.apart ops oj = true) →
      i ∈ Region.ready md ops l → YieldsIf P ops S oi v a → S w → wpAnyT P md ops Q S t f (l.setIfInBounds i true) (a.put oi.dst v) w → wpAnyT P md ops Q S t (f + 1) l a w
  | f, l, a, w, hc, hfree, hr, hy, hS, H => by
    refine ⟨fun h => (by rw [h] at hr; cases hr), fun j hj => ?_⟩
    by_cases hji : j = i
    · subst hji
      exact hy.wpOp hi hS ⟨fun _ => hS, H⟩
    · have hjt : j ≠ t := fun e => not_ready hc ha hr (e ▸ hj)
      cases f with
      | zero =>
        have := ready_mono hj hji
        rw [H.1] at this
        cases this
      | succ f =>
        obtain ⟨hjun, oj, hoj, hall⟩ := mem_ready.1 hj
        have hun := (mem_ready.1 hr).1
        have hnot : ∀ e ∈ oj.after, Region.binds md e = true → e.on ≠ i := by
          intro e he hb heq
          have h1 := hall e he hb
          rw [heq] at h1
          by_cases hlt : i < l.size
          · simp [hlt] at hun h1
            rw [hun] at h1
            cases h1
          · simp [hlt] at hun
        have h2 := wpOp_putIf hoj (hfree j oj hoj hji hjun hnot) (fun cs b => hsel i oi cs b hi) (fun cs b => hsel j oj cs b hoj) hQ hy (H.2 j (ready_mono hj hji))
        refine wpOp_mono (fun a' w' h3 => ⟨h3.2.1, wpAnyT_first hi hsel hQ ha f (l.setIfInBounds j true) a' w' (hc.set hj) ?_ (ready_mono hr (Ne.symm hji)) h3.1 (h3.2.1 hjt) ?_⟩) h2
        · intro k ok hk hki hkun hno
          refine hfree k ok hk hki ?_ hno
          by_cases hjk : j = k
          · subst hjk; exact hjun
          · rw [getD_set_ne true hjk] at hkun; exact hkun
        · rw [Array.setIfInBounds_comm _ _ hji]
          exact h3.2.2

/-- The walk's own form: the state and what has come up so far, that it is closed. -/
def AtT (P : Program) (md : Region.Mode) (ops : Array Oper) (Q : Exit → Act → World → Prop) (S : World → Prop) (t f : Nat) (l : Array Bool) (a : Act) (w : World) : Prop :=
  Closed md ops l → wpAnyT P md ops Q S t f l a w

theorem AtT.start {id : Nat} {a : Act} {w : World} (t : Nat) (hm : P.follows .mixedOrders = true) (h : AtT P .any ops Q S t ops.size (Array.replicate ops.size false) a w.drew) : (Code.region id ops true).wp P Q a w :=
  wp_region_any hm (wpAny_of_T _ _ _ _ (h (Closed.none _)))

theorem AtT.take {i : Nat} {oi : Oper} {v : Value} {f : Nat} {l : Array Bool} {a : Act} {w : World} (hi : ops[i]? = some oi)
    (hs : Region.noSelect ops = true) (hf : Region.free md ops l i = true) (hr : (Region.ready md ops l).contains i = true) (ha : anc md ops i ops.size t = true)
    (hQ : ∀ c a w, Q (.panic c) (a.put oi.dst v) w → Q (.panic c) a w) (hy : YieldsIf P ops S oi v a) (hS : S w)
    (h : AtT P md ops Q S t f (l.setIfInBounds i true) (a.put oi.dst v) w) : AtT P md ops Q S t (f + 1) l a w := fun hc =>
  have hr' : i ∈ Region.ready md ops l := by simpa using hr
  wpAnyT_first hi (Region.noSelect_spec hs) hQ ha f l a w hc (Region.free_spec hi hf) hr' hy hS (h (hc.set hr'))

theorem AtT.taked {i : Nat} {oi : Oper} {v : Value} {f : Nat} {l : Array Bool} {a : Act} {w : World} (d : Option Tmp) (hi : ops[i]? = some oi) (hd : oi.dst = d)
    (hs : Region.noSelect ops = true) (hf : Region.free md ops l i = true) (hr : (Region.ready md ops l).contains i = true) (ha : anc md ops i ops.size t = true)
    (hQ : ∀ c a w, Q (.panic c) (a.put d v) w → Q (.panic c) a w) (hy : YieldsIf P ops S oi v a) (hS : S w)
    (h : AtT P md ops Q S t f (l.setIfInBounds i true) (a.put d v) w) : AtT P md ops Q S t (f + 1) l a w := by
  subst hd
  exact AtT.take hi hs hf hr ha hQ hy hS h

/-- a region's way on, that no tactic looks into -/
def ShutT (p : Prop) : Prop := p
theorem ShutT.out {p : Prop} (h : ShutT p) : p := h

/-- one operation alone may come up -/
theorem AtT.only {i : Nat} {o : Oper} {f : Nat} {l : Array Bool} {a : Act} {w : World} (hr : Region.ready md ops l = [i]) (ho : ops[i]? = some o) (hit : (i == t) = false)
    (h : ∀ K' : Act → World → Prop, ShutT (∀ a w, S w → AtT P md ops Q S t f (l.setIfInBounds i true) a w → K' a w) → if Region.wanted o (yielded ops a.tmps) = true then Oper.wp P o a w K' Q else K' (a.put o.dst undef) w) : AtT P md ops Q S t (f + 1) l a w := fun hc => by
  have hri : i ∈ Region.ready md ops l := by rw [hr]; simp
  refine ⟨fun h0 => (by rw [h0] at hr; cases hr), fun j hj => ?_⟩
  rw [hr] at hj
  obtain rfl : j = i := by simpa using hj
  exact wpOp_step ho fun K' hK => h K' fun a w hS hA => hK a w ⟨fun _ => hS, hA (hc.set hri)⟩

/-- one of two may come up -/
theorem AtT.two {i j : Nat} {oi oj : Oper} {f : Nat} {l : Array Bool} {a : Act} {w : World} (hr : Region.ready md ops l = [i, j]) (hoi : ops[i]? = some oi) (hoj : ops[j]? = some oj) (hit : (i == t) = false) (hjt : (j == t) = false)
    (h1 : ∀ K' : Act → World → Prop, ShutT (∀ a w, S w → AtT P md ops Q S t f (l.setIfInBounds i true) a w → K' a w) → if Region.wanted oi (yielded ops a.tmps) = true then Oper.wp P oi a w K' Q else K' (a.put oi.dst undef) w)
    (h2 : ∀ K' : Act → World → Prop, ShutT (∀ a w, S w → AtT P md ops Q S t f (l.setIfInBounds j true) a w → K' a w) → if Region.wanted oj (yielded ops a.tmps) = true then Oper.wp P oj a w K' Q else K' (a.put oj.dst undef) w) : AtT P md ops Q S t (f + 1) l a w := fun hc => by
  have hri : i ∈ Region.ready md ops l := by rw [hr]; simp
  have hrj : j ∈ Region.ready md ops l := by rw [hr]; simp
  refine ⟨fun h0 => (by rw [h0] at hr; cases hr), fun k hk => ?_⟩
  rw [hr] at hk
  rcases (by simpa using hk : k = i ∨ k = j) with rfl | rfl
  · exact wpOp_step hoi fun K' hK => h1 K' fun a w hS hA => hK a w ⟨fun _ => hS, hA (hc.set hri)⟩
  · exact wpOp_step hoj fun K' hK => h2 K' fun a w hS hA => hK a w ⟨fun _ => hS, hA (hc.set hrj)⟩

/-- the last operation -/
theorem AtT.last {o : Oper} {f : Nat} {l : Array Bool} {a : Act} {w : World} (hr : Region.ready md ops l = [t]) (ho : ops[t]? = some o) (hd : Region.ready md ops (l.setIfInBounds t true) = [])
    (h : ∀ K' : Act → World → Prop, ShutT (∀ a w, Q .normal a w → K' a w) → if Region.wanted o (yielded ops a.tmps) = true then Oper.wp P o a w K' Q else K' (a.put o.dst undef) w) : AtT P md ops Q S t (f + 1) l a w := fun _ => by
  refine ⟨fun h0 => (by rw [h0] at hr; cases hr), fun j hj => ?_⟩
  rw [hr] at hj
  obtain rfl : j = t := by simpa using hj
  refine wpOp_step ho fun K' hK => h K' fun a w hq => hK a w ⟨fun e => absurd rfl e, ?_⟩
  cases f with
  | zero => exact ⟨hd, hq⟩
  | succ f => exact ⟨fun _ => hq, by rw [hd]; simp⟩

end
end Go.Proofs.YtpflnmejbialjaaGreatDoor
