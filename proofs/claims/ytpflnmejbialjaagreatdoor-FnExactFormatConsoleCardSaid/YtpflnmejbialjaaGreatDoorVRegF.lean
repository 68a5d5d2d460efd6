/-
  A region that draws its order and has an operation t behind which the condition may fall; what only reckons need not wait for it, nor it for that.
-/
import Derived.Test.YtpflnmejbialjaaGreatDoorVRegA
import Derived.Test.YtpflnmejbialjaaGreatDoorVRd
/-
  A region that draws its order and has an operation t behind which the condition may fall; what only reckons need not wait for it, nor it for that.
-/
namespace Go.Proofs.YtpflnmejbialjaaGreatDoor
set_option linter.unusedSimpArgs false
set_option linter.unusedVariables false
open Go.RowKit

section
variable {P : Program} {ops : Array Oper} {Q : Exit → Act → World → Prop} {md : Region.Mode} {S : World → Prop} {t : Nat}

/-- whatever order is picked; S holds behind each operation until t has come up -/
def wpAnyF (P : Program) (md : Region.Mode) (ops : Array Oper) (Q : Exit → Act → World → Prop) (S : World → Prop) (t : Nat) : Nat → Array Bool → Act → World → Prop
  | 0, l, a, w => Region.ready md ops l = [] ∧ Q .normal a w
  | f + 1, l, a, w => (Region.ready md ops l = [] → Q .normal a w) ∧ ∀ i ∈ Region.ready md ops l, wpOp P ops Q i (fun a' w' => ((i ≠ t ∧ l.getD t false = false) → S w') ∧ wpAnyF P md ops Q S t f (l.setIfInBounds i true) a' w') a w

theorem wpAny_of_F : ∀ (f : Nat) (l : Array Bool) (a : Act) (w : World), wpAnyF P md ops Q S t f l a w → wpAny P md ops Q f l a w
  | 0, _, _, _, h => h
  | f + 1, _, _, _, h => ⟨h.1, fun i hi => wpOp_mono (fun a' w' h' => wpAny_of_F f _ a' w' h'.2) (h.2 i hi)⟩

theorem not_done {i : Nat} {l : Array Bool} {fa : Nat} (hc : Closed md ops l) (ha : anc md ops i fa t = true) (hi : i ∈ Region.ready md ops l) : l.getD t false = false := by
  cases ht : l.getD t false with
  | false => rfl
  | true =>
    exfalso
    have h2 := (mem_ready.1 hi).1
    have h1 : l.getD i false = true := by
      cases ho : ops[t]? with
      | none =>
        cases fa with
        | zero => cases ha
        | succ fa =>
          unfold anc at ha
          rw [ho] at ha
          cases ha
      | some o => exact anc_listed hc fa t o ho ha (hc t o ho ht)
    by_cases hlt : i < l.size
    · simp [hlt] at h1 h2
      rw [h1] at h2
      cases h2
    · simp [hlt] at h1
theorem done_set {l : Array Bool} {j : Nat} (hj : j ∈ Region.ready md ops l) : (l.setIfInBounds j true).getD j false = true := by
  have h2 := (mem_ready.1 hj).1
  by_cases hlt : j < l.size
  · simp [hlt]
  · simp [hlt] at h2

theorem wpAnyF_first {i : Nat} {oi : Oper} {v : Value} {S' : World → Prop} (hi : ops[i]? = some oi) (hsel : ∀ (j : Nat) (o : Oper) cs b, ops[j]? = some o → o.op ≠ .select cs b)
    (hQ : ∀ c a w, Q (.panic c) (a.put oi.dst v) w → Q (.panic c) a w) (hit : i ≠ t)
    (hS' : ∀ l w, Closed md ops l → i ∈ Region.ready md ops l → (l.getD t false = false → S w) → S' w) :
    ∀ (f : Nat) (l : Array Bool) (a : Act) (w : World), Closed md ops l →
      (∀ j oj, ops[j]? = some oj → j ≠ i → l.getD j true = false → (∀ e ∈ oj.after, Region.binds md e = true → e.on ≠ i) → oi.apart ops oj = true) →
      i ∈ Region.ready md ops l → YieldsIf P ops S' oi v a → (l.getD t false = false → S w) → wpAnyF P md ops Q S t f (l.setIfInBounds i true) (a.put oi.dst v) w → wpAnyF P md ops Q S t (f + 1) l a w
  | f, l, a, w, hc, hfree, hr, hy, hS, H => by
    refine ⟨fun h => (by rw [h] at hr; cases hr), fun j hj => ?_⟩
    by_cases hji : j = i
    · subst hji
      exact hy.wpOp hi (hS' l w hc hr hS) ⟨fun h => hS h.2, H⟩
    · cases f with
      | zero =>
        have := ready_mono hj hji
        rw [H.1] at this
        cases this
      | succ f =>
        obtain ⟨hjun, oj, hoj, hall⟩ := mem_ready.1 hj
        have hun := (mem_ready.1 hr).1
        have hnot : ∀ e ∈ oj.after, Region.binds md e = true → e.on ≠ i := by
          intro e he hb heq
          have h1 := hall e he hb
          rw [heq] at h1
          by_cases hlt : i < l.size
          · simp [hlt] at hun h1
            rw [hun] at h1
            cases h1
          · simp [hlt] at hun
        have h2 := wpOp_putIf hoj (hfree j oj hoj hji hjun hnot) (fun cs b => hsel i oi cs b hi) (fun cs b => hsel j oj cs b hoj) hQ hy (H.2 j (ready_mono hj hji))
        have hgt : (l.setIfInBounds i true).getD t false = l.getD t false := getD_set_ne false hit
        refine wpOp_mono (fun a' w' h3 => ⟨fun h => h3.2.1 ⟨h.1, by rw [hgt]; exact h.2⟩, wpAnyF_first hi hsel hQ hit hS' f (l.setIfInBounds j true) a' w' (hc.set hj) ?_ (ready_mono hr (Ne.symm hji)) h3.1 (fun h => ?_) ?_⟩) h2
        · intro k ok hk hki hkun hno
          refine hfree k ok hk hki ?_ hno
          by_cases hjk : j = k
          · subst hjk; exact hjun
          · rw [getD_set_ne true hjk] at hkun; exact hkun
        · by_cases hjt : j = t
          · subst hjt
            rw [done_set hj] at h
            cases h
          · rw [getD_set_ne false hjt] at h
            exact h3.2.1 ⟨hjt, by rw [hgt]; exact h⟩
        · rw [Array.setIfInBounds_comm _ _ hji]
          exact h3.2.2

def AtF (P : Program) (md : Region.Mode) (ops : Array Oper) (Q : Exit → Act → World → Prop) (S : World → Prop) (t f : Nat) (l : Array Bool) (a : Act) (w : World) : Prop :=
  Closed md ops l → wpAnyF P md ops Q S t f l a w
theorem AtF.start {id : Nat} {a : Act} {w : World} (t : Nat) (hm : P.follows .mixedOrders = true) (h : AtF P .any ops Q S t ops.size (Array.replicate ops.size false) a w.drew) : (Code.region id ops true).wp P Q a w :=
  wp_region_any hm (wpAny_of_F _ _ _ _ (h (Closed.none _)))
theorem AtF.taked {i : Nat} {oi : Oper} {v : Value} {f : Nat} {l : Array Bool} {a : Act} {w : World} (d : Option Tmp) (hi : ops[i]? = some oi) (hd : oi.dst = d)
    (hs : Region.noSelect ops = true) (hf : Region.free md ops l i = true) (hr : (Region.ready md ops l).contains i = true) (ha : anc md ops i ops.size t = true)
    (hQ : ∀ c a w, Q (.panic c) (a.put d v) w → Q (.panic c) a w) (hy : YieldsIf P ops S oi v a) (hS : S w) (hit : (i == t) = false)
    (h : AtF P md ops Q S t f (l.setIfInBounds i true) (a.put d v) w) : AtF P md ops Q S t (f + 1) l a w := fun hc => by
  subst hd
  have hr' : i ∈ Region.ready md ops l := by simpa using hr
  exact wpAnyF_first (S' := S) hi (Region.noSelect_spec hs) hQ (by simpa using hit) (fun l w hc hi hS => hS (not_done hc ha hi)) f l a w hc (Region.free_spec hi hf) hr' hy (fun _ => hS) (h (hc.set hr'))
theorem AtF.only {i : Nat} {o : Oper} {f : Nat} {l : Array Bool} {a : Act} {w : World} (hr : Region.ready md ops l = [i]) (ho : ops[i]? = some o) (hit : (i == t) = false)
    (h : ∀ K' : Act → World → Prop, ShutT (∀ a w, S w → AtF P md ops Q S t f (l.setIfInBounds i true) a w → K' a w) → if Region.wanted o (yielded ops a.tmps) = true then Oper.wp P o a w K' Q else K' (a.put o.dst undef) w) : AtF P md ops Q S t (f + 1) l a w := fun hc => by
  have hri : i ∈ Region.ready md ops l := by rw [hr]; simp
  refine ⟨fun h0 => (by rw [h0] at hr; cases hr), fun j hj => ?_⟩
  rw [hr] at hj
  obtain rfl : j = i := by simpa using hj
  exact wpOp_step ho fun K' hK => h K' fun a w hS hA => hK a w ⟨fun _ => hS, hA (hc.set hri)⟩
theorem AtF.two {i j : Nat} {oi oj : Oper} {f : Nat} {l : Array Bool} {a : Act} {w : World} (hr : Region.ready md ops l = [i, j]) (hoi : ops[i]? = some oi) (hoj : ops[j]? = some oj) (hit : (i == t) = false) (hjt : (j == t) = false)
    (h1 : ∀ K' : Act → World → Prop, ShutT (∀ a w, S w → AtF P md ops Q S t f (l.setIfInBounds i true) a w → K' a w) → if Region.wanted oi (yielded ops a.tmps) = true then Oper.wp P oi a w K' Q else K' (a.put oi.dst undef) w)
    (h2 : ∀ K' : Act → World → Prop, ShutT (∀ a w, S w → AtF P md ops Q S t f (l.setIfInBounds j true) a w → K' a w) → if Region.wanted oj (yielded ops a.tmps) = true then Oper.wp P oj a w K' Q else K' (a.put oj.dst undef) w) : AtF P md ops Q S t (f + 1) l a w := fun hc => by
  have hri : i ∈ Region.ready md ops l := by rw [hr]; simp
  have hrj : j ∈ Region.ready md ops l := by rw [hr]; simp
  refine ⟨fun h0 => (by rw [h0] at hr; cases hr), fun k hk => ?_⟩
  rw [hr] at hk
  rcases (by simpa using hk : k = i ∨ k = j) with rfl | rfl
  · exact wpOp_step hoi fun K' hK => h1 K' fun a w hS hA => hK a w ⟨fun _ => hS, hA (hc.set hri)⟩
  · exact wpOp_step hoj fun K' hK => h2 K' fun a w hS hA => hK a w ⟨fun _ => hS, hA (hc.set hrj)⟩
theorem AtF.three {i0 i1 i2 : Nat} {o0 o1 o2 : Oper} {f : Nat} {l : Array Bool} {a : Act} {w : World} (hr : Region.ready md ops l = [i0, i1, i2]) (h0 : ops[i0]? = some o0) (h1 : ops[i1]? = some o1) (h2 : ops[i2]? = some o2) (t0 : (i0 == t) = false) (t1 : (i1 == t) = false) (t2 : (i2 == t) = false)
    (k0 : ∀ K' : Act → World → Prop, ShutT (∀ a w, S w → AtF P md ops Q S t f (l.setIfInBounds i0 true) a w → K' a w) → if Region.wanted o0 (yielded ops a.tmps) = true then Oper.wp P o0 a w K' Q else K' (a.put o0.dst undef) w)
    (k1 : ∀ K' : Act → World → Prop, ShutT (∀ a w, S w → AtF P md ops Q S t f (l.setIfInBounds i1 true) a w → K' a w) → if Region.wanted o1 (yielded ops a.tmps) = true then Oper.wp P o1 a w K' Q else K' (a.put o1.dst undef) w)
    (k2 : ∀ K' : Act → World → Prop, ShutT (∀ a w, S w → AtF P md ops Q S t f (l.setIfInBounds i2 true) a w → K' a w) → if Region.wanted o2 (yielded ops a.tmps) = true then Oper.wp P o2 a w K' Q else K' (a.put o2.dst undef) w) : AtF P md ops Q S t (f + 1) l a w := fun hc => by
  have hri : i0 ∈ Region.ready md ops l := by rw [hr]; simp
  have hrj : i1 ∈ Region.ready md ops l := by rw [hr]; simp
  have hrk : i2 ∈ Region.ready md ops l := by rw [hr]; simp
  refine ⟨fun h0 => (by rw [h0] at hr; cases hr), fun k hk => ?_⟩
  rw [hr] at hk
  rcases (by simpa using hk : k = i0 ∨ k = i1 ∨ k = i2) with rfl | rfl | rfl
  · exact wpOp_step h0 fun K' hK => k0 K' fun a w hS hA => hK a w ⟨fun _ => hS, hA (hc.set hri)⟩
  · exact wpOp_step h1 fun K' hK => k1 K' fun a w hS hA => hK a w ⟨fun _ => hS, hA (hc.set hrj)⟩
  · exact wpOp_step h2 fun K' hK => k2 K' fun a w hS hA => hK a w ⟨fun _ => hS, hA (hc.set hrk)⟩
theorem AtF.last {o : Oper} {f : Nat} {l : Array Bool} {a : Act} {w : World} (hr : Region.ready md ops l = [t]) (ho : ops[t]? = some o) (hd : Region.ready md ops (l.setIfInBounds t true) = [])
    (h : ∀ K' : Act → World → Prop, ShutT (∀ a w, Q .normal a w → K' a w) → if Region.wanted o (yielded ops a.tmps) = true then Oper.wp P o a w K' Q else K' (a.put o.dst undef) w) : AtF P md ops Q S t (f + 1) l a w := fun _ => by
  refine ⟨fun h0 => (by rw [h0] at hr; cases hr), fun j hj => ?_⟩
  rw [hr] at hj
  obtain rfl : j = t := by simpa using hj
  refine wpOp_step ho fun K' hK => h K' fun a w hq => hK a w ⟨fun e => absurd rfl e.1, ?_⟩
  cases f with
  | zero => exact ⟨hd, hq⟩
  | succ f => exact ⟨fun _ => hq, by rw [hd]; simp⟩
end
section
variable {P : Program} {ops : Array Oper} {Q : Exit → Act → World → Prop} {B : Nat} {w0 w : World} {G G' : List Ent}
theorem AtF.startA {id : Nat} {a : Act} (hS : Mem B w0 w G') (hM : Mem B w0 w G) (t : Nat) (hm : P.follows .mixedOrders = true) (h : ∀ wd, Mem B w0 wd G → AtF P .any ops Q (fun w1 => Mem B w0 w1 G') t ops.size (Array.replicate ops.size false) a wd) : (Code.region id ops true).wp P Q a w :=
  AtF.start t hm (h _ hM.drew)
end
end Go.Proofs.YtpflnmejbialjaaGreatDoor
