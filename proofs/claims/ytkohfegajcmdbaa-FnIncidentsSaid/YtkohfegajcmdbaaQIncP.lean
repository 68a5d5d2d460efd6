/-
  Plain laws for incidents: what an action leaves; what burns, what has burned out.
-/
import Derived.Test.YtkohfegajcmdbaaQRunA
import Derived.Test.YtkohfegajcmdbaaQLawV
/-
  Plain laws for incidents: what an action leaves; what burns, what has burned out.
-/
namespace Go.Proofs.Ytkohfegajcmdbaa
set_option linter.unusedSimpArgs false
set_option linter.unusedVariables false
open Go.RowKit

def spentL (n : Nat) (fs : List Int) : List Int := cellsN n fun c => decide (fs.getD c 0 < 0)
theorem okC_iff {xs fs ws : List Int} {c : Nat} : okC xs fs ws c = true ↔ (xs.getD c 0 = 0 → fs.getD c 0 = 0) ∧ (-1 ≤ fs.getD c 0 ∧ fs.getD c 0 ≤ xs.getD c 0) ∧ 0 ≤ ws.getD c 0 ∧ ws.getD c 0 ≤ 5 := by
  unfold okC inB
  simp only [Bool.and_eq_true, Bool.not_eq_true', Bool.and_eq_false_iff, decide_eq_true_eq, beq_eq_false_iff_ne, bne_eq_false_iff_eq, ne_eq]
  constructor
  · rintro ⟨⟨h1, h2⟩, h3⟩
    exact ⟨fun h => h1.resolve_left (fun h4 => h4 h), h2, h3⟩
  · rintro ⟨h1, h2, h3⟩
    refine ⟨⟨?_, h2⟩, h3⟩
    by_cases h : xs.getD c 0 = 0
    · exact .inr (h1 h)
    · exact .inl h
theorem incB_of {W H : Int} {xs fs ws : List Int} {t : Int} (h1 : goodB 20 W H xs = true) (h2 : fs.length = xs.length) (h3 : ws.length = xs.length) (h4 : 0 ≤ t ∧ t ≤ 9999) (h5 : ∀ c, c < xs.length → okC xs fs ws c = true) : incB W H xs fs ws t = true := by
  unfold incB
  simp only [Bool.and_eq_true, decide_eq_true_eq, List.all_eq_true, List.mem_range]
  exact ⟨⟨⟨⟨h1, h2⟩, h3⟩, by unfold inB; exact decide_eq_true h4⟩, h5⟩
theorem goodB_set0 {W H : Int} {xs : List Int} {c : Nat} (h : goodB 20 W H xs = true) : goodB 20 W H (xs.set c 0) = true := by
  unfold goodB at h ⊢
  simp only [Bool.and_eq_true, List.all_eq_true, List.length_set] at h ⊢
  refine ⟨h.1, fun x hx => ?_⟩
  rcases List.mem_or_eq_of_mem_set hx with hx | rfl
  · exact h.2 x hx
  · rfl
theorem getD_setI {xs : List Int} {k c : Nat} {v : Int} (hk : k < xs.length) : (xs.set k v).getD c 0 = if c = k then v else xs.getD c 0 := by
  rw [List.getD_eq_getElem?_getD, List.getD_eq_getElem?_getD, List.getElem?_set]
  by_cases h : k = c
  · subst h; simp [hk]
  · rw [if_neg h, if_neg (fun e => h e.symm)]
/-- an incident stays one -/
theorem act_inc {W H : Int} {xs fs ws : List Int} {t k cc : Int} (hi : incB W H xs fs ws t = true) (ha : actionB xs.length k cc = true) (ho : (actI xs.length ⟨W, H, xs, fs, ws, t⟩ k cc.toNat).ok = true) :
    incB W H (actI xs.length ⟨W, H, xs, fs, ws, t⟩ k cc.toNat).i.xs (actI xs.length ⟨W, H, xs, fs, ws, t⟩ k cc.toNat).i.fs (actI xs.length ⟨W, H, xs, fs, ws, t⟩ k cc.toNat).i.ws (actI xs.length ⟨W, H, xs, fs, ws, t⟩ k cc.toNat).i.t = true ∧
    (actI xs.length ⟨W, H, xs, fs, ws, t⟩ k cc.toNat).i.W = W ∧ (actI xs.length ⟨W, H, xs, fs, ws, t⟩ k cc.toNat).i.H = H ∧ (actI xs.length ⟨W, H, xs, fs, ws, t⟩ k cc.toNat).i.xs.length = xs.length := by
  obtain ⟨hg, hf, hw, ht, hc⟩ := incB_true hi
  rcases actionB_cases ha with rfl | ⟨hk, m, rfl, hm⟩
  · simp only [actI, if_true, decide_eq_true_eq] at ho ⊢
    refine ⟨incB_of hg (by rw [fireT_length]) (by rw [wetT_length]) (by omega) (fun c hcl => ?_), by first | rfl | trivial, by first | rfl | trivial, by first | rfl | trivial⟩
    have h1 := okC_iff.1 (hc c hcl)
    rw [okC_iff, fireT_get hcl]
    have h2 : (wetT xs.length ws).getD c 0 = max 0 (ws.getD c 0 - 1) := by simp [wetT, wet1, List.getD, hcl]
    rw [h2]
    unfold fire2
    by_cases hb : thrN W.toNat xs.length xs fs ws c = true
    · have h3 := thrN_fire hb
      rw [if_neg (by omega), if_neg (by omega), if_pos hb]
      omega
    · rw [if_neg hb]
      split
      · omega
      · split <;> omega
  · have hk1 : ¬ k = 1 := by omega
    rcases hk with rfl | rfl
    · simp only [actI, if_neg hk1, if_true, Int.toNat_natCast, Bool.and_eq_true, beq_iff_eq] at ho ⊢
      refine ⟨incB_of (goodB_set0 hg) (by rw [List.length_set]; exact hf) (by rw [List.length_set]; exact hw) ht (fun c hcl => ?_), by first | rfl | trivial, by first | rfl | trivial, by rw [List.length_set]⟩
      rw [List.length_set] at hcl
      have h1 := okC_iff.1 (hc c hcl)
      rw [okC_iff, getD_setI hm]
      split
      · rename_i e
        subst e
        omega
      · exact h1
    · simp only [actI, if_neg hk1, Int.toNat_natCast, Bool.and_eq_true, decide_eq_true_eq, show ¬ (3 : Int) = 2 by decide, if_false] at ho ⊢
      refine ⟨incB_of hg hf (by rw [List.length_set]; exact hw) ht (fun c hcl => ?_), by first | rfl | trivial, by first | rfl | trivial, by first | rfl | trivial⟩
      have h1 := okC_iff.1 (hc c hcl)
      rw [okC_iff, getD_setI (by omega)]
      split
      · omega
      · exact h1
theorem actI_fs {n : Nat} {s : IncI} {k : Int} {c : Nat} : (actI n s k c).i.fs = if k = 1 then fireT s.W.toNat n s.xs s.fs s.ws else s.fs := by
  unfold actI
  split
  · rfl
  · split <;> rfl
theorem spent_act {n : Nat} {s : IncI} {k : Int} {c : Nat} : withinV (spentL n s.fs) (spentL n (actI n s k c).i.fs) = true := by
  rw [withinV_iff]
  intro x hx
  obtain ⟨d, rfl, h2, h3⟩ := cellsN_mem.1 hx
  refine cellsN_mem.2 ⟨d, rfl, h2, ?_⟩
  rw [actI_fs]
  split
  · have h4 : s.fs.getD d 0 < 0 := by simpa using h3
    rw [fireT_get h2]
    unfold fire2
    rw [if_neg (by omega), if_neg (by omega), if_neg (fun h => by have := thrN_fire h; omega)]
    simpa using h4
  · exact h3
theorem burn_act {n : Nat} {s : IncI} {k : Int} {c : Nat} : ∀ x ∈ burnL n (actI n s k c).i.fs, hasV (burnL n s.fs) x = true ∨ (k = 1 ∧ hasV (cellsN n (thrN s.W.toNat n s.xs s.fs s.ws)) x = true) := by
  intro x hx
  obtain ⟨d, rfl, h2, h3⟩ := cellsN_mem.1 hx
  have h4 : 0 < (actI n s k c).i.fs.getD d 0 := by simpa using h3
  rw [actI_fs] at h4
  split at h4
  · rename_i hk
    rw [fireT_get h2] at h4
    unfold fire2 at h4
    by_cases hb : thrN s.W.toNat n s.xs s.fs s.ws d = true
    · exact .inr ⟨hk, hasV_iff.2 (cellsN_mem.2 ⟨d, rfl, h2, hb⟩)⟩
    · rw [if_neg hb] at h4
      refine .inl (hasV_iff.2 (cellsN_mem.2 ⟨d, rfl, h2, decide_eq_true ?_⟩))
      split at h4
      · omega
      · split at h4 <;> omega
  · exact .inl (hasV_iff.2 (cellsN_mem.2 ⟨d, rfl, h2, by simpa using h4⟩))
theorem thr_act {n : Nat} {s : IncI} {c : Nat} : withinV (cellsN n (thrN s.W.toNat n s.xs s.fs s.ws)) (burnL n (actI n s 1 c).i.fs) = true := by
  rw [withinV_iff]
  intro x hx
  obtain ⟨d, rfl, h2, h3⟩ := cellsN_mem.1 hx
  refine cellsN_mem.2 ⟨d, rfl, h2, ?_⟩
  have h4 := thrN_fire h3
  rw [actI_fs, if_pos rfl, fireT_get h2]
  unfold fire2
  rw [if_neg (by omega), if_neg (by omega), if_pos h3]
  simpa using h4.2
theorem tickN_shift {W n : Nat} {xs : List Int} {s : FW} : ∀ k, tickN W n xs (k + 1) s = tickN W n xs k (tickF W n xs s)
  | 0 => rfl
  | k + 1 => by
    have := tickN_shift (W := W) (n := n) (xs := xs) (s := s) k
    show tickF W n xs (tickN W n xs (k + 1) s) = tickF W n xs (tickN W n xs k (tickF W n xs s))
    rw [this]
theorem rest_burn {W n : Nat} {xs : List Int} : ∀ {m : Nat} {s : FW} {i : Nat}, i < restK W n xs m s → burnL n (tickN W n xs i s).f ≠ []
  | 0, s, i, h => by cases h
  | m + 1, s, i, h => by
    by_cases hb : burnL n s.f = []
    · rw [restK_done hb] at h
      cases h
    · rw [restK_step hb] at h
      cases i with
      | zero => exact hb
      | succ i =>
        rw [tickN_shift]
        exact rest_burn (m := m) (by omega)
theorem rest_end {W n : Nat} {xs : List Int} : ∀ {m : Nat} {s : FW}, phi xs s.f n < m → burnL n (tickN W n xs (restK W n xs m s) s).f = []
  | 0, s, h => by cases h
  | m + 1, s, h => by
    by_cases hb : burnL n s.f = []
    · rw [restK_done hb]
      exact hb
    · rw [restK_step hb, tickN_shift]
      have := tick_phi (W := W) (xs := xs) hb
      exact rest_end (m := m) (by omega)
theorem end_burn {W H : Int} {xs fs ws : List Int} {t : Int} (hi : incB W H xs fs ws t = true) : burnL xs.length (endF W.toNat xs.length xs fs ws).f = [] := by
  obtain ⟨Wn, Hn, rfl, rfl, hlf, hlw, hn0, h25, hW, ht, hxs, hfs, hws⟩ := incB_facts hi
  refine rest_end ?_
  have hx : ∀ c, xs.getD c 0 ≤ 20 := fun c => by
    by_cases hc : c < xs.length
    · exact (hxs _ (getD_mem hc)).2
    · simp [List.getD, List.getElem?_eq_none (Nat.le_of_not_lt hc)]
  have hf : ∀ c, fs.getD c 0 ≤ 20 := fun c => by
    by_cases hc : c < fs.length
    · exact hfs _ (getD_mem hc)
    · simp [List.getD, List.getElem?_eq_none (Nat.le_of_not_lt hc)]
  have := phi_bound hx hf xs.length
  show phi xs fs xs.length < 600
  omega
/-- an incident after so many ticks -/
theorem tick_inc {W H : Int} {xs fs ws : List Int} {t : Int} (hi : incB W H xs fs ws t = true) : ∀ i : Nat, t + i ≤ 9999 → incB W H xs (tickN W.toNat xs.length xs i ⟨fs, ws⟩).f (tickN W.toNat xs.length xs i ⟨fs, ws⟩).w (t + i) = true
  | 0, _ => by simpa [tickN] using hi
  | i + 1, h => by
    have ih := tick_inc hi i (by omega)
    have ha : actionB xs.length 1 0 = true := by simp [actionB]
    have ho : (actI xs.length ⟨W, H, xs, (tickN W.toNat xs.length xs i ⟨fs, ws⟩).f, (tickN W.toNat xs.length xs i ⟨fs, ws⟩).w, t + i⟩ 1 (0 : Int).toNat).ok = true := by
      simp only [actI, if_true]
      exact decide_eq_true (by omega)
    have := (act_inc ih ha ho).1
    simp only [actI, if_true] at this
    have e : t + ((i + 1 : Nat) : Int) = t + i + 1 := by omega
    rw [e]
    exact this
theorem cellsN_two {p q r : Nat → Bool} : ∀ n, (∀ c, c < n → r c = (p c || q c) ∧ ¬ (p c = true ∧ q c = true)) → (cellsN n r).length = (cellsN n p).length + (cellsN n q).length
  | 0, _ => rfl
  | n + 1, h => by
    have ih := cellsN_two (p := p) (q := q) (r := r) n (fun c hc => h c (by omega))
    obtain ⟨h1, h2⟩ := h n (by omega)
    rw [cellsN_succ, cellsN_succ, cellsN_succ, List.length_append, List.length_append, List.length_append, ih, h1]
    cases hp : p n <;> cases hq : q n
    · simp
    · simp; omega
    · simp; omega
    · exact absurd ⟨hp, hq⟩ h2
/-- at the end what has burned out and what is safe are all that burns -/
theorem end_count {W H : Int} {xs fs ws : List Int} {t : Int} (hi : incB W H xs fs ws t = true) (hb : burnL xs.length fs = []) : (spentL xs.length fs).length + (cellsN xs.length (safeC xs fs)).length = (cellsN xs.length (brn xs)).length := by
  obtain ⟨hg, hf, hw, ht, hc⟩ := incB_true hi
  refine (cellsN_two xs.length fun c hcl => ?_).symm
  have h1 := okC_iff.1 (hc c hcl)
  have h2 : ¬ 0 < fs.getD c 0 := fun h => by
    have : (c : Int) ∈ burnL xs.length fs := cellsN_mem.2 ⟨c, rfl, hcl, decide_eq_true h⟩
    rw [hb] at this
    cases this
  unfold safeC brn
  rw [Bool.eq_iff_iff]
  simp only [Bool.or_eq_true, Bool.and_eq_true, decide_eq_true_eq, beq_iff_eq]
  refine ⟨⟨fun h => ?_, fun h => ?_⟩, fun h => ?_⟩
  · by_cases h3 : fs.getD c 0 = 0
    · exact .inr ⟨h, h3⟩
    · exact .inl (by omega)
  · rcases h with h | h
    · by_cases h4 : xs.getD c 0 = 0
      · have := h1.1 h4; omega
      · obtain ⟨Wn, Hn, -, -, -, -, -, -, -, -, ha⟩ := goodB_true hg
        have := (ha _ (getD_mem hcl)).1
        omega
    · exact h.1
  · omega
end Go.Proofs.Ytkohfegajcmdbaa
