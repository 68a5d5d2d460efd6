/-
  A search through what is left of a net, and the way back. Plain Lean, no program in sight.
-/
import Derived.Test.YtbgegmignhghnaaLFlowN
/-
  A search through what is left of a net, and the way back. Plain Lean, no program in sight.
-/
namespace Go.Proofs.Ytbgegmignhghnaa
set_option linter.unusedSimpArgs false
set_option linter.unusedVariables false

/-- what is found, in order, and whence; cl: the pairs that have been looked at -/
structure BS (N s : Nat) (left : Nat → Nat → Int) (fr : List Int) (h : List Nat) (cl : Nat → Nat → Prop) : Prop where
  len : fr.length = N
  nd : h.Nodup
  lt : ∀ c ∈ h, c < N
  smem : s ∈ h
  yes : ∀ c, c < N → (0 ≤ fr.getD c 0 ↔ c ∈ h)
  par : ∃ rk : Nat → Nat, ∀ c ∈ h, rk c < h.length ∧ (c ≠ s → ∃ p : Nat, fr.getD c 0 = p ∧ p ∈ h ∧ p ≠ c ∧ rk p < rk c ∧ 0 < left p c)
  closed : ∀ a b, cl a b → b < N → 0 < left a b → b ∈ h
section
variable {N s t : Nat} {left cap : Nat → Nat → Int} {fr : List Int} {h : List Nat} {cl cl' : Nat → Nat → Prop} {v : Int}
theorem getD_setB {xs : List Int} {k c : Nat} {y : Int} (hk : k < xs.length) : (xs.set k y).getD c 0 = if c = k then y else xs.getD c 0 := by
  rw [List.getD_eq_getElem?_getD, List.getD_eq_getElem?_getD, List.getElem?_set]
  by_cases e : k = c
  · subst e; simp [hk]
  · rw [if_neg e, if_neg (fun e2 => e e2.symm)]
theorem BS.start (hs : s < N) : BS N s left ((List.replicate N (-1)).set s s) [s] (fun _ _ => False) := by
  have hl : s < (List.replicate N (-1 : Int)).length := by simpa using hs
  refine ⟨by simp, by simp, by simpa using hs, by simp, fun c hc => ?_, ⟨fun _ => 0, fun c hc => ⟨by simp, fun hne => absurd (List.mem_singleton.1 hc) hne⟩⟩, fun _ _ h => h.elim⟩
  rw [getD_setB hl]
  by_cases e : c = s
  · subst e; simp
  · rw [if_neg e]
    simp [List.getD, hc, e]
theorem BS.to (hb : BS N s left fr h cl) (hc : ∀ a b, cl' a b → b < N → 0 < left a b → b ∈ h) : BS N s left fr h cl' := ⟨hb.len, hb.nd, hb.lt, hb.smem, hb.yes, hb.par, hc⟩
theorem BS.add (hb : BS N s left fr h cl) {k a : Nat} (hk : k < N) (hn : fr.getD k 0 < 0) (ha : a ∈ h) (hl : 0 < left a k) : BS N s left (fr.set k a) (h ++ [k]) cl := by
  have hkh : k ∉ h := fun e => by have := (hb.yes k hk).2 e; omega
  have hkf : k < fr.length := by rw [hb.len]; exact hk
  refine ⟨by rw [List.length_set]; exact hb.len, ?_, ?_, by simp [hb.smem], fun c hc => ?_, ?_, fun x y hx hy h2 => by simp [hb.closed x y hx hy h2]⟩
  · rw [List.nodup_append]
    refine ⟨hb.nd, by simp, fun x hx y hy e => ?_⟩
    rw [List.mem_singleton.1 hy] at e
    exact hkh (e ▸ hx)
  · intro c hc
    rcases List.mem_append.1 hc with hc | hc
    · exact hb.lt c hc
    · rw [List.mem_singleton.1 hc]; exact hk
  · rw [getD_setB hkf]
    by_cases e : c = k
    · subst e; simp
    · rw [if_neg e, hb.yes c hc]
      simp [e]
  · obtain ⟨rk, hrk⟩ := hb.par
    refine ⟨fun c => if c = k then h.length else rk c, fun c hc => ?_⟩
    have hne : ∀ c ∈ h, c ≠ k := fun c hc e => hkh (e ▸ hc)
    rcases List.mem_append.1 hc with hc | hc
    · obtain ⟨h1, h2⟩ := hrk c hc
      dsimp only
      rw [if_neg (hne c hc)]
      refine ⟨by rw [List.length_append]; simp; omega, fun hs => ?_⟩
      obtain ⟨p, e1, e2, e3, e4, e5⟩ := h2 hs
      exact ⟨p, by rw [getD_setB hkf, if_neg (hne c hc)]; exact e1, by simp [e2], e3, by rw [if_neg (hne p e2)]; exact e4, e5⟩
    · obtain rfl := List.mem_singleton.1 hc
      dsimp only
      rw [if_pos rfl]
      refine ⟨by simp, fun _ => ⟨a, by rw [getD_setB hkf, if_pos rfl], by simp [ha], hne a ha, ?_, hl⟩⟩
      rw [if_neg (hne a ha)]
      exact (hrk a ha).1
theorem nodup_le : ∀ {N : Nat} {h : List Nat}, h.Nodup → (∀ c ∈ h, c < N) → h.length ≤ N
  | 0, h, _, hl => by
    cases h with
    | nil => exact Nat.le_refl _
    | cons x h => exact absurd (hl x (by simp)) (by omega)
  | N + 1, h, hn, hl => by
    have h1 := nodup_le (N := N) (h := h.erase N) (hn.erase N) (fun c hc => by
      have h2 := hl c (List.mem_of_mem_erase hc)
      have h3 : c ≠ N := fun e => by
        subst e
        exact (List.Nodup.not_mem_erase hn) hc
      omega)
    have h2 : h.length ≤ (h.erase N).length + 1 := by
      rw [List.length_erase]
      split <;> omega
    omega
theorem BS.len_le (hb : BS N s left fr h cl) : h.length ≤ N := nodup_le hb.nd hb.lt
/-- nothing more is found: a cut -/
theorem BS.cut (hb : BS N s left fr h (fun a _ => a ∈ h)) {S : Nat → Bool} (hS : ∀ a, S a = decide (a ∈ h)) : ∀ a b, a < N → b < N → S a = true → S b = false → ¬ 0 < left a b := by
  intro a b _ hbN ha hb' hl
  rw [hS, decide_eq_true_iff] at ha
  rw [hS, decide_eq_false_iff_not] at hb'
  exact hb' (hb.closed a b ha hbN hl)
/-- the way back from what is no farther than R -/
def Way (s : Nat) (left : Nat → Nat → Int) (fr : List Int) (h : List Nat) (rk : Nat → Nat) (R : Nat) : Prop :=
  ∀ c ∈ h, c ≠ s → rk c ≤ R → ∃ p : Nat, fr.getD c 0 = p ∧ p ∈ h ∧ p ≠ c ∧ rk p < rk c ∧ 0 < left p c
theorem BS.way (hb : BS N s left fr h cl) : ∃ rk : Nat → Nat, (∀ c ∈ h, rk c < h.length) ∧ ∀ R, Way s left fr h rk R := by
  obtain ⟨rk, hrk⟩ := hb.par
  exact ⟨rk, fun c hc => (hrk c hc).1, fun R c hc hne _ => (hrk c hc).2 hne⟩
theorem flow_left_le (hf : Flow N s t cap left v) (hc : ∀ a b, cap a b ≤ 1) {a b : Nat} (ha : a < N) (hb : b < N) : 0 ≤ left a b ∧ left a b ≤ 2 := by
  have h1 := hf.anti a b ha hb
  have h2 := hf.pos a b ha hb
  have h3 := hf.pos b a hb ha
  have h4 := hc a b
  have h5 := hc b a
  omega
theorem flowM_left_le {c : Nat} (hf : FlowM N s t c cap left v) (hc : ∀ a b, cap a b ≤ 1) {a b : Nat} (ha : a < N) (hb : b < N) : 0 ≤ left a b ∧ left a b ≤ 2 := by
  have h1 := hf.anti a b ha hb
  have h2 := hf.pos a b ha hb
  have h3 := hf.pos b a hb ha
  have h4 := hc a b
  have h5 := hc b a
  omega
theorem Way.step {rk : Nat → Nat} {c : Nat} (hw : Way s left fr h rk (rk c)) {p : Nat} (hp : rk p < rk c) : Way s (pushed left p c) fr h rk (rk p) := by
  intro d hd hne hle
  obtain ⟨q, h1, h2, h3, h4, h5⟩ := hw d hd hne (by omega)
  refine ⟨q, h1, h2, h3, h4, ?_⟩
  unfold pushed
  rw [if_neg (fun e => by rw [e.2] at hle; omega)]
  split <;> omega
/-- one is the size of the smallest line -/
def Few (n : Nat) (near : Nat → Nat → Bool) (burn src snk : Nat → Bool) (v : Int) : Prop :=
  (∃ C, LineP n near burn src snk C ∧ cntN n C = v) ∧ ∀ C, LineP n near burn src snk C → v ≤ cntN n C
theorem Few.one {n : Nat} {near : Nat → Nat → Bool} {burn src snk : Nat → Bool} {v v' : Int} (h : Few n near burn src snk v) (h' : Few n near burn src snk v') : v = v' := by
  obtain ⟨⟨C, hC, e⟩, hl⟩ := h
  obtain ⟨⟨C', hC', e'⟩, hl'⟩ := h'
  have := hl C' hC'
  have := hl' C hC
  omega
theorem flow_few {n : Nat} {near : Nat → Nat → Bool} {burn src snk : Nat → Bool} {i o dec : Nat → Nat} (hn : Net N n s t i o dec) (hsym : ∀ a b, near a b = near b a) (hdis : ∀ c, c < n → src c = true → snk c = false) (hop : ∀ c d, c < n → d < n → src c = true → burn c = true → snk d = true → burn d = true → near c d = false)
    (hf : Flow N s t (capA n near burn src snk s t i o) left v) {S : Nat → Bool} (hs : S s = true) (ht : S t = false) (hfull : ∀ a b, a < N → b < N → S a = true → S b = false → ¬ 0 < left a b) : Few n near burn src snk v := by
  obtain ⟨C, h1, h2⟩ := flow_line hn hsym hdis hop hf hs ht hfull
  have h3 := flow_le hn hsym hf h1
  exact ⟨⟨C, h1, by omega⟩, fun C' h' => flow_le hn hsym hf h'⟩
end
end Go.Proofs.Ytbgegmignhghnaa
