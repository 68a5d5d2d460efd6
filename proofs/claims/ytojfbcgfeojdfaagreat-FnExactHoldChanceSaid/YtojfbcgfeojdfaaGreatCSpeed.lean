/-
  Speeds and work that is done.
-/
import Derived.Test.YtojfbcgfeojdfaaGreatCNear
import Derived.Test.YtojfbcgfeojdfaaGreatCFlPhase
/-
  When fire arrives: least times over steps that take their time; plain lists.
-/
namespace Go.Proofs.YtojfbcgfeojdfaaGreat
set_option linter.unusedSimpArgs false
set_option linter.unusedVariables false
open Go.RowKit

/-- work at speeds -/
def doneF (sp : Int → Int) : Nat → Int → Int → Int
  | 0, t, _ => t
  | m + 1, t, w => if 0 < w then doneF sp m (t + 1) (w - sp t) else t
/-- the tick at which work is done -/
def doneT (sp : Int → Int) (t w : Int) : Int := doneF sp w.toNat t w
theorem doneF_stop {sp : Int → Int} {t w : Int} (h : w ≤ 0) : ∀ m, doneF sp m t w = t
  | 0 => rfl
  | m + 1 => by rw [doneF, if_neg (by omega)]
theorem doneF_fuel {sp : Int → Int} (hs : ∀ t, 0 ≤ t → 1 ≤ sp t) : ∀ (m m' : Nat) {t w : Int}, 0 ≤ t → w ≤ m → w ≤ m' → doneF sp m t w = doneF sp m' t w
  | 0, m', t, w, _, h, _ => (doneF_stop (by omega) _).trans (doneF_stop (by omega) _).symm
  | m + 1, 0, t, w, _, _, h => (doneF_stop (by omega) _).trans (doneF_stop (by omega) _).symm
  | m + 1, m' + 1, t, w, ht, h, h' => by
    rw [doneF, doneF]
    split
    · have := hs t ht
      exact doneF_fuel hs m m' (by omega) (by omega) (by omega)
    · rfl
theorem doneT_step {sp : Int → Int} (hs : ∀ t, 0 ≤ t → 1 ≤ sp t) {t w : Int} (ht : 0 ≤ t) (hw : 0 < w) : doneT sp t w = doneT sp (t + 1) (w - sp t) := by
  have h1 := hs t ht
  unfold doneT
  obtain ⟨m, hm⟩ : ∃ m, w.toNat = m + 1 := ⟨w.toNat - 1, by omega⟩
  rw [hm, doneF, if_pos hw]
  exact doneF_fuel hs _ _ (by omega) (by omega) (by omega)
theorem doneT_stop {sp : Int → Int} {t w : Int} (h : w ≤ 0) : doneT sp t w = t := doneF_stop h _
theorem doneF_ge {sp : Int → Int} : ∀ (m : Nat) (t w : Int), t ≤ doneF sp m t w
  | 0, t, _ => Int.le_refl t
  | m + 1, t, w => by
    rw [doneF]
    split
    · have := doneF_ge (sp := sp) m (t + 1) (w - sp t); omega
    · exact Int.le_refl t
theorem doneT_ge {sp : Int → Int} (t w : Int) : t ≤ doneT sp t w := doneF_ge _ _ _
theorem doneF_le {sp : Int → Int} : ∀ (m : Nat) (t w : Int), doneF sp m t w ≤ t + m
  | 0, t, _ => by show t ≤ t + ((0 : Nat) : Int); omega
  | m + 1, t, w => by
    rw [doneF]
    split
    · have := doneF_le (sp := sp) m (t + 1) (w - sp t); omega
    · omega
theorem doneT_le {sp : Int → Int} {t w : Int} (hw : 0 ≤ w) : doneT sp t w ≤ t + w := by
  have := doneF_le (sp := sp) w.toNat t w
  unfold doneT
  omega
theorem doneF_mono_w {sp : Int → Int} : ∀ (m : Nat) (t w w' : Int), w ≤ w' → doneF sp m t w ≤ doneF sp m t w'
  | 0, t, _, _, _ => Int.le_refl t
  | m + 1, t, w, w', h => by
    rw [doneF, doneF]
    split
    · rw [if_pos (by omega)]
      exact doneF_mono_w m (t + 1) _ _ (by omega)
    · split
      · have := doneF_ge (sp := sp) m (t + 1) (w' - sp t); omega
      · exact Int.le_refl t
theorem doneT_mono_w {sp : Int → Int} (hs : ∀ t, 0 ≤ t → 1 ≤ sp t) {t w w' : Int} (ht : 0 ≤ t) (h : w ≤ w') : doneT sp t w ≤ doneT sp t w' := by
  unfold doneT
  rw [doneF_fuel hs w.toNat w'.toNat ht (by omega) (by omega)]
  exact doneF_mono_w _ _ _ _ h
theorem doneT_succ {sp : Int → Int} (hs : ∀ t, 0 ≤ t → 1 ≤ sp t) {t w : Int} (ht : 0 ≤ t) : doneT sp t w ≤ doneT sp (t + 1) w := by
  by_cases hw : 0 < w
  · rw [doneT_step hs ht hw]
    have := hs t ht
    exact doneT_mono_w hs (by omega) (by omega)
  · rw [doneT_stop (by omega), doneT_stop (by omega)]
    omega
theorem doneT_mono {sp : Int → Int} (hs : ∀ t, 0 ≤ t → 1 ≤ sp t) {w : Int} : ∀ (k : Nat) {t : Int}, 0 ≤ t → doneT sp t w ≤ doneT sp (t + k) w
  | 0, t, _ => by rw [show t + ((0 : Nat) : Int) = t by omega]; exact Int.le_refl _
  | k + 1, t, ht => by
    have h1 := doneT_mono hs (w := w) k ht
    have h2 := doneT_succ hs (t := t + k) (w := w) (by omega)
    rw [show t + ((k + 1 : Nat) : Int) = t + k + 1 by omega]
    omega
theorem doneT_le_of {sp : Int → Int} (hs : ∀ t, 0 ≤ t → 1 ≤ sp t) {w t t' : Int} (ht : 0 ≤ t) (h : t ≤ t') : doneT sp t w ≤ doneT sp t' w := by
  have := doneT_mono hs (w := w) (t' - t).toNat ht
  rwa [show t + ((t' - t).toNat : Int) = t' by omega] at this
/-- where fire is at what tick, in k steps -/
def arK (n : Nat) (near : Nat → Nat → Bool) (burn src : Nat → Bool) (start : Int) (don : Nat → Nat → Int → Int) : Nat → Nat → Int → Prop
  | 0, c, t => c < n ∧ src c = true ∧ burn c = true ∧ t = start
  | k + 1, c, t => arK n near burn src start don k c t ∨ (c < n ∧ burn c = true ∧ ∃ d t', arK n near burn src start don k d t' ∧ near d c = true ∧ t = don d c t')
def Arr (n : Nat) (near : Nat → Nat → Bool) (burn src : Nat → Bool) (start : Int) (don : Nat → Nat → Int → Int) (c : Nat) (t : Int) : Prop := ∃ k, arK n near burn src start don k c t
section
variable {n : Nat} {near : Nat → Nat → Bool} {burn src : Nat → Bool} {start : Int} {don : Nat → Nat → Int → Int}
theorem Arr.base {c : Nat} (h : c < n) (hs : src c = true) (hb : burn c = true) : Arr n near burn src start don c start := ⟨0, h, hs, hb, rfl⟩
theorem Arr.step {d c : Nat} {t : Int} (hd : Arr n near burn src start don d t) (h : c < n) (hb : burn c = true) (hn : near d c = true) : Arr n near burn src start don c (don d c t) := by
  obtain ⟨k, hk⟩ := hd
  exact ⟨k + 1, .inr ⟨h, hb, d, t, hk, hn, rfl⟩⟩
theorem Arr.least {T : Nat → Int → Prop} (h0 : ∀ c, c < n → src c = true → burn c = true → T c start) (h1 : ∀ d c t, T d t → c < n → burn c = true → near d c = true → T c (don d c t)) {c : Nat} {t : Int} (h : Arr n near burn src start don c t) : T c t := by
  obtain ⟨k, hk⟩ := h
  induction k generalizing c t with
  | zero => obtain ⟨a, b, d, rfl⟩ := hk; exact h0 c a b d
  | succ k ih =>
    rcases hk with hk | ⟨hc, hb, d, t', hk, hn, rfl⟩
    · exact ih hk
    · exact h1 d c t' (ih hk) hc hb hn
/-- the times at which fire arrives -/
structure IsT (n : Nat) (near : Nat → Nat → Bool) (burn src : Nat → Bool) (start : Int) (don : Nat → Nat → Int → Int) (ts : List Int) : Prop where
  len : ts.length = n
  is : ∀ c, c < n → ts.getD c 0 = -1 ∨ (0 ≤ ts.getD c 0 ∧ Arr n near burn src start don c (ts.getD c 0))
  le : ∀ c t, Arr n near burn src start don c t → ts.getD c 0 ≠ -1 ∧ ts.getD c 0 ≤ t
theorem IsT.unique {ts ts' : List Int} (h : IsT n near burn src start don ts) (h' : IsT n near burn src start don ts') : ts = ts' := by
  apply List.ext_getElem (by rw [h.len, h'.len])
  intro i h1 h2
  have hi : i < n := by rw [← h.len]; exact h1
  have e1 : ts.getD i 0 = ts[i] := by simp [List.getD, h1]
  have e2 : ts'.getD i 0 = ts'[i] := by simp [List.getD, h2]
  rw [← e1, ← e2]
  rcases h.is i hi with a | ⟨a0, a⟩
  · rcases h'.is i hi with b | ⟨b0, b⟩
    · rw [a, b]
    · exact absurd a (h.le i _ b).1
  · rcases h'.is i hi with b | ⟨b0, b⟩
    · exact absurd b (h'.le i _ a).1
    · have := (h.le i _ b).2
      have := (h'.le i _ a).2
      omega
/-- what is begun: times that fire takes, sources at the start -/
structure BegT (n : Nat) (near : Nat → Nat → Bool) (burn src : Nat → Bool) (start : Int) (don : Nat → Nat → Int → Int) (ts : List Int) : Prop where
  len : ts.length = n
  is : ∀ c, c < n → ts.getD c 0 = -1 ∨ (0 ≤ ts.getD c 0 ∧ Arr n near burn src start don c (ts.getD c 0))
  src : ∀ c, c < n → src c = true → burn c = true → ts.getD c 0 ≠ -1 ∧ ts.getD c 0 ≤ start
/-- the edge from a to b has been taken -/
def edgeT (burn : Nat → Bool) (near : Nat → Nat → Bool) (don : Nat → Nat → Int → Int) (ts : List Int) (a b : Nat) : Prop := ts.getD a 0 ≠ -1 → burn b = true → near a b = true → ts.getD b 0 ≠ -1 ∧ ts.getD b 0 ≤ don a b (ts.getD a 0)
theorem BegT.done {ts : List Int} (h : BegT n near burn src start don ts) (hm : ∀ a b t t', 0 ≤ t → t ≤ t' → don a b t ≤ don a b t') (he : ∀ a b, a < n → b < n → edgeT burn near don ts a b) : IsT n near burn src start don ts := by
  refine ⟨h.len, h.is, fun c t ht => ?_⟩
  have key := ht.least (T := fun c t => c < n ∧ ts.getD c 0 ≠ -1 ∧ ts.getD c 0 ≤ t) (fun c hc hs hb => ⟨hc, h.src c hc hs hb⟩) (fun d c t hd hc hb hn => by
    obtain ⟨hdn, hd1, hd2⟩ := hd
    obtain ⟨e1, e2⟩ := he d c hdn hc hd1 hb hn
    have h0 : 0 ≤ ts.getD d 0 := by
      rcases h.is d hdn with e | ⟨e, _⟩
      · exact absurd e hd1
      · exact e
    exact ⟨hc, e1, Int.le_trans e2 (hm d c _ _ h0 hd2)⟩)
  exact key.2
/-- a shorter time is found -/
theorem BegT.relax {ts : List Int} (h : BegT n near burn src start don ts) (hg : ∀ a b t, t ≤ don a b t) {a b : Nat} (ha : a < n) (hb : b < n) (hta : ts.getD a 0 ≠ -1) (hbb : burn b = true) (hn : near a b = true) (hl : ts.getD b 0 = -1 ∨ don a b (ts.getD a 0) < ts.getD b 0) : BegT n near burn src start don (ts.set b (don a b (ts.getD a 0))) := by
  have ha2 : 0 ≤ ts.getD a 0 ∧ Arr n near burn src start don a (ts.getD a 0) := by
    rcases h.is a ha with e | e
    · exact absurd e hta
    · exact e
  have hg2 : ∀ c, c < n → (ts.set b (don a b (ts.getD a 0))).getD c 0 = if c = b then don a b (ts.getD a 0) else ts.getD c 0 := by
    intro c hc
    by_cases e : c = b
    · subst e
      rw [if_pos rfl]
      simp [List.getD, h.len, hc]
    · rw [if_neg e]
      simp [List.getD, List.getElem?_set_ne (Ne.symm e)]
  refine ⟨by rw [List.length_set]; exact h.len, fun c hc => ?_, fun c hc hs hbn => ?_⟩
  · rw [hg2 c hc]
    by_cases e : c = b
    · subst e
      rw [if_pos rfl]
      exact .inr ⟨Int.le_trans ha2.1 (hg _ _ _), ha2.2.step hc hbb hn⟩
    · rw [if_neg e]
      exact h.is c hc
  · rw [hg2 c hc]
    have h1 := h.src c hc hs hbn
    by_cases e : c = b
    · subst e
      rw [if_pos rfl]
      have h2 := hg a c (ts.getD a 0)
      rcases hl with hl | hl
      · exact absurd hl h1.1
      · exact ⟨by omega, by omega⟩
    · rw [if_neg e]
      exact h1
end
end Go.Proofs.YtojfbcgfeojdfaaGreat

/-
  Speeds and work that is done.
-/
namespace Go.Proofs.YtojfbcgfeojdfaaGreat
set_option linter.unusedSimpArgs false
set_option linter.unusedVariables false
open Go.RowKit

/-- the speed from a tick on -/
def spd (l : List PhaseI) (t : Int) : Int := l.foldl (fun o p => if p.fr ≤ t then p.sp else o) 0
def phOK (l : List PhaseI) (k : Nat) : Bool := inB (l.getD k PhaseI.zero).fr 0 9999 && inB (l.getD k PhaseI.zero).sp 1 9 && (if k = 0 then decide ((l.getD k PhaseI.zero).fr = 0) else decide ((l.getD (k - 1) PhaseI.zero).fr < (l.getD k PhaseI.zero).fr))
def phasesB (l : List PhaseI) : Bool := (List.range l.length).all (phOK l) && inB l.length 1 6
theorem phasesB_true {l : List PhaseI} (h : phasesB l = true) : (∀ k, k < l.length → phOK l k = true) ∧ 1 ≤ l.length ∧ l.length ≤ 6 := by
  unfold phasesB at h
  rw [Bool.and_eq_true, List.all_eq_true] at h
  have := inB_true h.2
  exact ⟨fun k hk => h.1 k (List.mem_range.2 hk), by omega, by omega⟩
theorem phOK_true {l : List PhaseI} {k : Nat} (h : phOK l k = true) : (0 ≤ (l.getD k PhaseI.zero).fr ∧ (l.getD k PhaseI.zero).fr ≤ 9999) ∧ (1 ≤ (l.getD k PhaseI.zero).sp ∧ (l.getD k PhaseI.zero).sp ≤ 9) ∧ (k = 0 → (l.getD k PhaseI.zero).fr = 0) ∧ (0 < k → (l.getD (k - 1) PhaseI.zero).fr < (l.getD k PhaseI.zero).fr) := by
  unfold phOK at h
  simp only [Bool.and_eq_true] at h
  refine ⟨inB_true h.1.1, inB_true h.1.2, fun e => ?_, fun e => ?_⟩
  · have := h.2; rw [if_pos e] at this; simpa using this
  · have := h.2; rw [if_neg (by omega)] at this; simpa using this
theorem spd_take {l : List PhaseI} {t : Int} {k : Nat} (hk : k < l.length) : spd (l.take (k + 1)) t = if (l.getD k PhaseI.zero).fr ≤ t then (l.getD k PhaseI.zero).sp else spd (l.take k) t := by
  unfold spd
  rw [take_succV (z := PhaseI.zero) hk, List.foldl_append]
  rfl
/-- the speed is that of the last phase that has begun -/
theorem spd_at {l : List PhaseI} (h : phasesB l = true) {t : Int} {j : Nat} (hj : j < l.length) (h1 : (l.getD j PhaseI.zero).fr ≤ t) (h2 : j + 1 < l.length → t < (l.getD (j + 1) PhaseI.zero).fr) : spd l t = (l.getD j PhaseI.zero).sp := by
  obtain ⟨hok, _, _⟩ := phasesB_true h
  have hasc : ∀ d a, a + d < l.length → (l.getD a PhaseI.zero).fr ≤ (l.getD (a + d) PhaseI.zero).fr := by
    intro d
    induction d with
    | zero => intro a _; exact Int.le_refl _
    | succ d ih =>
      intro a ha
      have h3 := ih a (by omega)
      have h4 := (phOK_true (hok (a + (d + 1)) ha)).2.2.2 (by omega)
      rw [show a + (d + 1) - 1 = a + d by omega] at h4
      omega
  have key : ∀ k, k ≤ l.length → j < k → spd (l.take k) t = (l.getD j PhaseI.zero).sp := by
    intro k
    induction k with
    | zero => intro _ h; omega
    | succ k ih =>
      intro hk hjk
      rw [spd_take (by omega)]
      by_cases e : k = j
      · subst e; rw [if_pos h1]
      · have h3 := h2 (by omega)
        have h4 := hasc (k - (j + 1)) (j + 1) (by omega)
        rw [show j + 1 + (k - (j + 1)) = k by omega] at h4
        rw [if_neg (by omega)]
        exact ih (by omega) (by omega)
  have := key l.length (Nat.le_refl _) hj
  rwa [List.take_of_length_le (Nat.le_refl _)] at this
/-- there is such a phase -/
theorem phase_of {l : List PhaseI} (h : phasesB l = true) {t : Int} (ht : 0 ≤ t) : ∃ j, j < l.length ∧ (l.getD j PhaseI.zero).fr ≤ t ∧ (j + 1 < l.length → t < (l.getD (j + 1) PhaseI.zero).fr) := by
  obtain ⟨hok, h1, _⟩ := phasesB_true h
  have key : ∀ k, k < l.length → ∃ j, j ≤ k ∧ (l.getD j PhaseI.zero).fr ≤ t ∧ (j + 1 ≤ k → t < (l.getD (j + 1) PhaseI.zero).fr) := by
    intro k
    induction k with
    | zero =>
      intro hk
      exact ⟨0, Nat.le_refl _, by have := (phOK_true (hok 0 hk)).2.2.1 rfl; omega, fun h => by omega⟩
    | succ k ih =>
      intro hk
      obtain ⟨j, hj, h2, h3⟩ := ih (by omega)
      by_cases e : (l.getD (k + 1) PhaseI.zero).fr ≤ t
      · exact ⟨k + 1, Nat.le_refl _, e, fun h => by omega⟩
      · refine ⟨j, by omega, h2, fun h => ?_⟩
        by_cases e2 : j = k
        · subst e2; omega
        · exact h3 (by omega)
  obtain ⟨j, hj, h2, h3⟩ := key (l.length - 1) (by omega)
  exact ⟨j, by omega, h2, fun h => h3 (by omega)⟩
theorem spd_pos {l : List PhaseI} (h : phasesB l = true) {t : Int} (ht : 0 ≤ t) : 1 ≤ spd l t ∧ spd l t ≤ 9 := by
  obtain ⟨j, hj, h1, h2⟩ := phase_of h ht
  rw [spd_at h hj h1 h2]
  exact (phOK_true ((phasesB_true h).1 j hj)).2.1
theorem spd_cap {l : List PhaseI} (h : phasesB l = true) {t : Int} (ht : 0 ≤ t) : spd l (min t 9999) = spd l t := by
  obtain ⟨j, hj, h1, h2⟩ := phase_of h ht
  have h3 := (phOK_true ((phasesB_true h).1 j hj)).1.2
  rw [spd_at h hj h1 h2, spd_at h hj (by omega) (fun e => by have := h2 e; omega)]
end Go.Proofs.YtojfbcgfeojdfaaGreat
