/-
  Arrival times of the program: the plain law of its loop over the nearest cells.
-/
import Derived.Test.YtojfbcgfeojdfaaGreatCArrS
import Derived.Test.YtojfbcgfeojdfaaGreatCReachS
/-
  Arrival times of the program: the plain law of its loop over the nearest cells.
-/
namespace Go.Proofs.YtojfbcgfeojdfaaGreat
set_option linter.unusedSimpArgs false
set_option linter.unusedVariables false
open Go.RowKit

/-- so many are set, the rest is nought -/
def negL (n k : Nat) : List Int := List.replicate k (-1) ++ List.replicate (n - k) 0
theorem negL_set {n k : Nat} (hk : k < n) : (negL n k).set k (-1) = negL n (k + 1) := by
  unfold negL
  apply List.ext_getElem
  · simp; omega
  · intro i h1 h2
    rw [List.getElem_set]
    by_cases e : k = i
    · subst e
      rw [if_pos rfl, List.getElem_append_left (by simp)]
      simp
    · rw [if_neg e]
      by_cases h : i < k
      · rw [List.getElem_append_left (by simpa using h), List.getElem_append_left (by simp; omega)]
        simp
      · rw [List.getElem_append_right (by simp; omega), List.getElem_append_right (by simp; omega)]
        simp
theorem negL_all {n : Nat} : negL n n = List.replicate n (-1) := by simp [negL]
def srcTo (start : Int) (cells acc : List Int) : List Int := cells.foldl (fun acc c => acc.set c.toNat start) acc
theorem srcTo_succ {start : Int} {cells acc : List Int} {k : Nat} (hk : k < cells.length) : srcTo start (cells.take (k + 1)) acc = (srcTo start (cells.take k) acc).set (cells.getD k 0).toNat start := by
  unfold srcTo
  rw [take_succ' hk, List.foldl_append]
  rfl
theorem srcTo_length {start : Int} : ∀ (cells acc : List Int), (srcTo start cells acc).length = acc.length
  | [], _ => rfl
  | c :: r, acc => by
    have e : srcTo start (c :: r) acc = srcTo start r (acc.set c.toNat start) := rfl
    rw [e, srcTo_length r, List.length_set]
theorem srcTo_get {start : Int} {n : Nat} : ∀ (cells acc : List Int), (∀ x ∈ cells, 0 ≤ x ∧ x < n) → acc.length = n → ∀ c, c < n → (srcTo start cells acc).getD c 0 = if hasI cells c then start else acc.getD c 0
  | [], acc, _, _, c, _ => by simp [srcTo, hasI]
  | y :: r, acc, h, hl, c, hc => by
    have h1 := h y (by simp)
    have e : srcTo start (y :: r) acc = srcTo start r (acc.set y.toNat start) := rfl
    rw [e, srcTo_get r _ (fun x hx => h x (by simp [hx])) (by simpa using hl) c hc]
    have e2 : hasI (y :: r) (c : Int) = ((y == (c : Int)) || hasI r c) := by simp [hasI]
    rw [e2, set_get hl hc]
    by_cases hr : hasI r (c : Int) = true
    · rw [hr]; simp
    · have hr' : hasI r (c : Int) = false := by simpa using hr
      rw [hr']
      by_cases hy : y = c
      · subst hy
        simp
      · have : ¬ c = y.toNat := by omega
        simp [hy, this]
theorem srcTo_beg {n : Nat} {xs ss : List Int} {start : Int} (hs : setB n ss = true) : srcTo start (ss.filter fun x => brn xs x.toNat) (List.replicate n (-1)) = beg0 n xs ss start := by
  have hm := (setB_true hs).2
  apply List.ext_getElem
  · rw [srcTo_length]; simp [beg0]
  · intro i h1 h2
    have hi : i < n := by simpa [beg0] using h2
    have h3 := srcTo_get (start := start) (n := n) (ss.filter fun x => brn xs x.toNat) (List.replicate n (-1)) (fun x hx => by have := hm x (List.mem_filter.1 hx).1; omega) (by simp) i hi
    have e1 : (srcTo start (ss.filter fun x => brn xs x.toNat) (List.replicate n (-1))).getD i 0 = (srcTo start (ss.filter fun x => brn xs x.toNat) (List.replicate n (-1)))[i] := by simp [List.getD, h1]
    have e2 : (beg0 n xs ss start).getD i 0 = (beg0 n xs ss start)[i] := by simp [List.getD, h2]
    rw [← e1, ← e2, h3, beg0_get hi]
    have e3 : hasI (ss.filter fun x => brn xs x.toNat) (i : Int) = (brn xs i && hasI ss i) := by
      rw [Bool.eq_iff_iff, hasI_iff, List.mem_filter, Bool.and_eq_true, hasI_iff]
      simp [and_comm]
    rw [e3]
    split
    · rfl
    · simp [List.getD, hi]

section
variable {W n : Nat} {xs ss : List Int} {l : List PhaseI} {start : Int}
/-- cells are fixed in the order in which fire comes to them -/
structure DijT (W n : Nat) (xs ss : List Int) (l : List PhaseI) (start : Int) (fx : Nat → Bool) (ts : List Int) : Prop where
  beg : BegTI W n xs ss l start ts
  bnd : BndT n ts
  fin : ∀ a, a < n → fx a = true → ts.getD a 0 ≠ -1
  edg : ∀ a b, a < n → b < n → fx a = true → edgeI W xs l ts a b
  ord : ∀ a b, a < n → b < n → fx a = true → fx b = false → ts.getD b 0 ≠ -1 → ts.getD a 0 ≤ ts.getD b 0
theorem DijT.init {ts : List Int} (h : BegTI W n xs ss l start ts) (hb : BndT n ts) : DijT W n xs ss l start (fun _ => false) ts :=
  ⟨h, hb, fun _ _ e => by simp at e, fun _ _ _ _ e => by simp at e, fun _ _ _ _ e => by simp at e⟩
theorem DijT.done {fx : Nat → Bool} {ts : List Int} (hp : phasesB l = true) (h : DijT W n xs ss l start fx ts) (he : ∀ i, i < n → fx i = false → ts.getD i 0 = -1) : arrT W n xs ss l start = ts := by
  refine BegTI.done hp h.beg fun a b ha hb => ?_
  cases hf : fx a
  · intro e
    exact absurd (he a ha hf) e
  · exact h.edg a b ha hb hf
/-- a cell is being fixed: its first neighbors have been told -/
structure RelT (W n : Nat) (xs ss : List Int) (l : List PhaseI) (start : Int) (fx : Nat → Bool) (c : Nat) (v : Int) (told : Nat → Prop) (ts : List Int) : Prop where
  beg : BegTI W n xs ss l start ts
  bnd : BndT n ts
  val : ts.getD c 0 = v
  nev : v ≠ -1
  fin : ∀ a, a < n → fx a = true → ts.getD a 0 ≠ -1
  edg : ∀ a b, a < n → b < n → fx a = true → edgeI W xs l ts a b
  low : ∀ a, a < n → fx a = true → ts.getD a 0 ≤ v
  hi : ∀ b, b < n → fx b = false → ts.getD b 0 ≠ -1 → v ≤ ts.getD b 0
  tol : ∀ b, b < n → told b → edgeI W xs l ts c b
theorem RelT.init {fx : Nat → Bool} {ts : List Int} {c : Nat} (h : DijT W n xs ss l start fx ts) (hc : c < n) (hf : fx c = false) (h1 : ts.getD c 0 ≠ -1) (hm : ∀ i, i < n → fx i = false → ts.getD i 0 ≠ -1 → ts.getD c 0 ≤ ts.getD i 0) : RelT W n xs ss l start fx c (ts.getD c 0) (fun _ => False) ts :=
  ⟨h.beg, h.bnd, rfl, h1, h.fin, h.edg, fun a ha hfa => h.ord a c ha hc hfa hf h1, hm, fun _ _ e => e.elim⟩
theorem RelT.more {fx : Nat → Bool} {ts : List Int} {c : Nat} {v : Int} {told told' : Nat → Prop} (h : RelT W n xs ss l start fx c v told ts) (ht : ∀ b, b < n → told' b → told b ∨ edgeI W xs l ts c b) : RelT W n xs ss l start fx c v told' ts :=
  ⟨h.beg, h.bnd, h.val, h.nev, h.fin, h.edg, h.low, h.hi, fun b hb e => (ht b hb e).elim (h.tol b hb) id⟩
/-- a cell that is fixed already -/
theorem RelT.old {fx : Nat → Bool} {ts : List Int} {c b : Nat} {v : Int} {told : Nat → Prop} (h : RelT W n xs ss l start fx c v told ts) (hb : b < n) (hf : fx b = true) : edgeI W xs l ts c b := by
  intro _ _ _
  have h1 := h.low b hb hf
  have h2 := donI_ge (W := W) (xs := xs) (l := l) c b (ts.getD c 0)
  rw [h.val] at h2 ⊢
  exact ⟨h.fin b hb hf, by omega⟩
theorem RelT.set {fx : Nat → Bool} {ts : List Int} {c b : Nat} {v : Int} {told : Nat → Prop} (h : RelT W n xs ss l start fx c v told ts) (hx : ∀ x ∈ xs, 0 ≤ x ∧ x ≤ 20) (hl : xs.length = n) (hn : n ≤ 25) (hc : c < n) (hb : b < n) (hf : fx b = false) (hbb : brn xs b = true) (hnr : nearN W c b = true) (hlt : ts.getD b 0 = -1 ∨ donI W xs l c b v < ts.getD b 0) :
    RelT W n xs ss l start fx c v (fun i => told i ∨ i = b) (ts.set b (donI W xs l c b v)) := by
  have hcb : c ≠ b := near_ne hnr
  have hr := relaxI (W := W) (l := l) (start := start) (ss := ss) hx hl hn h.beg h.bnd hc hb (by rw [h.val]; exact h.nev) hbb hnr (by rw [h.val]; exact hlt)
  rw [h.val] at hr
  have hv0 : 0 ≤ v := by
    rcases h.beg.is c hc with e | e
    · rw [h.val] at e; exact absurd e h.nev
    · rw [h.val] at e; exact e.1
  have hg := donI_ge (W := W) (xs := xs) (l := l) c b v
  have hgb : (ts.set b (donI W xs l c b v)).getD b 0 = donI W xs l c b v := by rw [set_get h.beg.len hb, if_pos rfl]
  have hgo : ∀ i, i ≠ b → (ts.set b (donI W xs l c b v)).getD i 0 = ts.getD i 0 := fun i e => set_get' e
  have keep : ∀ a i, a < n → i < n → a ≠ b → edgeI W xs l ts a i → edgeI W xs l (ts.set b (donI W xs l c b v)) a i := by
    intro a i ha hi hab he h1 h2 h3
    rw [hgo a hab] at h1 ⊢
    obtain ⟨e1, e2⟩ := he h1 h2 h3
    by_cases e : i = b
    · subst e
      rw [hgb]
      rcases hlt with hlt | hlt
      · exact absurd hlt e1
      · exact ⟨by omega, by omega⟩
    · rw [hgo i e]
      exact ⟨e1, e2⟩
  have hne : ∀ a, fx a = true → a ≠ b := fun a e1 e2 => by subst e2; rw [hf] at e1; cases e1
  refine ⟨hr.1, hr.2.1, by rw [hgo c hcb]; exact h.val, h.nev, fun a ha e => by rw [hgo a (hne a e)]; exact h.fin a ha e, fun a i ha hi e => keep a i ha hi (hne a e) (h.edg a i ha hi e), fun a ha e => by rw [hgo a (hne a e)]; exact h.low a ha e, fun i hi e h1 => ?_, fun i hi e => ?_⟩
  · by_cases e2 : i = b
    · subst e2; rw [hgb]; exact hg
    · rw [hgo i e2] at h1 ⊢; exact h.hi i hi e h1
  · rcases e with e | rfl
    · exact keep c i hc hi hcb (h.tol i hi e)
    · intro _ _ _
      rw [hgb, hgo c hcb, h.val]
      exact ⟨by omega, Int.le_refl _⟩
theorem RelT.done {fx : Nat → Bool} {ts : List Int} {c : Nat} {v : Int} {told : Nat → Prop} (h : RelT W n xs ss l start fx c v told ts) (ht : ∀ b, b < n → nearN W c b = true → told b) : DijT W n xs ss l start (fun i => fx i || i == c) ts := by
  have sp : ∀ a, (fx a || a == c) = true → fx a = true ∨ a = c := fun a e => by simpa using e
  refine ⟨h.beg, h.bnd, fun a ha e => ?_, fun a b ha hb e => ?_, fun a b ha hb e e2 h1 => ?_⟩
  · rcases sp a e with e | rfl
    · exact h.fin a ha e
    · rw [h.val]; exact h.nev
  · rcases sp a e with e | rfl
    · exact h.edg a b ha hb e
    · intro h1 h2 h3
      exact h.tol b hb (ht b hb h3) h1 h2 h3
  · have hb2 : fx b = false := by
      cases hfb : fx b
      · rfl
      · rw [hfb] at e2; simp at e2
    have h3 := h.hi b hb hb2 h1
    rcases sp a e with e | rfl
    · have := h.low a ha e; omega
    · rw [h.val]; exact h3
end
end Go.Proofs.YtojfbcgfeojdfaaGreat
