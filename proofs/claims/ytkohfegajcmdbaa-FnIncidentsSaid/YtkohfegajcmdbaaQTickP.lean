/-
  Ticks of an incident, as plain lists.
-/
import Derived.Test.YtkohfegajcmdbaaQNewInc
import Derived.Test.YtkohfegajcmdbaaQNear4
/-
  Ticks of an incident, as plain lists.
-/
namespace Go.Proofs.Ytkohfegajcmdbaa
set_option linter.unusedSimpArgs false
set_option linter.unusedVariables false
open Go.RowKit

/-- the first k numbers are g's, the others f's -/
def upTo (n k : Nat) (g f : Nat → Int) : List Int := (List.range n).map fun c => if c < k then g c else f c
theorem upTo_set {n k : Nat} {g f : Nat → Int} : (upTo n k g f).set k (g k) = upTo n (k + 1) g f := by
  apply List.ext_getElem
  · simp [upTo]
  · intro i h1 h2
    rw [List.getElem_set]
    simp only [upTo, List.getElem_map, List.getElem_range]
    by_cases hi : k = i
    · subst hi; simp
    · rw [if_neg hi]
      by_cases h : i < k
      · rw [if_pos h, if_pos (by omega)]
      · rw [if_neg h, if_neg (by omega)]
theorem upTo_same {n k : Nat} {g f : Nat → Int} (h : g k = f k) : upTo n (k + 1) g f = upTo n k g f := by
  unfold upTo
  refine List.map_congr_left fun c _ => ?_
  by_cases hc : c = k
  · subst hc; simp [h]
  · by_cases h' : c < k
    · rw [if_pos (by omega), if_pos h']
    · rw [if_neg (by omega), if_neg h']
theorem upTo_zero {n : Nat} {g : Nat → Int} {fs : List Int} (h : fs.length = n) : upTo n 0 g (fun c => fs.getD c 0) = fs := by
  apply List.ext_getElem
  · simp [upTo, h]
  · intro i h1 h2
    simp [upTo, List.getD, h2]
theorem upTo_all {n : Nat} {g f : Nat → Int} : upTo n n g f = (List.range n).map g := by
  unfold upTo
  refine List.map_congr_left fun c hc => ?_
  rw [if_pos (List.mem_range.1 hc)]
/-- is a neighbor on fire -/
def nearF (W n : Nat) (fs : List Int) (c : Nat) : Bool := (cellsN n (nearN W c)).any fun d => decide (0 < fs.getD d.toNat 0)
/-- is a cell threatened -/
def thrN (W n : Nat) (xs fs ws : List Int) (c : Nat) : Bool := brn xs c && (fs.getD c 0 == 0) && (ws.getD c 0 == 0) && nearF W n fs c
/-- fire that burns down -/
def fire1 (fs : List Int) (c : Nat) : Int := if fs.getD c 0 = 1 then -1 else if 1 < fs.getD c 0 then fs.getD c 0 - 1 else fs.getD c 0
/-- fire after a tick -/
def fire2 (W n : Nat) (xs fs ws : List Int) (c : Nat) : Int := if fs.getD c 0 = 1 then -1 else if 1 < fs.getD c 0 then fs.getD c 0 - 1 else if thrN W n xs fs ws c then xs.getD c 0 else fs.getD c 0
def wet1 (ws : List Int) (c : Nat) : Int := max 0 (ws.getD c 0 - 1)
def fireT (W n : Nat) (xs fs ws : List Int) : List Int := (List.range n).map (fire2 W n xs fs ws)
def wetT (n : Nat) (ws : List Int) : List Int := (List.range n).map (wet1 ws)
theorem fireT_length {W n : Nat} {xs fs ws : List Int} : (fireT W n xs fs ws).length = n := by simp [fireT]
theorem wetT_length {n : Nat} {ws : List Int} : (wetT n ws).length = n := by simp [wetT]
theorem fireT_get {W n : Nat} {xs fs ws : List Int} {c : Nat} (hc : c < n) : (fireT W n xs fs ws).getD c 0 = fire2 W n xs fs ws c := by simp [fireT, List.getD, hc]
theorem wetT_pos {n : Nat} {ws : List Int} : ∀ x ∈ wetT n ws, 0 ≤ x := by
  intro x hx
  obtain ⟨c, _, rfl⟩ := List.mem_map.1 hx
  unfold wet1
  omega
theorem thrN_fire {W n : Nat} {xs fs ws : List Int} {c : Nat} (h : thrN W n xs fs ws c = true) : fs.getD c 0 = 0 ∧ 0 < xs.getD c 0 := by
  unfold thrN brn at h
  simp only [Bool.and_eq_true, beq_iff_eq, decide_eq_true_eq] at h
  exact ⟨h.1.1.2, h.1.1.1⟩
theorem fireTo_get {xs : List Int} {n : Nat} : ∀ (cells acc : List Int), (∀ x ∈ cells, 0 ≤ x ∧ x < n) → acc.length = n → ∀ c, c < n → (fireTo xs cells acc).getD c 0 = if hasI cells c then xs.getD c 0 else acc.getD c 0
  | [], acc, _, _, c, _ => by simp [fireTo, hasI]
  | y :: r, acc, h, hl, c, hc => by
    have h1 := h y (by simp)
    have e : fireTo xs (y :: r) acc = fireTo xs r (acc.set y.toNat (xs.getD y.toNat 0)) := rfl
    rw [e, fireTo_get r _ (fun x hx => h x (by simp [hx])) (by simpa using hl) c hc]
    have e2 : hasI (y :: r) (c : Int) = ((y == (c : Int)) || hasI r c) := by simp [hasI]
    rw [e2]
    by_cases hr : hasI r (c : Int) = true
    · rw [hr]; simp
    · have hr' : hasI r (c : Int) = false := by simpa using hr
      rw [hr']
      by_cases hy : y = c
      · subst hy
        simp [List.getD, hl, hc]
      · have : ¬ y.toNat = c := by omega
        simp [hy, List.getD, List.getElem?_set_ne this]
theorem fireTo_thr {W n : Nat} {xs fs ws : List Int} : fireTo xs (cellsN n (thrN W n xs fs ws)) ((List.range n).map (fire1 fs)) = fireT W n xs fs ws := by
  apply List.ext_getElem
  · rw [fireTo_length]; simp [fireT]
  · intro i h1 h2
    rw [fireT_length] at h2
    have h3 := fireTo_get (xs := xs) (n := n) (cellsN n (thrN W n xs fs ws)) ((List.range n).map (fire1 fs)) (fun x hx => by
      obtain ⟨c, rfl, hc, _⟩ := cellsN_mem.1 hx
      omega) (by simp) i h2
    have h4 : (fireTo xs (cellsN n (thrN W n xs fs ws)) ((List.range n).map (fire1 fs))).getD i 0 = (fireTo xs (cellsN n (thrN W n xs fs ws)) ((List.range n).map (fire1 fs)))[i] := by simp [List.getD, h1]
    rw [← h4, h3]
    have h5 : (fireT W n xs fs ws)[i]'(by rw [fireT_length]; exact h2) = fire2 W n xs fs ws i := by simp [fireT]
    rw [h5]
    have h6 : hasI (cellsN n (thrN W n xs fs ws)) (i : Int) = thrN W n xs fs ws i := by
      rw [Bool.eq_iff_iff, hasI_iff, cellsN_mem]
      constructor
      · rintro ⟨c, e, _, h⟩
        obtain rfl : i = c := by omega
        exact h
      · intro h; exact ⟨i, rfl, h2, h⟩
    rw [h6]
    have h7 : ((List.range n).map (fire1 fs)).getD i 0 = fire1 fs i := by simp [List.getD, h2]
    rw [h7]
    unfold fire2 fire1
    by_cases ht : thrN W n xs fs ws i = true
    · have := thrN_fire ht
      rw [ht, if_pos rfl, if_neg (by omega), if_neg (by omega), if_pos rfl]
    · have ht' : thrN W n xs fs ws i = false := by simpa using ht
      rw [ht', if_neg (by simp)]
      simp

/-- does anything burn -/
def burnL (n : Nat) (fs : List Int) : List Int := cellsN n fun c => decide (0 < fs.getD c 0)
structure FW where
  f : List Int
  w : List Int
def tickF (W n : Nat) (xs : List Int) (s : FW) : FW := ⟨fireT W n xs s.f s.w, wetT n s.w⟩
def tickN (W n : Nat) (xs : List Int) : Nat → FW → FW
  | 0, s => s
  | k + 1, s => tickF W n xs (tickN W n xs k s)
def restK (W n : Nat) (xs : List Int) : Nat → FW → Nat
  | 0, _ => 0
  | m + 1, s => if burnL n s.f = [] then 0 else restK W n xs m (tickF W n xs s) + 1
/-- what is left to burn -/
def phiC (xs fs : List Int) (c : Nat) : Nat := if 0 < fs.getD c 0 then (fs.getD c 0).toNat else if fs.getD c 0 = 0 then (xs.getD c 0).toNat + 1 else 0
def phi (xs fs : List Int) : Nat → Nat
  | 0 => 0
  | n + 1 => phi xs fs n + phiC xs fs n
theorem phi_le {xs fs gs : List Int} : ∀ {n : Nat}, (∀ c, c < n → phiC xs gs c ≤ phiC xs fs c) → phi xs gs n ≤ phi xs fs n
  | 0, _ => Nat.le_refl _
  | n + 1, h => Nat.add_le_add (phi_le fun c hc => h c (by omega)) (h n (by omega))
theorem phi_lt {xs fs gs : List Int} : ∀ {n : Nat}, (∀ c, c < n → phiC xs gs c ≤ phiC xs fs c) → (∃ c, c < n ∧ phiC xs gs c < phiC xs fs c) → phi xs gs n < phi xs fs n
  | 0, _, h => by obtain ⟨c, hc, _⟩ := h; omega
  | n + 1, h, h2 => by
    obtain ⟨c, hc, hl⟩ := h2
    by_cases e : c = n
    · subst e
      exact Nat.add_lt_add_of_le_of_lt (phi_le fun c hc => h c (by omega)) hl
    · exact Nat.add_lt_add_of_lt_of_le (phi_lt (fun c hc => h c (by omega)) ⟨c, by omega, hl⟩) (h n (by omega))
theorem phi_bound {xs fs : List Int} (hx : ∀ c, xs.getD c 0 ≤ 20) (hf : ∀ c, fs.getD c 0 ≤ 20) : ∀ n : Nat, phi xs fs n ≤ 21 * n
  | 0 => Nat.zero_le _
  | n + 1 => by
    have h1 := phi_bound hx hf n
    have h2 : phiC xs fs n ≤ 21 := by
      unfold phiC
      have := hx n
      have := hf n
      split
      · omega
      · split <;> omega
    show phi xs fs n + phiC xs fs n ≤ _
    omega
theorem tick_phi {W n : Nat} {xs : List Int} {s : FW} (h : burnL n s.f ≠ []) : phi xs (tickF W n xs s).f n < phi xs s.f n := by
  have key : ∀ c, c < n → phiC xs (tickF W n xs s).f c ≤ phiC xs s.f c ∧ (0 < s.f.getD c 0 → phiC xs (tickF W n xs s).f c < phiC xs s.f c) := by
    intro c hc
    have e : (tickF W n xs s).f.getD c 0 = fire2 W n xs s.f s.w c := fireT_get hc
    unfold phiC
    rw [e]
    unfold fire2
    by_cases h1 : s.f.getD c 0 = 1
    · rw [if_pos h1, if_neg (by omega), if_neg (by omega), if_pos (by omega)]
      omega
    rw [if_neg h1]
    by_cases h2 : 1 < s.f.getD c 0
    · rw [if_pos h2, if_pos (by omega), if_pos (by omega)]
      omega
    rw [if_neg h2]
    by_cases h3 : thrN W n xs s.f s.w c = true
    · have := thrN_fire h3
      rw [if_pos h3, if_pos this.2, if_neg (by omega), if_pos this.1]
      omega
    · rw [if_neg h3]
      exact ⟨Nat.le_refl _, fun h => by omega⟩
  refine phi_lt (fun c hc => (key c hc).1) ?_
  obtain ⟨x, hx⟩ := List.exists_mem_of_ne_nil _ h
  obtain ⟨c, rfl, hc, hp⟩ := cellsN_mem.1 hx
  exact ⟨c, hc, (key c hc).2 (by simpa using hp)⟩
theorem restK_done {W n : Nat} {xs : List Int} {m : Nat} {s : FW} (h : burnL n s.f = []) : restK W n xs m s = 0 := by
  cases m with
  | zero => rfl
  | succ m => rw [restK, if_pos h]
theorem restK_step {W n : Nat} {xs : List Int} {m : Nat} {s : FW} (h : burnL n s.f ≠ []) : restK W n xs (m + 1) s = restK W n xs m (tickF W n xs s) + 1 := by rw [restK, if_neg h]
theorem restK_le {W n : Nat} {xs : List Int} : ∀ {m : Nat} {s : FW}, restK W n xs m s ≤ m
  | 0, _ => Nat.zero_le _
  | m + 1, s => by
    unfold restK
    split
    · omega
    · have := restK_le (W := W) (n := n) (xs := xs) (m := m) (s := tickF W n xs s)
      omega
theorem tickN_facts {W n : Nat} {xs : List Int} {s : FW} (hf : s.f.length = n) (hw : s.w.length = n) (hp : ∀ x ∈ s.w, 0 ≤ x) : ∀ k, (tickN W n xs k s).f.length = n ∧ (tickN W n xs k s).w.length = n ∧ ∀ x ∈ (tickN W n xs k s).w, 0 ≤ x
  | 0 => ⟨hf, hw, hp⟩
  | k + 1 => ⟨fireT_length, wetT_length, wetT_pos⟩
end Go.Proofs.Ytkohfegajcmdbaa
