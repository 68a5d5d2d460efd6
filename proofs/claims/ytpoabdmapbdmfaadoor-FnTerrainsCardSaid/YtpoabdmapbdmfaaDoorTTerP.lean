/-
  The texts of terrains: the plain laws.
-/
import Derived.Test.YtpoabdmapbdmfaaDoorTVoc
import Derived.Test.YtpoabdmapbdmfaaDoorTStr
import Derived.Test.YtpoabdmapbdmfaaDoorTNbr
/-
  The texts of terrains: the plain laws.
-/
namespace Go.Proofs.YtpoabdmapbdmfaaDoor
set_option linter.unusedSimpArgs false
set_option linter.unusedVariables false
open Go.RowKit

/-- the letter of a cell; the end of a line behind the last column -/
def cellC (b : Int) : UInt8 := if b = 0 then 46 else UInt8.ofNat (96 + b.toNat)
def lineE (W k : Nat) : Bs := if k % W = W - 1 then [10] else []
def textTo (W : Nat) (xs : List Int) : Nat → Bs
  | 0 => []
  | k + 1 => textTo W xs k ++ (cellC (xs.getD k 0) :: lineE W k)
def textB (W : Nat) (xs : List Int) : Bs := textTo W xs xs.length
def textR (W H : Int) (xs : List Int) : Bs := if goodB 20 W H xs then textB W.toNat xs else []
/-- what a text tells -/
def notN (c : UInt8) : Bool := !(c == 10)
def burnC (c : UInt8) : Int := if c = 46 then 0 else (c.toNat : Int) - 97 + 1
def burnL (s : Bs) : List Int := (s.filter notN).map burnC
def wideL (s : Bs) : Nat := (s.takeWhile notN).length
def highL (s : Bs) : Nat := (s.filter fun c => !notN c).length
def parseB (s : Bs) : Bool := goodB 20 (wideL s) (highL s) (burnL s) && decide (textB (wideL s) (burnL s) = s)

theorem cellC_val {b : Int} (h : 0 ≤ b ∧ b ≤ 20) : notN (cellC b) = true ∧ burnC (cellC b) = b := by
  unfold cellC
  by_cases h0 : b = 0
  · subst h0
    exact ⟨rfl, rfl⟩
  · rw [if_neg h0]
    obtain ⟨m, rfl⟩ := Int.eq_ofNat_of_zero_le h.1
    have hm : 1 ≤ m ∧ m ≤ 20 := by omega
    have hv : (UInt8.ofNat (96 + m)).toNat = 96 + m := by
      rw [UInt8.toNat_ofNat']
      omega
    have e10 : (UInt8.ofNat (96 + m) == 10) = false := by
      rw [beq_eq_false_iff_ne]
      intro e
      rw [e] at hv
      have : (10 : UInt8).toNat = 10 := rfl
      omega
    have e46 : UInt8.ofNat (96 + m) ≠ 46 := by
      intro e
      rw [e] at hv
      have : (46 : UInt8).toNat = 46 := rfl
      omega
    rw [Int.toNat_natCast]
    refine ⟨by unfold notN; rw [e10]; rfl, ?_⟩
    rw [burnC, if_neg e46, hv]
    omega
theorem lineE_filter (W k : Nat) : (lineE W k).filter notN = [] := by
  unfold lineE
  split <;> rfl
theorem text_take {xs : List Int} {k : Nat} (h : k < xs.length) : xs.take (k + 1) = xs.take k ++ [xs.getD k 0] := by
  rw [List.take_succ_eq_append_getElem h]
  simp [List.getD, h]
theorem text_burn {W : Nat} {xs : List Int} (hx : ∀ x ∈ xs, 0 ≤ x ∧ x ≤ 20) : ∀ k, k ≤ xs.length → burnL (textTo W xs k) = xs.take k
  | 0, _ => rfl
  | k + 1, hk => by
    have ih := text_burn (W := W) hx k (by omega)
    have hc := cellC_val (hx (xs.getD k 0) (getD_mem (by omega)))
    unfold burnL at ih ⊢
    rw [textTo, List.filter_append, List.filter_cons, hc.1, lineE_filter, List.map_append, ih, text_take (by omega)]
    rw [if_pos rfl, List.map_cons, hc.2, List.map_nil]
theorem div_line {W : Nat} (hW : 0 < W) (k : Nat) : (k + 1) / W = k / W + if k % W = W - 1 then 1 else 0 := by
  have h1 := Nat.div_add_mod k W
  have h2 := Nat.mod_lt k hW
  generalize k / W = q at h1 ⊢
  generalize k % W = r at h1 h2 ⊢
  subst h1
  split
  · rename_i h
    have e : W * q + r + 1 = W * (q + 1) := by rw [Nat.mul_add]; omega
    rw [e, Nat.mul_div_cancel_left _ hW]
  · rename_i h
    have e : W * q + r + 1 = r + 1 + W * q := by omega
    rw [e, Nat.add_mul_div_left _ _ hW, Nat.div_eq_of_lt (by omega)]
    omega
theorem text_high {W : Nat} {xs : List Int} (hW : 0 < W) (hx : ∀ x ∈ xs, 0 ≤ x ∧ x ≤ 20) : ∀ k, k ≤ xs.length → highL (textTo W xs k) = k / W
  | 0, _ => by rw [Nat.zero_div]; rfl
  | k + 1, hk => by
    have ih := text_high hW hx k (by omega)
    have hc := cellC_val (hx (xs.getD k 0) (getD_mem (by omega)))
    unfold highL at ih ⊢
    rw [textTo, List.filter_append, List.length_append, ih, List.filter_cons, hc.1, div_line hW]
    have : ((lineE W k).filter fun c => !notN c).length = if k % W = W - 1 then 1 else 0 := by
      unfold lineE
      split <;> rfl
    simpa using this
theorem text_len {W : Nat} {xs : List Int} (hW : 0 < W) : ∀ k, (textTo W xs k).length = k + k / W
  | 0 => by rw [Nat.zero_div]; rfl
  | k + 1 => by
    have ih := text_len (xs := xs) hW k
    have : (lineE W k).length = if k % W = W - 1 then 1 else 0 := by
      unfold lineE
      split <;> rfl
    rw [textTo, List.length_append, List.length_cons, ih, this, div_line hW]
    omega
theorem take_row {W : Nat} {xs : List Int} (hx : ∀ x ∈ xs, 0 ≤ x ∧ x ≤ 20) (hn : W ≤ xs.length) : ∀ k, k < W → (∀ c ∈ textTo W xs k, notN c = true) ∧ (textTo W xs k).length = k
  | 0, _ => ⟨fun c hc => (by cases hc), rfl⟩
  | k + 1, hk => by
    obtain ⟨h1, h2⟩ := take_row hx hn k (by omega)
    have hc := cellC_val (hx (xs.getD k 0) (getD_mem (by omega)))
    have hl : lineE W k = [] := by
      unfold lineE
      rw [Nat.mod_eq_of_lt (by omega), if_neg (by omega)]
    rw [textTo, hl]
    refine ⟨fun c hcm => ?_, by rw [List.length_append, h2]; rfl⟩
    rcases List.mem_append.1 hcm with h | h
    · exact h1 c h
    · rw [List.mem_singleton] at h
      subst h
      exact hc.1
theorem text_pre (W : Nat) (xs : List Int) {k m : Nat} (h : k ≤ m) : ∃ r, textTo W xs m = textTo W xs k ++ r := by
  induction m with
  | zero =>
    obtain rfl : k = 0 := by omega
    exact ⟨[], (List.append_nil _).symm⟩
  | succ m ih =>
    by_cases e : k = m + 1
    · subst e
      exact ⟨[], (List.append_nil _).symm⟩
    · obtain ⟨r, hr⟩ := ih (by omega)
      exact ⟨r ++ (cellC (xs.getD m 0) :: lineE W m), by rw [textTo, hr, List.append_assoc]⟩
theorem takeWhile_pre {p : UInt8 → Bool} : ∀ {A r : Bs} {x : UInt8}, (∀ c ∈ A, p c = true) → p x = false → (A ++ x :: r).takeWhile p = A
  | [], r, x, _, hx => by rw [List.nil_append, List.takeWhile_cons, hx]; rfl
  | a :: A, r, x, hA, hx => by
    rw [List.cons_append, List.takeWhile_cons, hA a (List.mem_cons_self ..), takeWhile_pre (fun c hc => hA c (List.mem_cons_of_mem _ hc)) hx]
    rfl
theorem text_wide {W : Nat} {xs : List Int} (hW : 0 < W) (hx : ∀ x ∈ xs, 0 ≤ x ∧ x ≤ 20) (hn : W ≤ xs.length) : wideL (textB W xs) = W := by
  obtain ⟨r, hr⟩ := text_pre W xs hn
  obtain ⟨v, rfl⟩ : ∃ v, W = v + 1 := ⟨W - 1, by omega⟩
  obtain ⟨h1, h2⟩ := take_row hx hn v (by omega)
  have hc := cellC_val (hx (xs.getD v 0) (getD_mem (by omega)))
  have hl : lineE (v + 1) v = [10] := by
    unfold lineE
    rw [Nat.mod_eq_of_lt (by omega), if_pos (by omega)]
  unfold wideL textB
  rw [hr, textTo, hl]
  have e : textTo (v + 1) xs v ++ [cellC (xs.getD v 0), 10] ++ r = (textTo (v + 1) xs v ++ [cellC (xs.getD v 0)]) ++ 10 :: r := by simp
  rw [e, takeWhile_pre ?_ rfl]
  · rw [List.length_append, h2]; rfl
  · intro c hcm
    rcases List.mem_append.1 hcm with h | h
    · exact h1 c h
    · rw [List.mem_singleton] at h
      subst h
      exact hc.1
/-- a text is read back -/
theorem text_back {W H : Nat} {xs : List Int} (h : goodB 20 W H xs = true) : wideL (textB W xs) = W ∧ highL (textB W xs) = H ∧ burnL (textB W xs) = xs ∧ parseB (textB W xs) = true ∧ (textB W xs).length ≤ 30 := by
  obtain ⟨Wn, Hn, e1, e2, p1, p2, p3, p4, hl, h25, hx⟩ := goodB_true h
  obtain rfl : W = Wn := by omega
  obtain rfl : H = Hn := by omega
  have hWn : W ≤ xs.length := by rw [hl]; exact Nat.le_mul_of_pos_right _ p3
  have a1 := text_wide (by omega) hx hWn
  have a2 : highL (textB W xs) = H := by
    unfold textB
    rw [text_high (by omega) hx _ (Nat.le_refl _), hl, Nat.mul_div_cancel_left _ (by omega)]
  have a3 : burnL (textB W xs) = xs := by
    unfold textB
    rw [text_burn hx _ (Nat.le_refl _), List.take_of_length_le (Nat.le_refl _)]
  refine ⟨a1, a2, a3, ?_, ?_⟩
  · rw [parseB, a1, a2, a3, h, decide_eq_true rfl]
    rfl
  · unfold textB
    rw [text_len (by omega), hl, Nat.mul_div_cancel_left _ (by omega)]
    omega
theorem parse_good {s : Bs} (h : parseB s = true) : goodB 20 (wideL s) (highL s) (burnL s) = true ∧ textB (wideL s) (burnL s) = s ∧ s.length ≤ 30 := by
  rw [parseB, Bool.and_eq_true, decide_eq_true_eq] at h
  have := (text_back h.1).2.2.2.2
  rw [h.2] at this
  exact ⟨h.1, h.2, this⟩

/-- lists without doubles -/
theorem nodup_sub : ∀ {l m : List Nat}, l.Nodup → (∀ x ∈ l, x ∈ m) → l.length ≤ m.length
  | [], _, _, _ => Nat.zero_le _
  | x :: l, m, hl, hs => by
    rw [List.nodup_cons] at hl
    have hx : x ∈ m := hs x (List.mem_cons_self ..)
    have h2 := nodup_sub (l := l) (m := m.erase x) hl.2 (fun y hy => by
      have hne : y ≠ x := fun e => hl.1 (e ▸ hy)
      rw [List.mem_erase_of_ne hne]
      exact hs y (List.mem_cons_of_mem _ hy))
    have h3 := List.length_erase_of_mem hx
    have h4 : 0 < m.length := List.length_pos_of_mem hx
    rw [List.length_cons]
    omega
theorem mirL_len (W : Nat) (xs : List Int) : (mirL W xs).length = xs.length := by unfold mirL; simp
theorem mirL_get {W H : Nat} {xs : List Int} (hl : xs.length = W * H) {k : Nat} (hk : k < xs.length) : (mirL W xs).getD k 0 = xs.getD (mirI W k) 0 := by
  unfold mirL
  rw [List.getD_eq_getElem?_getD, List.getElem?_map, List.getElem?_range hk]
  rfl
theorem mirL_mirL {W H : Nat} {xs : List Int} (hW : 0 < W) (hl : xs.length = W * H) : mirL W (mirL W xs) = xs := by
  apply List.ext_getElem (by rw [mirL_len, mirL_len])
  intro i h1 h2
  have hi : i < W * H := by omega
  have hm := mirI_lt hW hi
  have e1 := mirL_get (xs := mirL W xs) (by rw [mirL_len]; exact hl) (k := i) (by rw [mirL_len]; exact h2)
  rw [mirL_get hl (by omega), mirI_mirI hW] at e1
  rw [List.getD_eq_getElem?_getD, List.getD_eq_getElem?_getD, List.getElem?_eq_getElem h1, List.getElem?_eq_getElem h2] at e1
  exact e1
theorem mirL_good {W H : Int} {xs : List Int} (h : goodB 20 W H xs = true) : goodB 20 W H (mirL W.toNat xs) = true := by
  obtain ⟨Wn, Hn, rfl, rfl, p1, p2, p3, p4, hl, h25, hx⟩ := goodB_true h
  rw [Int.toNat_natCast]
  unfold goodB at h ⊢
  simp only [Bool.and_eq_true, decide_eq_true_eq, List.all_eq_true] at h ⊢
  rw [mirL_len]
  refine ⟨h.1, fun x hx' => ?_⟩
  obtain ⟨i, hi, rfl⟩ := List.mem_map.1 hx'
  rw [List.mem_range] at hi
  exact h.2 _ (getD_mem (by rw [hl] at hi ⊢; exact mirI_lt (by omega) hi))
theorem mir_le {W H : Nat} {xs : List Int} (hW : 0 < W) (hl : xs.length = W * H) : (cellsN xs.length (brn (mirL W xs))).length ≤ (cellsN xs.length (brn xs)).length := by
  unfold cellsN
  rw [List.length_map, List.length_map]
  have h1 : (((List.range xs.length).filter (brn (mirL W xs))).map (mirI W)).Nodup := by
    unfold List.Nodup
    rw [List.pairwise_map]
    refine List.Pairwise.imp (fun {a b} hab => ?_) (List.Pairwise.filter _ List.nodup_range)
    intro e
    have := congrArg (mirI W) e
    rw [mirI_mirI hW, mirI_mirI hW] at this
    exact hab this
  have h2 := nodup_sub (m := (List.range xs.length).filter (brn xs)) h1 (fun y hy => by
    obtain ⟨i, hi, rfl⟩ := List.mem_map.1 hy
    rw [List.mem_filter, List.mem_range] at hi ⊢
    refine ⟨by rw [hl]; exact mirI_lt hW (by rw [← hl]; exact hi.1), ?_⟩
    have := hi.2
    unfold brn at this ⊢
    rwa [mirL_get hl hi.1] at this)
  rwa [List.length_map] at h2
theorem mir_burn {W H : Int} {xs : List Int} (h : goodB 20 W H xs = true) : (burnR W H (mirL W.toNat xs)).1.length = (burnR W H xs).1.length := by
  rw [burnR, burnR, h, mirL_good h]
  obtain ⟨Wn, Hn, rfl, rfl, p1, p2, p3, p4, hl, h25, hx⟩ := goodB_true h
  rw [Int.toNat_natCast]
  show (cellsN (mirL Wn xs).length (brn (mirL Wn xs))).length = (cellsN xs.length (brn xs)).length
  have a1 := mir_le (W := Wn) (by omega) hl
  have a2 := mir_le (W := Wn) (xs := mirL Wn xs) (by omega) (by rw [mirL_len]; exact hl)
  rw [mirL_mirL (by omega) hl, mirL_len] at a2
  rw [mirL_len]
  omega
end Go.Proofs.YtpoabdmapbdmfaaDoor
