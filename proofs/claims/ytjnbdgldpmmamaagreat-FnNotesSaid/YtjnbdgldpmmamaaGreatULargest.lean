/- Lemmas. -/
import Derived.Test.YtjnbdgldpmmamaaGreatUSeason
import Derived.Test.YtjnbdgldpmmamaaGreatUSortI
import Derived.Test.YtjnbdgldpmmamaaGreatURd
import Derived.Test.YtjnbdgldpmmamaaGreatULst
import Derived.Deep.QuietTactic
import Derived.Deep.DeepCutAuto
/-
  Orders: the pure part.
-/
namespace Go.Proofs.YtjnbdgldpmmamaaGreat
set_option linter.unusedSimpArgs false
set_option linter.unusedVariables false
open Go.RowKit

theorem getD_memO {α : Type} {xs : List α} {d : α} {k : Nat} (hk : k < xs.length) : xs.getD k d ∈ xs := by
  rw [List.getD_eq_getElem?_getD, List.getElem?_eq_getElem hk]
  exact List.getElem_mem _
section
variable (lt : Int → Int → Bool)
end
section
variable {lt : Int → Int → Bool}
end
end Go.Proofs.YtjnbdgldpmmamaaGreat

namespace Go.Proofs.YtjnbdgldpmmamaaGreat
set_option linter.unusedSimpArgs false
set_option linter.unusedVariables false
open Go.RowKit

/-- where x comes to stand among the first j of A -/
def scanK (lt : Int → Int → Bool) (x : Int) (A : List Int) : Nat → Nat
  | 0 => 0
  | j + 1 => if lt x (A.getD j 0) then scanK lt x A j else j + 1
theorem scanK_le (lt : Int → Int → Bool) (x : Int) (A : List Int) : ∀ j, scanK lt x A j ≤ j
  | 0 => Nat.le_refl _
  | j + 1 => by
    rw [scanK]
    split
    · have := scanK_le lt x A j; omega
    · omega
theorem scanK_append (lt : Int → Int → Bool) (x : Int) (A C : List Int) : ∀ j, j ≤ A.length → scanK lt x (A ++ C) j = scanK lt x A j
  | 0, _ => rfl
  | j + 1, h => by
    rw [scanK, scanK, scanK_append lt x A C j (by omega)]
    rw [List.getD_eq_getElem?_getD, List.getElem?_append_left (by omega), ← List.getD_eq_getElem?_getD]
theorem sink_scan (lt : Int → Int → Bool) (x : Int) : ∀ (j : Nat) (A R : List Int), A.length = j → sinkL lt j (A ++ x :: R) = A.take (scanK lt x A j) ++ x :: (A.drop (scanK lt x A j) ++ R)
  | 0, A, R, h => by
    obtain rfl := List.eq_nil_of_length_eq_zero h
    rfl
  | j + 1, A, R, h => by
    obtain ⟨C, y, rfl⟩ : ∃ C y, A = C ++ [y] := by
      rcases List.eq_nil_or_concat A with rfl | ⟨C, y, rfl⟩
      · simp at h
      · exact ⟨C, y, by simp⟩
    have hC : C.length = j := by simpa using h
    have e1 : (C ++ [y] ++ x :: R).getD (j + 1) 0 = x := by
      rw [List.getD_eq_getElem?_getD, List.getElem?_append_right (by simp [hC])]
      simp [hC]
    have e2 : (C ++ [y] ++ x :: R).getD j 0 = y := by
      rw [List.append_assoc, List.getD_eq_getElem?_getD, List.getElem?_append_right (by omega)]
      simp [hC]
    have e3 : (C ++ [y]).getD j 0 = y := by
      rw [List.getD_eq_getElem?_getD, List.getElem?_append_right (by omega)]
      simp [hC]
    rw [sinkL, scanK, e1, e2, e3]
    split
    · have e4 : ((C ++ [y] ++ x :: R).set (j + 1) y).set j x = C ++ x :: (y :: R) := by
        rw [List.append_assoc, List.set_append_right _ _ (by omega), hC, List.set_append_right _ _ (by omega), hC]
        have : j + 1 - j = 1 := by omega
        rw [this, Nat.sub_self]
        rfl
      have hk := scanK_le lt x C j
      rw [e4, sink_scan lt x j C (y :: R) hC, scanK_append lt x C [y] j (by omega), List.take_append_of_le_length (by omega), List.drop_append_of_le_length (by omega)]
      simp
    · rw [List.take_of_length_le (by omega), List.drop_of_length_le (by omega)]
      simp
/-- 0, 1, .. -/
def idxL (n : Nat) : List Int := (List.range n).map fun (i : Nat) => (i : Int)
theorem idxL_length (n : Nat) : (idxL n).length = n := by simp [idxL]
theorem idxL_succ (n : Nat) : idxL (n + 1) = idxL n ++ [(n : Int)] := by simp [idxL, List.range_succ]
theorem idxL_drop {n k : Nat} (h : k < n) : (idxL n).drop k = (k : Int) :: (idxL n).drop (k + 1) := by
  rw [List.drop_eq_getElem_cons (by rw [idxL_length]; exact h)]
  simp [idxL]
/-- the first k numbers, each put to its place -/
def outS (lt : Int → Int → Bool) : Nat → List Int
  | 0 => []
  | k + 1 => (outS lt k).take (scanK lt k (outS lt k) k) ++ (k : Int) :: (outS lt k).drop (scanK lt k (outS lt k) k)
theorem outS_length (lt : Int → Int → Bool) : ∀ k, (outS lt k).length = k
  | 0 => rfl
  | k + 1 => by
    have h1 := outS_length lt k
    have h2 := scanK_le lt k (outS lt k) k
    rw [outS, List.length_append, List.length_take, List.length_cons, List.length_drop, h1]
    omega
theorem isortK_idx (lt : Int → Int → Bool) (n : Nat) : ∀ k, k ≤ n → isortK lt k (idxL n) = outS lt k ++ (idxL n).drop k
  | 0, _ => by simp [isortK, outS]
  | k + 1, h => by
    rw [isortK, isortK_idx lt n k (by omega), idxL_drop (show k < n by omega), sink_scan lt k k _ _ (outS_length lt k), outS]
    simp
theorem isortL_idx (lt : Int → Int → Bool) (n : Nat) : isortL lt (idxL n) = outS lt n := by
  rw [isortL, idxL_length, isortK_idx lt n n (Nat.le_refl _), List.drop_of_length_le (by rw [idxL_length]; exact Nat.le_refl _), List.append_nil]
theorem outS_mem (lt : Int → Int → Bool) : ∀ k, ∀ x ∈ outS lt k, 0 ≤ x ∧ x < k
  | 0 => by simp [outS]
  | k + 1 => by
    intro x hx
    rw [outS] at hx
    have h := outS_mem lt k
    rcases List.mem_append.1 hx with hx | hx
    · have := h x (List.mem_of_mem_take hx); omega
    · rcases List.mem_cons.1 hx with rfl | hx
      · omega
      · have := h x (List.mem_of_mem_drop hx); omega

theorem cmpI_neg (x y : Int) : decide (cmpI x y < 0) = decide (x < y) := by
  unfold cmpI
  by_cases h1 : x < y
  · rw [if_pos h1]; simp [h1]
  · rw [if_neg h1]
    by_cases h2 : y < x
    · rw [if_pos h2]; simp [h1]
    · rw [if_neg h2]; simp [h1]

set_option maxHeartbeats 1000000 in
theorem stable_any (B : Nat) (w0 : World) (G : List Ent) (g n c : Nat) (xs : List Int) (f : FuncId) (caps : Array Value) (lt : Int → Int → Bool) (w : World) (hM : Mem B w0 w (intE (some ⟨g, 0, none⟩) n c xs :: G)) (hn : n ≤ 19)
    (hcf : ∀ args w, (callFunc f args).run Tryz.prog w = .ok (.enter f args) w) (hc : Compares f caps lt B w0 G xs) :
    Calls Tryz.prog 52 #[.slice (some ⟨g, 0, none⟩) n c, .int .i64 n, .func (.func f) #[] caps] w fun e w' => e = .returned (.tuple #[]) ∧ Mem B w0 w' (intE (some ⟨g, 0, none⟩) n c (isortL lt xs) :: G) := by
  have HC := Lib.hid hc; clear hc
  go_enter Tryz.func52, Tryz.ntmps52
  go_wp2
  go_loopw [7, 8] (fun a b wr => a = .int .i64 0 ∧ b = .int .i64 20 ∧ wr = w) (fun _ _ _ => 0)
  case atStart => exact ⟨rfl, rfl, rfl⟩
  case round =>
    obtain ⟨rfl, rfl, rfl⟩ := hrel
    go_wp2_with fail
    refine (insertion_any B w0 G g n c xs f caps lt _ hM (by omega) hcf HC.out).mono ?_
    rintro e w2 ⟨rfl, hM2⟩
    go_wp2
    go_loopw [6] (fun a wr => a = .int .i64 20 ∧ wr = w2) (fun _ _ => 0)
    case atStart => exact ⟨rfl, rfl⟩
    case round =>
      obtain ⟨rfl, rfl⟩ := hrel
      go_wp2
      go_end0
      exact ⟨rfl, hM2⟩
theorem sortStable_any (B : Nat) (w0 : World) (G : List Ent) (g n c : Nat) (xs : List Int) (f : FuncId) (caps : Array Value) (lt : Int → Int → Bool) (w : World) (hM : Mem B w0 w (intE (some ⟨g, 0, none⟩) n c xs :: G)) (hn : n ≤ 19)
    (hcf : ∀ args w, (callFunc f args).run Tryz.prog w = .ok (.enter f args) w) (hc : Compares f caps lt B w0 G xs) :
    Calls Tryz.prog 25 #[.slice (some ⟨g, 0, none⟩) n c, .func (.func f) #[] caps] w fun e w' => e = .returned (.tuple #[]) ∧ Mem B w0 w' (intE (some ⟨g, 0, none⟩) n c (isortL lt xs) :: G) := by
  have HC := Lib.hid hc; clear hc
  go_enter Tryz.func25, Tryz.ntmps25
  go_wp2_with fail
  refine (stable_any B w0 G g n c xs f caps lt _ hM hn hcf HC.out).mono ?_
  rintro e w2 ⟨rfl, hM2⟩
  go_wp2
  go_end0
  exact ⟨rfl, hM2⟩

/-- one number in a block of its own -/
theorem Mem.oneInt {B : Nat} {w0 w : World} {G : List Ent} {b : Nat} {x : Int} (h : Mem B w0 w G) (i : In G (rowE b 3 #[.int .i64 x])) (hx : I64 x) : Ints w (some ⟨b, 0, none⟩) 1 1 [x] := by
  have hr := h.row i
  refine ⟨rfl, Nat.le_refl _, by unfold maxLen; omega, by simp, by omega, by simpa using hx, fun k hk => ⟨b, 0, rfl, hr.lt, fun j hj => ?_⟩⟩
  obtain rfl : j = 0 := by omega
  rw [hr.cell]
  rfl
theorem own_of {B : Nat} {w : World} {a : Option Addr} {n c : Nat} {xs : List Int} (hr : w.ownsRow B 3 1 (.slice a n c) n (cellsI xs)) (hl : xs.length = n) (hn : n ≤ 17592186044416) (hw : ∀ x ∈ xs, I64 x) : Own B w a n c xs := ⟨hl, hn, hw, hr⟩
theorem idxL_wf {n : Nat} (h : n ≤ 1000) : ∀ x ∈ idxL n, I64 x := by
  intro x hx
  obtain ⟨i, hi, rfl⟩ := List.mem_map.1 hx
  have := List.mem_range.1 hi
  unfold I64; omega

end Go.Proofs.YtjnbdgldpmmamaaGreat
