import Derived.Test.YtdhgkfmehegeoaaGood
import Derived.Test.YtdhgkfmehegeoaaMir
namespace Go.Proofs.Ytdhgkfmehegeoaa
set_option linter.unusedSimpArgs false
set_option linter.unusedVariables false
open Go.RowKit

/-- a wind that is valid -/
def windB (e s q : Int) : Bool := inB e (-1) 1 && inB s (-1) 1 && (e != 0 || s != 0) && inB q 1 10
/-- where a wind blows from a cell -/
def toI (W H : Nat) (e s : Int) (k : Nat) : Int :=
  if inB (((k % W : Nat) : Int) + e) 0 ((W : Int) - 1) && inB (((k / W : Nat) : Int) + s) 0 ((H : Int) - 1) then (((k / W : Nat) : Int) + s) * W + (((k % W : Nat) : Int) + e) else -1
theorem toI_lt {W H : Nat} {e s : Int} {k : Nat} (h : 0 ≤ toI W H e s k) : toI W H e s k < (W * H : Nat) := by
  unfold toI at h ⊢
  split at h
  · rename_i h1
    rw [if_pos h1]
    obtain ⟨a1, a2⟩ := (Bool.and_eq_true _ _).mp h1
    have b1 := inB_true a1
    have b2 := inB_true a2
    generalize ((k / W : Nat) : Int) + s = r at *
    generalize ((k % W : Nat) : Int) + e = c at *
    have hm : r * (W : Int) ≤ ((H : Int) - 1) * W := Int.mul_le_mul_of_nonneg_right b2.2 (by omega)
    have he : ((H : Int) - 1) * W = (W * H : Nat) - (W : Int) := by rw [Int.sub_mul, Int.one_mul, Int.mul_comm]; simp
    omega
  · omega

/-- one cell's part -/
def partI (q : Int) (xs : List Int) (k : Nat) : Int := xs.getD k 0 * q / 10
/-- the first k cells have been blown -/
def blowK (W H : Nat) (e s q : Int) (xs : List Int) : Nat → List Int
  | 0 => xs
  | k + 1 =>
    let ys := (blowK W H e s q xs k).set k ((blowK W H e s q xs k).getD k 0 - partI q xs k)
    if 0 ≤ toI W H e s k then ys.set (toI W H e s k).toNat (ys.getD (toI W H e s k).toNat 0 + partI q xs k) else ys
def leftK (W H : Nat) (e s q : Int) (xs : List Int) : Nat → Int
  | 0 => 0
  | k + 1 => if 0 ≤ toI W H e s k then leftK W H e s q xs k else leftK W H e s q xs k + partI q xs k
theorem part_bound {q : Int} (hq : 1 ≤ q ∧ q ≤ 10) {xs : List Int} (hx : ∀ x ∈ xs, 0 ≤ x ∧ x ≤ 10000) {k : Nat} (hk : k < xs.length) : 0 ≤ partI q xs k ∧ partI q xs k ≤ 10000 := by
  have h1 := hx _ (getD_mem hk)
  have h2 := mul_bound (a := 10000) (b := 10) h1.1 h1.2 (by omega) hq.2
  unfold partI
  omega
theorem blowK_length (W H : Nat) (e s q : Int) (xs : List Int) (k : Nat) : (blowK W H e s q xs k).length = xs.length := by
  induction k with
  | zero => rfl
  | succ k ih => simp only [blowK]; split <;> simp [ih]
theorem getD_bound {ys : List Int} {B : Int} (hB : 0 ≤ B) (h : ∀ y ∈ ys, -B ≤ y ∧ y ≤ B) (k : Nat) : -B ≤ ys.getD k 0 ∧ ys.getD k 0 ≤ B := by
  by_cases hk : k < ys.length
  · exact h _ (getD_mem hk)
  · have : ys.getD k 0 = 0 := by rw [List.getD_eq_getElem?_getD, List.getElem?_eq_none (by omega)]; rfl
    omega
theorem set_bound {ys : List Int} {B v : Int} (h : ∀ y ∈ ys, -B ≤ y ∧ y ≤ B) (hv : -B ≤ v ∧ v ≤ B) (k : Nat) : ∀ y ∈ ys.set k v, -B ≤ y ∧ y ≤ B := by
  intro y hy
  rcases List.mem_or_eq_of_mem_set hy with h1 | rfl
  · exact h y h1
  · exact hv
theorem blowK_bound {W H : Nat} {e s q : Int} (hq : 1 ≤ q ∧ q ≤ 10) {xs : List Int} (hx : ∀ x ∈ xs, 0 ≤ x ∧ x ≤ 10000) : ∀ k, k ≤ xs.length → ∀ y ∈ blowK W H e s q xs k, -(10000 * (2 * k + 1) : Int) ≤ y ∧ y ≤ 10000 * (2 * k + 1) := by
  intro k
  induction k with
  | zero => intro _ y hy; have := hx y hy; omega
  | succ k ih =>
    intro hk
    have h0 := ih (by omega)
    have hp := part_bound hq hx (show k < xs.length by omega)
    have g0 := getD_bound (by omega) h0 k
    have h1 := set_bound (B := 10000 * (2 * k + 2)) (ys := blowK W H e s q xs k) (v := (blowK W H e s q xs k).getD k 0 - partI q xs k) (fun y hy => by have := h0 y hy; omega) (by omega) k
    simp only [blowK]
    split
    · have g1 := getD_bound (by omega) h1 (toI W H e s k).toNat
      exact set_bound (fun y hy => by have := h1 y hy; omega) (by omega) _
    · intro y hy
      have := h1 y hy
      omega
theorem leftK_bound {W H : Nat} {e s q : Int} (hq : 1 ≤ q ∧ q ≤ 10) {xs : List Int} (hx : ∀ x ∈ xs, 0 ≤ x ∧ x ≤ 10000) : ∀ k, k ≤ xs.length → 0 ≤ leftK W H e s q xs k ∧ leftK W H e s q xs k ≤ 10000 * k := by
  intro k
  induction k with
  | zero => intro _; simp [leftK]
  | succ k ih =>
    intro hk
    have h0 := ih (by omega)
    have hp := part_bound hq hx (show k < xs.length by omega)
    simp only [leftK]
    split <;> omega

set_option maxRecDepth 100000 in
set_option maxHeartbeats 400000 in
theorem l19Wind_any (e s q : Int) (w : World) :
    Calls Try.prog 74 #[.agg #[.int .i64 e, .int .i64 s, .int .i64 q]] w fun o w' => o = .returned (.bool (windB e s q)) ∧ Below w.heap.size w w' := by
  cases h1 : inB e (-1) 1
  · skip
    go_enter Try.func74, Try.ntmps74
    go_wp2_with (go_at_call 78; refine (l1In_any _ _ _ _).mono ?_; rintro e w' ⟨rfl, rfl⟩; rw [h1])
    go_ret
    exact ⟨rb (by simp [windB, h1]), by (repeat' (first | exact Below.refl _ _ | with_reducible refine Below.setCell ?_ (by first | omega | (simp; done) | (simp; omega)) _ | with_reducible refine Below.alloc ?_ (by first | omega | (simp; done) | (simp; omega)) _ | with_reducible refine Below.drew ?_ | with_reducible refine bdrewN ?_ _))⟩
  cases h2 : inB s (-1) 1
  · skip
    go_enter Try.func74, Try.ntmps74
    go_wp2_with (go_at_call 78; refine (l1In_any _ _ _ _).mono ?_; rintro e w' ⟨rfl, rfl⟩; first | rw [h1] | rw [h2])
    go_ret
    exact ⟨rb (by simp [windB, h1, h2]), by (repeat' (first | exact Below.refl _ _ | with_reducible refine Below.setCell ?_ (by first | omega | (simp; done) | (simp; omega)) _ | with_reducible refine Below.alloc ?_ (by first | omega | (simp; done) | (simp; omega)) _ | with_reducible refine Below.drew ?_ | with_reducible refine bdrewN ?_ _))⟩
  by_cases h3 : e = 0
  · have z3 : (e != 0) = false := by simp [h3]
    have H3 := Lib.hid h3
    clear h3
    by_cases h4 : s = 0
    · have z4 : (s != 0) = false := by simp [h4]
      have H4 := Lib.hid h4
      clear h4
      go_enter Try.func74, Try.ntmps74
      go_wp2_with (go_at_call 78; refine (l1In_any _ _ _ _).mono ?_; rintro e w' ⟨rfl, rfl⟩; first | rw [h1] | rw [h2])
      go_ret
      exact ⟨rb (by simp [windB, H3.out, H4.out]), by (repeat' (first | exact Below.refl _ _ | with_reducible refine Below.setCell ?_ (by first | omega | (simp; done) | (simp; omega)) _ | with_reducible refine Below.alloc ?_ (by first | omega | (simp; done) | (simp; omega)) _ | with_reducible refine Below.drew ?_ | with_reducible refine bdrewN ?_ _))⟩
    · have z4 : (s != 0) = true := by simpa using h4
      go_enter Try.func74, Try.ntmps74
      go_wp2_with (go_at_call 78; refine (l1In_any _ _ _ _).mono ?_; rintro e w' ⟨rfl, rfl⟩; first | rw [h1] | rw [h2] | skip)
      go_ret
      exact ⟨rb (by simp [windB, h1, h2, z4]), by (repeat' (first | exact Below.refl _ _ | with_reducible refine Below.setCell ?_ (by first | omega | (simp; done) | (simp; omega)) _ | with_reducible refine Below.alloc ?_ (by first | omega | (simp; done) | (simp; omega)) _ | with_reducible refine Below.drew ?_ | with_reducible refine bdrewN ?_ _))⟩
  · have z3 : (e != 0) = true := by simpa using h3
    go_enter Try.func74, Try.ntmps74
    go_wp2_with (go_at_call 78; refine (l1In_any _ _ _ _).mono ?_; rintro e w' ⟨rfl, rfl⟩; first | rw [h1] | rw [h2] | skip)
    go_ret
    exact ⟨rb (by simp [windB, h1, h2, z3]), by (repeat' (first | exact Below.refl _ _ | with_reducible refine Below.setCell ?_ (by first | omega | (simp; done) | (simp; omega)) _ | with_reducible refine Below.alloc ?_ (by first | omega | (simp; done) | (simp; omega)) _ | with_reducible refine Below.drew ?_ | with_reducible refine bdrewN ?_ _))⟩
set_option maxRecDepth 100000 in
set_option maxHeartbeats 400000 in
theorem isWind_any (e s q : Int) (w : World) :
    Calls Try.prog 65 #[.agg #[.int .i64 e, .int .i64 s, .int .i64 q]] w fun o w' => o = .returned (.bool (windB e s q)) ∧ Below w.heap.size w w' := by
  cases h1 : inB e (-1) 1
  · skip
    go_enter Try.func65, Try.ntmps65
    go_wp2_with (go_at_call 70; refine (in_any _ _ _ _).mono ?_; rintro e w' ⟨rfl, rfl⟩; rw [h1])
    go_ret
    exact ⟨rb (by simp [windB, h1]), by (repeat' (first | exact Below.refl _ _ | with_reducible refine Below.setCell ?_ (by first | omega | (simp; done) | (simp; omega)) _ | with_reducible refine Below.alloc ?_ (by first | omega | (simp; done) | (simp; omega)) _ | with_reducible refine Below.drew ?_ | with_reducible refine bdrewN ?_ _))⟩
  cases h2 : inB s (-1) 1
  · skip
    go_enter Try.func65, Try.ntmps65
    go_wp2_with (go_at_call 70; refine (in_any _ _ _ _).mono ?_; rintro e w' ⟨rfl, rfl⟩; first | rw [h1] | rw [h2])
    go_ret
    exact ⟨rb (by simp [windB, h1, h2]), by (repeat' (first | exact Below.refl _ _ | with_reducible refine Below.setCell ?_ (by first | omega | (simp; done) | (simp; omega)) _ | with_reducible refine Below.alloc ?_ (by first | omega | (simp; done) | (simp; omega)) _ | with_reducible refine Below.drew ?_ | with_reducible refine bdrewN ?_ _))⟩
  by_cases h3 : e = 0
  · have z3 : (e != 0) = false := by simp [h3]
    have H3 := Lib.hid h3
    clear h3
    by_cases h4 : s = 0
    · have z4 : (s != 0) = false := by simp [h4]
      have H4 := Lib.hid h4
      clear h4
      go_enter Try.func65, Try.ntmps65
      go_wp2_with (go_at_call 70; refine (in_any _ _ _ _).mono ?_; rintro e w' ⟨rfl, rfl⟩; first | rw [h1] | rw [h2])
      go_ret
      exact ⟨rb (by simp [windB, H3.out, H4.out]), by (repeat' (first | exact Below.refl _ _ | with_reducible refine Below.setCell ?_ (by first | omega | (simp; done) | (simp; omega)) _ | with_reducible refine Below.alloc ?_ (by first | omega | (simp; done) | (simp; omega)) _ | with_reducible refine Below.drew ?_ | with_reducible refine bdrewN ?_ _))⟩
    · have z4 : (s != 0) = true := by simpa using h4
      go_enter Try.func65, Try.ntmps65
      go_wp2_with (go_at_call 70; refine (in_any _ _ _ _).mono ?_; rintro e w' ⟨rfl, rfl⟩; first | rw [h1] | rw [h2] | skip)
      go_ret
      exact ⟨rb (by simp [windB, h1, h2, z4]), by (repeat' (first | exact Below.refl _ _ | with_reducible refine Below.setCell ?_ (by first | omega | (simp; done) | (simp; omega)) _ | with_reducible refine Below.alloc ?_ (by first | omega | (simp; done) | (simp; omega)) _ | with_reducible refine Below.drew ?_ | with_reducible refine bdrewN ?_ _))⟩
  · have z3 : (e != 0) = true := by simpa using h3
    go_enter Try.func65, Try.ntmps65
    go_wp2_with (go_at_call 70; refine (in_any _ _ _ _).mono ?_; rintro e w' ⟨rfl, rfl⟩; first | rw [h1] | rw [h2] | skip)
    go_ret
    exact ⟨rb (by simp [windB, h1, h2, z3]), by (repeat' (first | exact Below.refl _ _ | with_reducible refine Below.setCell ?_ (by first | omega | (simp; done) | (simp; omega)) _ | with_reducible refine Below.alloc ?_ (by first | omega | (simp; done) | (simp; omega)) _ | with_reducible refine Below.drew ?_ | with_reducible refine bdrewN ?_ _))⟩

end Go.Proofs.Ytdhgkfmehegeoaa
