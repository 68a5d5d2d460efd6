/- Lemmas. -/
import Derived.Test.YtpoabdmapbdmfaaDoorPLsFire
namespace Go.Proofs.YtpoabdmapbdmfaaDoor
set_option linter.unusedSimpArgs false
set_option linter.unusedVariables false
open Go.RowKit

def fireB (x : FireI) : Bool := inB x.day 0 364 && inB x.cause 0 4 && inB x.hect 0 100000 && inB x.hours 1 2000
theorem fireB_true {x : FireI} (h : fireB x = true) : (0 ≤ x.day ∧ x.day ≤ 364) ∧ (0 ≤ x.cause ∧ x.cause ≤ 4) ∧ (0 ≤ x.hect ∧ x.hect ≤ 100000) ∧ (1 ≤ x.hours ∧ x.hours ≤ 2000) := by
  simp only [fireB, Bool.and_eq_true] at h
  exact ⟨inB_true h.1.1.1, inB_true h.1.1.2, inB_true h.1.2, inB_true h.2⟩

theorem isDay_any (d : Int) (w : World) : Calls Tryd.prog 67 #[.int .i64 d] w fun e w' => e = .returned (.bool (inB d 0 364)) ∧ w = w' := by
  go_enter Tryd.func67, Tryd.ntmps67
  go_wp2_with (go_at_call 48; refine (in_any _ _ _ _).mono ?_; rintro e w' ⟨rfl, rfl⟩)
  go_ret
  exact ⟨rfl, rfl⟩

set_option maxRecDepth 100000 in
set_option maxHeartbeats 400000 in
theorem isFire_any (x : FireI) (w : World) :
    Calls Tryd.prog 20 #[x.val] w fun o w' => o = .returned (.bool (fireB x)) ∧ Below w.heap.size w w' := by
  obtain ⟨x0, x1, x2, x3⟩ := x
  cases h0 : inB x0 0 364
  · have HF := Lib.hid (show fireB ⟨x0, x1, x2, x3⟩ = false by simp [fireB, h0])
    go_enter Tryd.func20, Tryd.ntmps20
    go_wp2_with (first | (go_at_call 48; refine (in_any _ _ _ _).mono ?_; rintro e w' ⟨rfl, rfl⟩) | (go_at_call 67; refine (isDay_any _ _).mono ?_; rintro e w' ⟨rfl, rfl⟩) | (go_at_call 65; refine (l1In_any _ _ _ _).mono ?_; rintro e w' ⟨rfl, rfl⟩))
    go_ret
    exact ⟨rb HF.out.symm, by (repeat' (first | exact Below.refl _ _ | with_reducible refine Below.setCell ?_ (by first | omega | (simp; done) | (simp; omega)) _ | with_reducible refine Below.alloc ?_ (by first | omega | (simp; done) | (simp; omega)) _ | with_reducible refine Below.drew ?_ | with_reducible refine bdrewN ?_ _))⟩
  cases h1 : inB x1 0 4
  · have HF := Lib.hid (show fireB ⟨x0, x1, x2, x3⟩ = false by simp [fireB, h1])
    go_enter Tryd.func20, Tryd.ntmps20
    go_wp2_with (first | (go_at_call 48; refine (in_any _ _ _ _).mono ?_; rintro e w' ⟨rfl, rfl⟩) | (go_at_call 67; refine (isDay_any _ _).mono ?_; rintro e w' ⟨rfl, rfl⟩) | (go_at_call 65; refine (l1In_any _ _ _ _).mono ?_; rintro e w' ⟨rfl, rfl⟩))
    go_ret
    exact ⟨rb HF.out.symm, by (repeat' (first | exact Below.refl _ _ | with_reducible refine Below.setCell ?_ (by first | omega | (simp; done) | (simp; omega)) _ | with_reducible refine Below.alloc ?_ (by first | omega | (simp; done) | (simp; omega)) _ | with_reducible refine Below.drew ?_ | with_reducible refine bdrewN ?_ _))⟩
  cases h2 : inB x2 0 100000
  · have HF := Lib.hid (show fireB ⟨x0, x1, x2, x3⟩ = false by simp [fireB, h2])
    go_enter Tryd.func20, Tryd.ntmps20
    go_wp2_with (first | (go_at_call 48; refine (in_any _ _ _ _).mono ?_; rintro e w' ⟨rfl, rfl⟩) | (go_at_call 67; refine (isDay_any _ _).mono ?_; rintro e w' ⟨rfl, rfl⟩) | (go_at_call 65; refine (l1In_any _ _ _ _).mono ?_; rintro e w' ⟨rfl, rfl⟩))
    go_ret
    exact ⟨rb HF.out.symm, by (repeat' (first | exact Below.refl _ _ | with_reducible refine Below.setCell ?_ (by first | omega | (simp; done) | (simp; omega)) _ | with_reducible refine Below.alloc ?_ (by first | omega | (simp; done) | (simp; omega)) _ | with_reducible refine Below.drew ?_ | with_reducible refine bdrewN ?_ _))⟩
  have HF := Lib.hid (show fireB ⟨x0, x1, x2, x3⟩ = inB x3 1 2000 by simp [fireB, h0, h1, h2])
  go_enter Tryd.func20, Tryd.ntmps20
  go_wp2_with (first | (go_at_call 48; refine (in_any _ _ _ _).mono ?_; rintro e w' ⟨rfl, rfl⟩) | (go_at_call 67; refine (isDay_any _ _).mono ?_; rintro e w' ⟨rfl, rfl⟩) | (go_at_call 65; refine (l1In_any _ _ _ _).mono ?_; rintro e w' ⟨rfl, rfl⟩))
  go_ret
  exact ⟨rb HF.out.symm, by (repeat' (first | exact Below.refl _ _ | with_reducible refine Below.setCell ?_ (by first | omega | (simp; done) | (simp; omega)) _ | with_reducible refine Below.alloc ?_ (by first | omega | (simp; done) | (simp; omega)) _ | with_reducible refine Below.drew ?_ | with_reducible refine bdrewN ?_ _))⟩
set_option maxRecDepth 100000 in
set_option maxHeartbeats 400000 in
theorem l26One_any (x : FireI) (w : World) :
    Calls Tryd.prog 68 #[x.val] w fun o w' => o = .returned (.bool (fireB x)) ∧ Below w.heap.size w w' := by
  obtain ⟨x0, x1, x2, x3⟩ := x
  cases h0 : inB x0 0 364
  · have HF := Lib.hid (show fireB ⟨x0, x1, x2, x3⟩ = false by simp [fireB, h0])
    go_enter Tryd.func68, Tryd.ntmps68
    go_wp2_with (first | (go_at_call 48; refine (in_any _ _ _ _).mono ?_; rintro e w' ⟨rfl, rfl⟩) | (go_at_call 67; refine (isDay_any _ _).mono ?_; rintro e w' ⟨rfl, rfl⟩) | (go_at_call 65; refine (l1In_any _ _ _ _).mono ?_; rintro e w' ⟨rfl, rfl⟩))
    go_ret
    exact ⟨rb HF.out.symm, by (repeat' (first | exact Below.refl _ _ | with_reducible refine Below.setCell ?_ (by first | omega | (simp; done) | (simp; omega)) _ | with_reducible refine Below.alloc ?_ (by first | omega | (simp; done) | (simp; omega)) _ | with_reducible refine Below.drew ?_ | with_reducible refine bdrewN ?_ _))⟩
  cases h1 : inB x1 0 4
  · have HF := Lib.hid (show fireB ⟨x0, x1, x2, x3⟩ = false by simp [fireB, h1])
    go_enter Tryd.func68, Tryd.ntmps68
    go_wp2_with (first | (go_at_call 48; refine (in_any _ _ _ _).mono ?_; rintro e w' ⟨rfl, rfl⟩) | (go_at_call 67; refine (isDay_any _ _).mono ?_; rintro e w' ⟨rfl, rfl⟩) | (go_at_call 65; refine (l1In_any _ _ _ _).mono ?_; rintro e w' ⟨rfl, rfl⟩))
    go_ret
    exact ⟨rb HF.out.symm, by (repeat' (first | exact Below.refl _ _ | with_reducible refine Below.setCell ?_ (by first | omega | (simp; done) | (simp; omega)) _ | with_reducible refine Below.alloc ?_ (by first | omega | (simp; done) | (simp; omega)) _ | with_reducible refine Below.drew ?_ | with_reducible refine bdrewN ?_ _))⟩
  cases h2 : inB x2 0 100000
  · have HF := Lib.hid (show fireB ⟨x0, x1, x2, x3⟩ = false by simp [fireB, h2])
    go_enter Tryd.func68, Tryd.ntmps68
    go_wp2_with (first | (go_at_call 48; refine (in_any _ _ _ _).mono ?_; rintro e w' ⟨rfl, rfl⟩) | (go_at_call 67; refine (isDay_any _ _).mono ?_; rintro e w' ⟨rfl, rfl⟩) | (go_at_call 65; refine (l1In_any _ _ _ _).mono ?_; rintro e w' ⟨rfl, rfl⟩))
    go_ret
    exact ⟨rb HF.out.symm, by (repeat' (first | exact Below.refl _ _ | with_reducible refine Below.setCell ?_ (by first | omega | (simp; done) | (simp; omega)) _ | with_reducible refine Below.alloc ?_ (by first | omega | (simp; done) | (simp; omega)) _ | with_reducible refine Below.drew ?_ | with_reducible refine bdrewN ?_ _))⟩
  have HF := Lib.hid (show fireB ⟨x0, x1, x2, x3⟩ = inB x3 1 2000 by simp [fireB, h0, h1, h2])
  go_enter Tryd.func68, Tryd.ntmps68
  go_wp2_with (first | (go_at_call 48; refine (in_any _ _ _ _).mono ?_; rintro e w' ⟨rfl, rfl⟩) | (go_at_call 67; refine (isDay_any _ _).mono ?_; rintro e w' ⟨rfl, rfl⟩) | (go_at_call 65; refine (l1In_any _ _ _ _).mono ?_; rintro e w' ⟨rfl, rfl⟩))
  go_ret
  exact ⟨rb HF.out.symm, by (repeat' (first | exact Below.refl _ _ | with_reducible refine Below.setCell ?_ (by first | omega | (simp; done) | (simp; omega)) _ | with_reducible refine Below.alloc ?_ (by first | omega | (simp; done) | (simp; omega)) _ | with_reducible refine Below.drew ?_ | with_reducible refine bdrewN ?_ _))⟩

/-- Go's cmp.Compare -/
def cmpI (x y : Int) : Int := if x < y then -1 else if y < x then 1 else 0
theorem isNaN_any (x : Int) (w : World) : Calls Tryd.prog 91 #[.int .i64 x] w fun e w' => e = .returned (.bool false) ∧ w = w' := by
  have hx : (x != x) = false := by simp
  go_enter Tryd.func91, Tryd.ntmps91
  go_wp2
  go_ret
  exact ⟨rfl, rfl⟩
set_option maxHeartbeats 400000 in
theorem compare_any (x y : Int) (w : World) : Calls Tryd.prog 46 #[.int .i64 x, .int .i64 y] w fun e w' => e = .returned (.int .i64 (cmpI x y)) ∧ w = w' := by
  by_cases h1 : x < y
  · have HF := Lib.hid (show cmpI x y = -1 by simp [cmpI, h1])
    go_enter Tryd.func46, Tryd.ntmps46
    go_wp2_with (go_at_call 91; refine (isNaN_any _ _).mono ?_; rintro e w' ⟨rfl, rfl⟩)
    go_ret
    exact ⟨ri HF.out.symm, rfl⟩
  by_cases h2 : y < x
  · have HF := Lib.hid (show cmpI x y = 1 by simp [cmpI, h1, h2])
    go_enter Tryd.func46, Tryd.ntmps46
    go_wp2_with (go_at_call 91; refine (isNaN_any _ _).mono ?_; rintro e w' ⟨rfl, rfl⟩)
    go_ret
    exact ⟨ri HF.out.symm, rfl⟩
  · have HF := Lib.hid (show cmpI x y = 0 by simp [cmpI, h1, h2])
    go_enter Tryd.func46, Tryd.ntmps46
    go_wp2_with (go_at_call 91; refine (isNaN_any _ _).mono ?_; rintro e w' ⟨rfl, rfl⟩)
    go_ret
    exact ⟨ri HF.out.symm, rfl⟩

set_option maxHeartbeats 400000 in
theorem isSeason1_any (x y : FireI) (w : World) : Calls Tryd.prog 45 #[x.val, y.val] w fun e w' => e = .returned (.int .i64 (cmpI x.day y.day)) ∧ Below w.heap.size w w' := by
  go_enter Tryd.func45, Tryd.ntmps45
  go_wp2_with (go_at_call 46; refine (compare_any _ _ _).mono ?_; rintro e w' ⟨rfl, rfl⟩)
  go_ret
  exact ⟨rfl, by (repeat' (first | exact Below.refl _ _ | with_reducible refine Below.setCell ?_ (by first | omega | (simp; done) | (simp; omega)) _ | with_reducible refine Below.alloc ?_ (by first | omega | (simp; done) | (simp; omega)) _ | with_reducible refine Below.drew ?_ | with_reducible refine bdrewN ?_ _))⟩

/-- the days rise, as far as place k -/
def seasTo (xs : List FireI) : Nat → Bool
  | 0 => true
  | k + 1 => seasTo xs k && fireB (xs.getD k FireI.zero) && (k == 0 || decide ((xs.getD (k - 1) FireI.zero).day ≤ (xs.getD k FireI.zero).day))
def seasonB (xs : List FireI) : Bool := seasTo xs xs.length && decide (xs.length ≤ 15)
theorem seasTo_iff {xs : List FireI} {n : Nat} : seasTo xs n = true ↔ (∀ k, k < n → fireB (xs.getD k FireI.zero) = true) ∧ ∀ k, k + 1 < n → (xs.getD k FireI.zero).day ≤ (xs.getD (k + 1) FireI.zero).day := by
  induction n with
  | zero => simp [seasTo]
  | succ n ih =>
    simp only [seasTo, Bool.and_eq_true, Bool.or_eq_true, beq_iff_eq, decide_eq_true_eq, ih]
    constructor
    · rintro ⟨⟨⟨h1, h2⟩, h3⟩, h4⟩
      refine ⟨fun k hk => ?_, fun k hk => ?_⟩
      · by_cases e : k = n
        · subst e; exact h3
        · exact h1 k (by omega)
      · by_cases e : k + 1 = n
        · subst e
          rcases h4 with h4 | h4
          · omega
          · simpa using h4
        · exact h2 k (by omega)
    · rintro ⟨h1, h2⟩
      refine ⟨⟨⟨fun k hk => h1 k (by omega), fun k hk => h2 k (by omega)⟩, h1 n (by omega)⟩, ?_⟩
      cases n with
      | zero => exact .inl rfl
      | succ n => exact .inr (by simpa using h2 n (by omega))
/-- what slices.IsSortedFunc finds -/
def sortedB (xs : List FireI) : Bool := (List.range (xs.length - 1)).all fun k => decide ((xs.getD k FireI.zero).day ≤ (xs.getD (k + 1) FireI.zero).day)
theorem sortedB_iff {xs : List FireI} : sortedB xs = true ↔ ∀ k, k + 1 < xs.length → (xs.getD k FireI.zero).day ≤ (xs.getD (k + 1) FireI.zero).day := by
  simp only [sortedB, List.all_eq_true, List.mem_range, decide_eq_true_eq]
  exact ⟨fun h k hk => h k (by omega), fun h k hk => h k (by omega)⟩
theorem all_getD {α : Type} {xs : List α} {z : α} {p : α → Bool} : xs.all p = true ↔ ∀ k, k < xs.length → p (xs.getD k z) = true := by
  rw [List.all_eq_true]
  constructor
  · intro h k hk
    refine h _ ?_
    rw [List.getD_eq_getElem?_getD, List.getElem?_eq_getElem hk]
    exact List.getElem_mem _
  · intro h x hx
    obtain ⟨i, hi, rfl⟩ := List.getElem_of_mem hx
    have := h i hi
    simpa [List.getD, hi] using this
theorem season_eq (xs : List FireI) : seasonB xs = (decide (xs.length ≤ 15) && xs.all fireB && sortedB xs) := by
  rw [Bool.eq_iff_iff]
  simp only [seasonB, Bool.and_eq_true, decide_eq_true_eq, seasTo_iff, sortedB_iff, all_getD (z := FireI.zero)]
  constructor
  · rintro ⟨⟨h1, h2⟩, h3⟩; exact ⟨⟨h3, h1⟩, h2⟩
  · rintro ⟨⟨h3, h1⟩, h2⟩; exact ⟨⟨h1, h2⟩, h3⟩
theorem seasonB_true {xs : List FireI} (h : seasonB xs = true) : xs.length ≤ 15 ∧ ∀ x ∈ xs, fireB x = true := by
  rw [season_eq] at h
  simp only [Bool.and_eq_true, decide_eq_true_eq, List.all_eq_true] at h
  exact h.1

set_option maxRecDepth 100000 in
set_option maxHeartbeats 4000000 in
theorem l26Good_any (a : Option Addr) (n c : Nat) (xs : List FireI) (w : World) (h : Rd FFire w a n c xs) :
    Calls Tryd.prog 42 #[.slice a n c] w fun e w' => e = .returned (.bool (seasonB xs)) ∧ Below w.heap.size w w' := by
  have hn := h.cap
  have hc := h.nroom
  have HL := Lib.hid h.len
  go_enter Tryd.func42, Tryd.ntmps42
  go_wp2
  go_loopw [3] (fun i wr => ∃ k : Nat, k ≤ n ∧ i = .int .i64 k ∧ seasTo xs k = true ∧ Below w.heap.size w wr) (fun i _ => n - (intOf i).toNat)
  case atStart => exact ⟨0, Nat.zero_le _, rfl, rfl, Below.refl _ _⟩
  case round =>
    obtain ⟨k, hk, rfl, hris, hbr⟩ := hrel
    have HA := Lib.hid hris; clear hris
    by_cases hlt : k < n
    · obtain ⟨b, off, rfl, _⟩ := (h.ext hbr).at' _ hlt
      obtain ⟨hb, hc0, hc1, hc2, hc3⟩ := (h.ext hbr).cellFire hlt
      obtain ⟨x, hx⟩ : ∃ x, xs.getD k FireI.zero = x := ⟨_, rfl⟩
      rw [hx] at hc0 hc1 hc2 hc3
      have HX := Lib.hid hx; clear hx
      have i0 : (0 : Int) ≤ (k : Int) := by omega
      have i1 : (k : Int) < (n : Int) := by omega
      have hout : seasonB xs = true → fireB x = true ∧ (∀ j, k = j + 1 → (xs.getD j FireI.zero).day ≤ x.day) := by
        intro hs
        simp only [seasonB, Bool.and_eq_true, seasTo_iff] at hs
        rw [HL.out] at hs
        refine ⟨by rw [← HX.out]; exact hs.1.1 k hlt, fun j hj => ?_⟩
        rw [← HX.out, hj]
        exact hs.1.2 j (by omega)
      have HO := Lib.hid hout; clear hout
      obtain ⟨j, hj, hjp⟩ : ∃ j : Nat, j < n ∧ (0 < k → k = j + 1) := by
        cases k with
        | zero => exact ⟨0, hlt, by omega⟩
        | succ j => exact ⟨j, by omega, fun _ => rfl⟩
      obtain ⟨_, hd0, _, _, _⟩ := (h.ext hbr).cellFire hj
      have HJ := Lib.hid hjp; clear hjp
      obtain ⟨y, hy⟩ : ∃ y, (xs.getD j FireI.zero).day = y := ⟨_, rfl⟩
      rw [hy] at hd0
      have HY := Lib.hid hy; clear hy
      have j0 : (0 : Int) ≤ (j : Int) := by omega
      have j1 : (j : Int) < (n : Int) := by omega
      go_wp2
      have hS : (fun w1 : World => w1.cell? ⟨b, off + k * 4, none⟩ = some (.int .i64 x.day) ∧ w1.cell? ⟨b, off + k * 4 + 1, none⟩ = some (.int .i64 x.cause) ∧ w1.cell? ⟨b, off + k * 4 + 2, none⟩ = some (.int .i64 x.hect) ∧ w1.cell? ⟨b, off + k * 4 + 3, none⟩ = some (.int .i64 x.hours) ∧ w1.cell? ⟨b, off + j * 4, none⟩ = some (.int .i64 y)) wr.drew := ⟨hc0, hc1, hc2, hc3, hd0⟩
      clear hc0 hc1 hc2 hc3 hd0
      refine AtT.start (S := (fun w1 : World => w1.cell? ⟨b, off + k * 4, none⟩ = some (.int .i64 x.day) ∧ w1.cell? ⟨b, off + k * 4 + 1, none⟩ = some (.int .i64 x.cause) ∧ w1.cell? ⟨b, off + k * 4 + 2, none⟩ = some (.int .i64 x.hect) ∧ w1.cell? ⟨b, off + k * 4 + 3, none⟩ = some (.int .i64 x.hours) ∧ w1.cell? ⟨b, off + j * 4, none⟩ = some (.int .i64 y))) 23 (by kernel_rfl) ?_
      refine AtT.take (i := 0) (v := ?_) rfl (by kernel_rfl) (by kernel_rfl) (by kernel_rfl) (by kernel_rfl) (fun _ _ _ h => h) (Or.inl ⟨by kernel_rfl, ?_⟩) (by assumption) ?_
      rotate_left
      · (intro w hSw; (try dsimp only at hSw); go_simp; try with_reducible rfl)
      simp only [Act.put, List.setIfInBounds_toArray, List.set_cons_zero, List.set_cons_succ]
      refine AtT.take (i := 1) (v := ?_) rfl (by kernel_rfl) (by kernel_rfl) (by kernel_rfl) (by kernel_rfl) (fun _ _ _ h => h) (Or.inl ⟨by kernel_rfl, ?_⟩) (by assumption) ?_
      rotate_left
      · (intro w hSw; (try dsimp only at hSw); go_simp; try with_reducible rfl)
      simp only [Act.put, List.setIfInBounds_toArray, List.set_cons_zero, List.set_cons_succ]
      refine AtT.take (i := 2) (v := ?_) rfl (by kernel_rfl) (by kernel_rfl) (by kernel_rfl) (by kernel_rfl) (fun _ _ _ h => h) (Or.inl ⟨by kernel_rfl, ?_⟩) (by assumption) ?_
      rotate_left
      · (intro w hSw; (try dsimp only at hSw); go_simp; try with_reducible rfl)
      simp only [Act.put, List.setIfInBounds_toArray, List.set_cons_zero, List.set_cons_succ]
      refine AtT.take (i := 3) (v := ?_) rfl (by kernel_rfl) (by kernel_rfl) (by kernel_rfl) (by kernel_rfl) (fun _ _ _ h => h) (Or.inl ⟨by kernel_rfl, ?_⟩) (by assumption) ?_
      rotate_left
      · (intro w hSw; (try dsimp only at hSw); go_simp; try with_reducible rfl)
      simp only [Act.put, List.setIfInBounds_toArray, List.set_cons_zero, List.set_cons_succ]
      refine AtT.only (i := 4) (by kernel_rfl) rfl rfl ?_
      intro K hK
      go_simp
      refine (l26One_any x _).mono ?_
      rintro e w2 ⟨rfl, hb3⟩
      obtain ⟨hc0, hc1, hc2, hc3, hd0⟩ := hS
      have hS : (fun w1 : World => w1.cell? ⟨b, off + k * 4, none⟩ = some (.int .i64 x.day) ∧ w1.cell? ⟨b, off + k * 4 + 1, none⟩ = some (.int .i64 x.cause) ∧ w1.cell? ⟨b, off + k * 4 + 2, none⟩ = some (.int .i64 x.hect) ∧ w1.cell? ⟨b, off + k * 4 + 3, none⟩ = some (.int .i64 x.hours) ∧ w1.cell? ⟨b, off + j * 4, none⟩ = some (.int .i64 y)) w2 := ⟨keepCell hb3 hc0, keepCell hb3 hc1, keepCell hb3 hc2, keepCell hb3 hc3, keepCell hb3 hd0⟩
      clear hc0 hc1 hc2 hc3 hd0
      dsimp only
      refine hK.out _ _ hS ?_
      clear hK K
      replace hbr : Below w.heap.size w w2 := hbr.trans (Below.trans (Below.refl _ _).drew (hb3.mono hbr.size))
      clear hb3
      refine AtT.take (i := 5) (v := ?_) rfl (by kernel_rfl) (by kernel_rfl) (by kernel_rfl) (by kernel_rfl) (fun _ _ _ h => h) (Or.inl ⟨by kernel_rfl, ?_⟩) (by assumption) ?_
      rotate_left
      · (intro w hSw; (try dsimp only at hSw); go_simp; try with_reducible rfl)
      simp only [Act.put, List.setIfInBounds_toArray, List.set_cons_zero, List.set_cons_succ]
      refine AtT.take (i := 6) (v := ?_) rfl (by kernel_rfl) (by kernel_rfl) (by kernel_rfl) (by kernel_rfl) (fun _ _ _ h => h) (Or.inl ⟨by kernel_rfl, ?_⟩) (by assumption) ?_
      rotate_left
      · (intro w hSw; (try dsimp only at hSw); go_simp; try with_reducible rfl)
      simp only [Act.put, List.setIfInBounds_toArray, List.set_cons_zero, List.set_cons_succ]
      cases hB : fireB x
      · skip
        refine AtT.take (i := 7) (v := undef) rfl (by kernel_rfl) (by kernel_rfl) (by kernel_rfl) (by kernel_rfl) (fun _ _ _ h => h) (Or.inr ⟨by kernel_rfl, rfl⟩) (by assumption) ?_
        simp only [Act.put, List.setIfInBounds_toArray, List.set_cons_zero, List.set_cons_succ]
        refine AtT.take (i := 8) (v := undef) rfl (by kernel_rfl) (by kernel_rfl) (by kernel_rfl) (by kernel_rfl) (fun _ _ _ h => h) (Or.inr ⟨by kernel_rfl, rfl⟩) (by assumption) ?_
        simp only [Act.put, List.setIfInBounds_toArray, List.set_cons_zero, List.set_cons_succ]
        refine AtT.take (i := 9) (v := undef) rfl (by kernel_rfl) (by kernel_rfl) (by kernel_rfl) (by kernel_rfl) (fun _ _ _ h => h) (Or.inr ⟨by kernel_rfl, rfl⟩) (by assumption) ?_
        simp only [Act.put, List.setIfInBounds_toArray, List.set_cons_zero, List.set_cons_succ]
        refine AtT.take (i := 10) (v := undef) rfl (by kernel_rfl) (by kernel_rfl) (by kernel_rfl) (by kernel_rfl) (fun _ _ _ h => h) (Or.inr ⟨by kernel_rfl, rfl⟩) (by assumption) ?_
        simp only [Act.put, List.setIfInBounds_toArray, List.set_cons_zero, List.set_cons_succ]
        refine AtT.take (i := 11) (v := undef) rfl (by kernel_rfl) (by kernel_rfl) (by kernel_rfl) (by kernel_rfl) (fun _ _ _ h => h) (Or.inr ⟨by kernel_rfl, rfl⟩) (by assumption) ?_
        simp only [Act.put, List.setIfInBounds_toArray, List.set_cons_zero, List.set_cons_succ]
        refine AtT.take (i := 12) (v := undef) rfl (by kernel_rfl) (by kernel_rfl) (by kernel_rfl) (by kernel_rfl) (fun _ _ _ h => h) (Or.inr ⟨by kernel_rfl, rfl⟩) (by assumption) ?_
        simp only [Act.put, List.setIfInBounds_toArray, List.set_cons_zero, List.set_cons_succ]
        refine AtT.take (i := 13) (v := undef) rfl (by kernel_rfl) (by kernel_rfl) (by kernel_rfl) (by kernel_rfl) (fun _ _ _ h => h) (Or.inr ⟨by kernel_rfl, rfl⟩) (by assumption) ?_
        simp only [Act.put, List.setIfInBounds_toArray, List.set_cons_zero, List.set_cons_succ]
        refine AtT.take (i := 14) (v := undef) rfl (by kernel_rfl) (by kernel_rfl) (by kernel_rfl) (by kernel_rfl) (fun _ _ _ h => h) (Or.inr ⟨by kernel_rfl, rfl⟩) (by assumption) ?_
        simp only [Act.put, List.setIfInBounds_toArray, List.set_cons_zero, List.set_cons_succ]
        refine AtT.take (i := 15) (v := undef) rfl (by kernel_rfl) (by kernel_rfl) (by kernel_rfl) (by kernel_rfl) (fun _ _ _ h => h) (Or.inr ⟨by kernel_rfl, rfl⟩) (by assumption) ?_
        simp only [Act.put, List.setIfInBounds_toArray, List.set_cons_zero, List.set_cons_succ]
        refine AtT.take (i := 16) (v := undef) rfl (by kernel_rfl) (by kernel_rfl) (by kernel_rfl) (by kernel_rfl) (fun _ _ _ h => h) (Or.inr ⟨by kernel_rfl, rfl⟩) (by assumption) ?_
        simp only [Act.put, List.setIfInBounds_toArray, List.set_cons_zero, List.set_cons_succ]
        refine AtT.take (i := 17) (v := undef) rfl (by kernel_rfl) (by kernel_rfl) (by kernel_rfl) (by kernel_rfl) (fun _ _ _ h => h) (Or.inr ⟨by kernel_rfl, rfl⟩) (by assumption) ?_
        simp only [Act.put, List.setIfInBounds_toArray, List.set_cons_zero, List.set_cons_succ]
        refine AtT.take (i := 18) (v := undef) rfl (by kernel_rfl) (by kernel_rfl) (by kernel_rfl) (by kernel_rfl) (fun _ _ _ h => h) (Or.inr ⟨by kernel_rfl, rfl⟩) (by assumption) ?_
        simp only [Act.put, List.setIfInBounds_toArray, List.set_cons_zero, List.set_cons_succ]
        refine AtT.take (i := 19) (v := undef) rfl (by kernel_rfl) (by kernel_rfl) (by kernel_rfl) (by kernel_rfl) (fun _ _ _ h => h) (Or.inr ⟨by kernel_rfl, rfl⟩) (by assumption) ?_
        simp only [Act.put, List.setIfInBounds_toArray, List.set_cons_zero, List.set_cons_succ]
        refine AtT.take (i := 20) (v := undef) rfl (by kernel_rfl) (by kernel_rfl) (by kernel_rfl) (by kernel_rfl) (fun _ _ _ h => h) (Or.inr ⟨by kernel_rfl, rfl⟩) (by assumption) ?_
        simp only [Act.put, List.setIfInBounds_toArray, List.set_cons_zero, List.set_cons_succ]
        refine AtT.take (i := 21) (v := undef) rfl (by kernel_rfl) (by kernel_rfl) (by kernel_rfl) (by kernel_rfl) (fun _ _ _ h => h) (Or.inr ⟨by kernel_rfl, rfl⟩) (by assumption) ?_
        simp only [Act.put, List.setIfInBounds_toArray, List.set_cons_zero, List.set_cons_succ]
        refine AtT.take (i := 22) (v := undef) rfl (by kernel_rfl) (by kernel_rfl) (by kernel_rfl) (by kernel_rfl) (fun _ _ _ h => h) (Or.inr ⟨by kernel_rfl, rfl⟩) (by assumption) ?_
        simp only [Act.put, List.setIfInBounds_toArray, List.set_cons_zero, List.set_cons_succ]
        refine AtT.last (by kernel_rfl) rfl (by kernel_rfl) ?_
        intro K hK
        go_simp
        refine hK.out _ _ ?_
        clear hK K
        clear hS
        go_wp2
        go_ret
        refine ⟨rb ?_, hbr⟩
        cases hs : seasonB xs with
        | false => rfl
        | true => have := (HO.out hs).1; rw [hB] at this; cases this
      · by_cases hk0 : k = 0
        · have hd : decide (0 < k) = false := decide_eq_false (by omega)
          refine AtT.take (i := 7) (v := ?_) rfl (by kernel_rfl) (by kernel_rfl) (by kernel_rfl) (by kernel_rfl) (fun _ _ _ h => h) (Or.inl ⟨by kernel_rfl, ?_⟩) (by assumption) ?_
          rotate_left
          · (intro w hSw; (try dsimp only at hSw); go_simp; try with_reducible rfl)
          simp only [Act.put, List.setIfInBounds_toArray, List.set_cons_zero, List.set_cons_succ]
          refine AtT.take (i := 8) (v := ?_) rfl (by kernel_rfl) (by kernel_rfl) (by kernel_rfl) (by kernel_rfl) (fun _ _ _ h => h) (Or.inl ⟨by kernel_rfl, ?_⟩) (by assumption) ?_
          rotate_left
          · (intro w hSw; (try dsimp only at hSw); go_simp; try with_reducible rfl)
          simp only [Act.put, List.setIfInBounds_toArray, List.set_cons_zero, List.set_cons_succ]
          refine AtT.take (i := 9) (v := ?_) rfl (by kernel_rfl) (by kernel_rfl) (by kernel_rfl) (by kernel_rfl) (fun _ _ _ h => h) (Or.inl ⟨by kernel_rfl, ?_⟩) (by assumption) ?_
          rotate_left
          · (intro w hSw; (try dsimp only at hSw); go_simp; try with_reducible rfl)
          simp only [Act.put, List.setIfInBounds_toArray, List.set_cons_zero, List.set_cons_succ]
          try simp only [hd]
          refine AtT.take (i := 10) (v := undef) rfl (by kernel_rfl) (by kernel_rfl) (by kernel_rfl) (by kernel_rfl) (fun _ _ _ h => h) (Or.inr ⟨by kernel_rfl, rfl⟩) (by assumption) ?_
          simp only [Act.put, List.setIfInBounds_toArray, List.set_cons_zero, List.set_cons_succ]
          refine AtT.take (i := 11) (v := undef) rfl (by kernel_rfl) (by kernel_rfl) (by kernel_rfl) (by kernel_rfl) (fun _ _ _ h => h) (Or.inr ⟨by kernel_rfl, rfl⟩) (by assumption) ?_
          simp only [Act.put, List.setIfInBounds_toArray, List.set_cons_zero, List.set_cons_succ]
          refine AtT.take (i := 12) (v := undef) rfl (by kernel_rfl) (by kernel_rfl) (by kernel_rfl) (by kernel_rfl) (fun _ _ _ h => h) (Or.inr ⟨by kernel_rfl, rfl⟩) (by assumption) ?_
          simp only [Act.put, List.setIfInBounds_toArray, List.set_cons_zero, List.set_cons_succ]
          refine AtT.take (i := 13) (v := undef) rfl (by kernel_rfl) (by kernel_rfl) (by kernel_rfl) (by kernel_rfl) (fun _ _ _ h => h) (Or.inr ⟨by kernel_rfl, rfl⟩) (by assumption) ?_
          simp only [Act.put, List.setIfInBounds_toArray, List.set_cons_zero, List.set_cons_succ]
          refine AtT.take (i := 14) (v := undef) rfl (by kernel_rfl) (by kernel_rfl) (by kernel_rfl) (by kernel_rfl) (fun _ _ _ h => h) (Or.inr ⟨by kernel_rfl, rfl⟩) (by assumption) ?_
          simp only [Act.put, List.setIfInBounds_toArray, List.set_cons_zero, List.set_cons_succ]
          refine AtT.take (i := 15) (v := undef) rfl (by kernel_rfl) (by kernel_rfl) (by kernel_rfl) (by kernel_rfl) (fun _ _ _ h => h) (Or.inr ⟨by kernel_rfl, rfl⟩) (by assumption) ?_
          simp only [Act.put, List.setIfInBounds_toArray, List.set_cons_zero, List.set_cons_succ]
          refine AtT.take (i := 16) (v := undef) rfl (by kernel_rfl) (by kernel_rfl) (by kernel_rfl) (by kernel_rfl) (fun _ _ _ h => h) (Or.inr ⟨by kernel_rfl, rfl⟩) (by assumption) ?_
          simp only [Act.put, List.setIfInBounds_toArray, List.set_cons_zero, List.set_cons_succ]
          refine AtT.take (i := 17) (v := undef) rfl (by kernel_rfl) (by kernel_rfl) (by kernel_rfl) (by kernel_rfl) (fun _ _ _ h => h) (Or.inr ⟨by kernel_rfl, rfl⟩) (by assumption) ?_
          simp only [Act.put, List.setIfInBounds_toArray, List.set_cons_zero, List.set_cons_succ]
          refine AtT.take (i := 18) (v := undef) rfl (by kernel_rfl) (by kernel_rfl) (by kernel_rfl) (by kernel_rfl) (fun _ _ _ h => h) (Or.inr ⟨by kernel_rfl, rfl⟩) (by assumption) ?_
          simp only [Act.put, List.setIfInBounds_toArray, List.set_cons_zero, List.set_cons_succ]
          refine AtT.take (i := 19) (v := undef) rfl (by kernel_rfl) (by kernel_rfl) (by kernel_rfl) (by kernel_rfl) (fun _ _ _ h => h) (Or.inr ⟨by kernel_rfl, rfl⟩) (by assumption) ?_
          simp only [Act.put, List.setIfInBounds_toArray, List.set_cons_zero, List.set_cons_succ]
          refine AtT.take (i := 20) (v := undef) rfl (by kernel_rfl) (by kernel_rfl) (by kernel_rfl) (by kernel_rfl) (fun _ _ _ h => h) (Or.inr ⟨by kernel_rfl, rfl⟩) (by assumption) ?_
          simp only [Act.put, List.setIfInBounds_toArray, List.set_cons_zero, List.set_cons_succ]
          refine AtT.take (i := 21) (v := undef) rfl (by kernel_rfl) (by kernel_rfl) (by kernel_rfl) (by kernel_rfl) (fun _ _ _ h => h) (Or.inr ⟨by kernel_rfl, rfl⟩) (by assumption) ?_
          simp only [Act.put, List.setIfInBounds_toArray, List.set_cons_zero, List.set_cons_succ]
          refine AtT.take (i := 22) (v := ?_) rfl (by kernel_rfl) (by kernel_rfl) (by kernel_rfl) (by kernel_rfl) (fun _ _ _ h => h) (Or.inl ⟨by kernel_rfl, ?_⟩) (by assumption) ?_
          rotate_left
          · (intro w hSw; (try dsimp only at hSw); go_simp; try with_reducible rfl)
          simp only [Act.put, List.setIfInBounds_toArray, List.set_cons_zero, List.set_cons_succ]
          refine AtT.last (by kernel_rfl) rfl (by kernel_rfl) ?_
          intro K hK
          go_simp
          refine hK.out _ _ ?_
          clear hK K
          clear hS
          go_wp2
          go_roundw
          case rel => exact ⟨k + 1, by omega, by go_num, by simp only [seasTo, HA.out, HX.out, hB, Bool.true_and]; simp [hk0], hbr⟩
          case measure => simp [intOf]; omega
        · have hd : decide (0 < k) = true := decide_eq_true (by omega)
          have hkj := HJ.out (by omega)
          have hjI : IntKind.i64.wrap ((k : Int) - 1) = (j : Int) := by rw [wrap_in (by omega)]; omega
          have HKJ := Lib.hid hkj; clear hkj
          refine AtT.take (i := 7) (v := ?_) rfl (by kernel_rfl) (by kernel_rfl) (by kernel_rfl) (by kernel_rfl) (fun _ _ _ h => h) (Or.inl ⟨by kernel_rfl, ?_⟩) (by assumption) ?_
          rotate_left
          · (intro w hSw; (try dsimp only at hSw); go_simp; try with_reducible rfl)
          simp only [Act.put, List.setIfInBounds_toArray, List.set_cons_zero, List.set_cons_succ]
          refine AtT.take (i := 8) (v := ?_) rfl (by kernel_rfl) (by kernel_rfl) (by kernel_rfl) (by kernel_rfl) (fun _ _ _ h => h) (Or.inl ⟨by kernel_rfl, ?_⟩) (by assumption) ?_
          rotate_left
          · (intro w hSw; (try dsimp only at hSw); go_simp; try with_reducible rfl)
          simp only [Act.put, List.setIfInBounds_toArray, List.set_cons_zero, List.set_cons_succ]
          refine AtT.take (i := 9) (v := ?_) rfl (by kernel_rfl) (by kernel_rfl) (by kernel_rfl) (by kernel_rfl) (fun _ _ _ h => h) (Or.inl ⟨by kernel_rfl, ?_⟩) (by assumption) ?_
          rotate_left
          · (intro w hSw; (try dsimp only at hSw); go_simp; try with_reducible rfl)
          simp only [Act.put, List.setIfInBounds_toArray, List.set_cons_zero, List.set_cons_succ]
          try simp only [hd]
          refine AtT.take (i := 10) (v := ?_) rfl (by kernel_rfl) (by kernel_rfl) (by kernel_rfl) (by kernel_rfl) (fun _ _ _ h => h) (Or.inl ⟨by kernel_rfl, ?_⟩) (by assumption) ?_
          rotate_left
          · (intro w hSw; (try dsimp only at hSw); go_simp; try with_reducible rfl)
          simp only [Act.put, List.setIfInBounds_toArray, List.set_cons_zero, List.set_cons_succ]
          refine AtT.take (i := 11) (v := ?_) rfl (by kernel_rfl) (by kernel_rfl) (by kernel_rfl) (by kernel_rfl) (fun _ _ _ h => h) (Or.inl ⟨by kernel_rfl, ?_⟩) (by assumption) ?_
          rotate_left
          · (intro w hSw; (try dsimp only at hSw); go_simp; try with_reducible rfl)
          simp only [Act.put, List.setIfInBounds_toArray, List.set_cons_zero, List.set_cons_succ]
          refine AtT.take (i := 12) (v := ?_) rfl (by kernel_rfl) (by kernel_rfl) (by kernel_rfl) (by kernel_rfl) (fun _ _ _ h => h) (Or.inl ⟨by kernel_rfl, ?_⟩) (by assumption) ?_
          rotate_left
          · (intro w hSw; (try dsimp only at hSw); go_simp; try with_reducible rfl)
          simp only [Act.put, List.setIfInBounds_toArray, List.set_cons_zero, List.set_cons_succ]
          refine AtT.take (i := 13) (v := ?_) rfl (by kernel_rfl) (by kernel_rfl) (by kernel_rfl) (by kernel_rfl) (fun _ _ _ h => h) (Or.inl ⟨by kernel_rfl, ?_⟩) (by assumption) ?_
          rotate_left
          · (intro w hSw; (try dsimp only at hSw); go_simp; try with_reducible rfl)
          simp only [Act.put, List.setIfInBounds_toArray, List.set_cons_zero, List.set_cons_succ]
          refine AtT.take (i := 14) (v := ?_) rfl (by kernel_rfl) (by kernel_rfl) (by kernel_rfl) (by kernel_rfl) (fun _ _ _ h => h) (Or.inl ⟨by kernel_rfl, ?_⟩) (by assumption) ?_
          rotate_left
          · (intro w hSw; (try dsimp only at hSw); go_simp; try with_reducible rfl)
          simp only [Act.put, List.setIfInBounds_toArray, List.set_cons_zero, List.set_cons_succ]
          refine AtT.take (i := 15) (v := ?_) rfl (by kernel_rfl) (by kernel_rfl) (by kernel_rfl) (by kernel_rfl) (fun _ _ _ h => h) (Or.inl ⟨by kernel_rfl, ?_⟩) (by assumption) ?_
          rotate_left
          · (intro w hSw; (try dsimp only at hSw); go_simp; try with_reducible rfl)
          simp only [Act.put, List.setIfInBounds_toArray, List.set_cons_zero, List.set_cons_succ]
          refine AtT.take (i := 16) (v := ?_) rfl (by kernel_rfl) (by kernel_rfl) (by kernel_rfl) (by kernel_rfl) (fun _ _ _ h => h) (Or.inl ⟨by kernel_rfl, ?_⟩) (by assumption) ?_
          rotate_left
          · (intro w hSw; (try dsimp only at hSw); go_simp; try with_reducible rfl)
          simp only [Act.put, List.setIfInBounds_toArray, List.set_cons_zero, List.set_cons_succ]
          refine AtT.take (i := 17) (v := ?_) rfl (by kernel_rfl) (by kernel_rfl) (by kernel_rfl) (by kernel_rfl) (fun _ _ _ h => h) (Or.inl ⟨by kernel_rfl, ?_⟩) (by assumption) ?_
          rotate_left
          · (intro w hSw; (try dsimp only at hSw); go_simp; try with_reducible rfl)
          simp only [Act.put, List.setIfInBounds_toArray, List.set_cons_zero, List.set_cons_succ]
          refine AtT.take (i := 18) (v := ?_) rfl (by kernel_rfl) (by kernel_rfl) (by kernel_rfl) (by kernel_rfl) (fun _ _ _ h => h) (Or.inl ⟨by kernel_rfl, ?_⟩) (by assumption) ?_
          rotate_left
          · (intro w hSw; (try dsimp only at hSw); go_simp; try with_reducible rfl)
          simp only [Act.put, List.setIfInBounds_toArray, List.set_cons_zero, List.set_cons_succ]
          refine AtT.take (i := 19) (v := ?_) rfl (by kernel_rfl) (by kernel_rfl) (by kernel_rfl) (by kernel_rfl) (fun _ _ _ h => h) (Or.inl ⟨by kernel_rfl, ?_⟩) (by assumption) ?_
          rotate_left
          · (intro w hSw; (try dsimp only at hSw); go_simp; try with_reducible rfl)
          simp only [Act.put, List.setIfInBounds_toArray, List.set_cons_zero, List.set_cons_succ]
          refine AtT.take (i := 20) (v := ?_) rfl (by kernel_rfl) (by kernel_rfl) (by kernel_rfl) (by kernel_rfl) (fun _ _ _ h => h) (Or.inl ⟨by kernel_rfl, ?_⟩) (by assumption) ?_
          rotate_left
          · (intro w hSw; (try dsimp only at hSw); go_simp; try with_reducible rfl)
          simp only [Act.put, List.setIfInBounds_toArray, List.set_cons_zero, List.set_cons_succ]
          refine AtT.take (i := 21) (v := ?_) rfl (by kernel_rfl) (by kernel_rfl) (by kernel_rfl) (by kernel_rfl) (fun _ _ _ h => h) (Or.inl ⟨by kernel_rfl, ?_⟩) (by assumption) ?_
          rotate_left
          · (intro w hSw; (try dsimp only at hSw); go_simp; try with_reducible rfl)
          simp only [Act.put, List.setIfInBounds_toArray, List.set_cons_zero, List.set_cons_succ]
          refine AtT.take (i := 22) (v := ?_) rfl (by kernel_rfl) (by kernel_rfl) (by kernel_rfl) (by kernel_rfl) (fun _ _ _ h => h) (Or.inl ⟨by kernel_rfl, ?_⟩) (by assumption) ?_
          rotate_left
          · (intro w hSw; (try dsimp only at hSw); go_simp; try with_reducible rfl)
          simp only [Act.put, List.setIfInBounds_toArray, List.set_cons_zero, List.set_cons_succ]
          refine AtT.last (by kernel_rfl) rfl (by kernel_rfl) ?_
          intro K hK
          go_simp
          refine hK.out _ _ ?_
          clear hK K
          clear hS
          by_cases hle : y ≤ x.day
          · go_wp2
            go_roundw
            case rel =>
              refine ⟨k + 1, by omega, by go_num, ?_, hbr⟩
              simp only [seasTo, HA.out, HX.out, hB, Bool.true_and, Bool.or_eq_true, decide_eq_true_eq]
              right
              rw [show k - 1 = j by have := HKJ.out; omega, HY.out]
              exact hle
            case measure => simp [intOf]; omega
          · go_wp2
            go_ret
            refine ⟨rb ?_, hbr⟩
            cases hs : seasonB xs with
            | false => rfl
            | true => have := (HO.out hs).2 j HKJ.out; rw [HY.out] at this; omega
    · obtain rfl : k = n := by omega
      have HF := Lib.hid (show seasonB xs = decide (k ≤ 15) by rw [seasonB, HL.out, HA.out]; rfl)
      by_cases h15 : k ≤ 15
      · go_wp2
        go_ret
        exact ⟨rb (by rw [HF.out]; simp; omega), hbr⟩
      · go_wp2
        go_ret
        exact ⟨rb (by rw [HF.out]; simp; omega), hbr⟩

set_option maxRecDepth 100000 in
set_option maxHeartbeats 4000000 in
theorem sortedFire_any (a : Option Addr) (n c : Nat) (xs : List FireI) (w : World) (h : Rd FFire w a n c xs) :
    Calls Tryd.prog 44 #[.slice a n c, .func (.func 45) #[] #[]] w fun e w' => e = .returned (.bool (sortedB xs)) ∧ Below w.heap.size w w' := by
  have hn := h.cap
  have hc := h.nroom
  have HL := Lib.hid h.len
  have hcf := enters Tryd.func45 (by kernel_rfl) rfl
  by_cases h0 : n = 0
  · subst h0
    have HF := Lib.hid (show sortedB xs = true by rw [sortedB_iff, HL.out]; intro k hk; omega)
    go_enter Tryd.func44, Tryd.ntmps44
    go_wp2
    go_loopw [5] (fun i wr => i = .int .i64 (-1) ∧ wr = w) (fun i _ => 0)
    case atStart => exact ⟨rfl, rfl⟩
    case round =>
      obtain ⟨rfl, rfl⟩ := hrel
      go_wp2
      go_ret
      exact ⟨rb HF.out.symm, Below.refl _ _⟩
  go_enter Tryd.func44, Tryd.ntmps44
  go_wp2
  go_loopw [5] (fun i wr => ∃ m : Nat, m < n ∧ i = .int .i64 m ∧ (∀ j, m ≤ j → j + 1 < n → (xs.getD j FireI.zero).day ≤ (xs.getD (j + 1) FireI.zero).day) ∧ Below w.heap.size w wr) (fun i _ => (intOf i).toNat)
  case atStart => exact ⟨n - 1, by omega, by go_num, fun j h1 h2 => by omega, Below.refl _ _⟩
  case round =>
    obtain ⟨k, hk, rfl, hall, hbr⟩ := hrel
    have HA := Lib.hid hall; clear hall
    by_cases hlt : 0 < k
    · obtain ⟨j, rfl⟩ : ∃ j, k = j + 1 := ⟨k - 1, by omega⟩
      obtain ⟨b, off, rfl, _⟩ := (h.ext hbr).at' _ hk
      obtain ⟨hb, hc0, hc1, hc2, hc3⟩ := (h.ext hbr).cellFire hk
      obtain ⟨_, hd0, hd1, hd2, hd3⟩ := (h.ext hbr).cellFire (show j < n by omega)
      obtain ⟨x, hx⟩ : ∃ x, xs.getD (j + 1) FireI.zero = x := ⟨_, rfl⟩
      obtain ⟨y, hy⟩ : ∃ y, xs.getD j FireI.zero = y := ⟨_, rfl⟩
      rw [hx] at hc0 hc1 hc2 hc3
      rw [hy] at hd0 hd1 hd2 hd3
      have HX := Lib.hid hx; clear hx
      have HY := Lib.hid hy; clear hy
      obtain ⟨k, hkj⟩ : ∃ k, k = j + 1 := ⟨_, rfl⟩
      rw [← hkj] at hc0 hc1 hc2 hc3 hk ⊢
      have hjI : IntKind.i64.wrap ((k : Int) - 1) = (j : Int) := by rw [wrap_in (by omega)]; omega
      have i0 : (0 : Int) ≤ (k : Int) := by omega
      have i1 : (k : Int) < (n : Int) := by omega
      have j0 : (0 : Int) ≤ (j : Int) := by omega
      have j1 : (j : Int) < (n : Int) := by omega
      have hkp : 0 < k := by omega
      have HK := Lib.hid hkj; clear hkj hlt
      go_wp2
      have hS : (fun w1 : World => (w1.cell? ⟨b, off + k * 4, none⟩ = some (.int .i64 x.day) ∧ w1.cell? ⟨b, off + k * 4 + 1, none⟩ = some (.int .i64 x.cause) ∧ w1.cell? ⟨b, off + k * 4 + 2, none⟩ = some (.int .i64 x.hect) ∧ w1.cell? ⟨b, off + k * 4 + 3, none⟩ = some (.int .i64 x.hours)) ∧ w1.cell? ⟨b, off + j * 4, none⟩ = some (.int .i64 y.day) ∧ w1.cell? ⟨b, off + j * 4 + 1, none⟩ = some (.int .i64 y.cause) ∧ w1.cell? ⟨b, off + j * 4 + 2, none⟩ = some (.int .i64 y.hect) ∧ w1.cell? ⟨b, off + j * 4 + 3, none⟩ = some (.int .i64 y.hours)) wr.drew := ⟨⟨hc0, hc1, hc2, hc3⟩, hd0, hd1, hd2, hd3⟩
      clear hc0 hc1 hc2 hc3 hd0 hd1 hd2 hd3
      refine AtT.start (S := (fun w1 : World => (w1.cell? ⟨b, off + k * 4, none⟩ = some (.int .i64 x.day) ∧ w1.cell? ⟨b, off + k * 4 + 1, none⟩ = some (.int .i64 x.cause) ∧ w1.cell? ⟨b, off + k * 4 + 2, none⟩ = some (.int .i64 x.hect) ∧ w1.cell? ⟨b, off + k * 4 + 3, none⟩ = some (.int .i64 x.hours)) ∧ w1.cell? ⟨b, off + j * 4, none⟩ = some (.int .i64 y.day) ∧ w1.cell? ⟨b, off + j * 4 + 1, none⟩ = some (.int .i64 y.cause) ∧ w1.cell? ⟨b, off + j * 4 + 2, none⟩ = some (.int .i64 y.hect) ∧ w1.cell? ⟨b, off + j * 4 + 3, none⟩ = some (.int .i64 y.hours))) 11 (by kernel_rfl) ?_
      refine AtT.take (i := 0) (v := ?_) rfl (by kernel_rfl) (by kernel_rfl) (by kernel_rfl) (by kernel_rfl) (fun _ _ _ h => h) (Or.inl ⟨by kernel_rfl, ?_⟩) (by assumption) ?_
      rotate_left
      · (intro w hSw; (try dsimp only at hSw); go_simp; try with_reducible rfl)
      simp only [Act.put, List.setIfInBounds_toArray, List.set_cons_zero, List.set_cons_succ]
      refine AtT.take (i := 1) (v := ?_) rfl (by kernel_rfl) (by kernel_rfl) (by kernel_rfl) (by kernel_rfl) (fun _ _ _ h => h) (Or.inl ⟨by kernel_rfl, ?_⟩) (by assumption) ?_
      rotate_left
      · (intro w hSw; (try dsimp only at hSw); go_simp; try with_reducible rfl)
      simp only [Act.put, List.setIfInBounds_toArray, List.set_cons_zero, List.set_cons_succ]
      refine AtT.take (i := 2) (v := ?_) rfl (by kernel_rfl) (by kernel_rfl) (by kernel_rfl) (by kernel_rfl) (fun _ _ _ h => h) (Or.inl ⟨by kernel_rfl, ?_⟩) (by assumption) ?_
      rotate_left
      · (intro w hSw; (try dsimp only at hSw); go_simp; try with_reducible rfl)
      simp only [Act.put, List.setIfInBounds_toArray, List.set_cons_zero, List.set_cons_succ]
      refine AtT.take (i := 3) (v := ?_) rfl (by kernel_rfl) (by kernel_rfl) (by kernel_rfl) (by kernel_rfl) (fun _ _ _ h => h) (Or.inl ⟨by kernel_rfl, ?_⟩) (by assumption) ?_
      rotate_left
      · (intro w hSw; (try dsimp only at hSw); go_simp; try with_reducible rfl)
      simp only [Act.put, List.setIfInBounds_toArray, List.set_cons_zero, List.set_cons_succ]
      refine AtT.take (i := 4) (v := ?_) rfl (by kernel_rfl) (by kernel_rfl) (by kernel_rfl) (by kernel_rfl) (fun _ _ _ h => h) (Or.inl ⟨by kernel_rfl, ?_⟩) (by assumption) ?_
      rotate_left
      · (intro w hSw; (try dsimp only at hSw); go_simp; try with_reducible rfl)
      simp only [Act.put, List.setIfInBounds_toArray, List.set_cons_zero, List.set_cons_succ]
      refine AtT.take (i := 5) (v := ?_) rfl (by kernel_rfl) (by kernel_rfl) (by kernel_rfl) (by kernel_rfl) (fun _ _ _ h => h) (Or.inl ⟨by kernel_rfl, ?_⟩) (by assumption) ?_
      rotate_left
      · (intro w hSw; (try dsimp only at hSw); go_simp; try with_reducible rfl)
      simp only [Act.put, List.setIfInBounds_toArray, List.set_cons_zero, List.set_cons_succ]
      refine AtT.take (i := 6) (v := ?_) rfl (by kernel_rfl) (by kernel_rfl) (by kernel_rfl) (by kernel_rfl) (fun _ _ _ h => h) (Or.inl ⟨by kernel_rfl, ?_⟩) (by assumption) ?_
      rotate_left
      · (intro w hSw; (try dsimp only at hSw); go_simp; try with_reducible rfl)
      simp only [Act.put, List.setIfInBounds_toArray, List.set_cons_zero, List.set_cons_succ]
      refine AtT.take (i := 7) (v := ?_) rfl (by kernel_rfl) (by kernel_rfl) (by kernel_rfl) (by kernel_rfl) (fun _ _ _ h => h) (Or.inl ⟨by kernel_rfl, ?_⟩) (by assumption) ?_
      rotate_left
      · (intro w hSw; (try dsimp only at hSw); go_simp; try with_reducible rfl)
      simp only [Act.put, List.setIfInBounds_toArray, List.set_cons_zero, List.set_cons_succ]
      refine AtT.take (i := 8) (v := ?_) rfl (by kernel_rfl) (by kernel_rfl) (by kernel_rfl) (by kernel_rfl) (fun _ _ _ h => h) (Or.inl ⟨by kernel_rfl, ?_⟩) (by assumption) ?_
      rotate_left
      · (intro w hSw; (try dsimp only at hSw); go_simp; try with_reducible rfl)
      simp only [Act.put, List.setIfInBounds_toArray, List.set_cons_zero, List.set_cons_succ]
      refine AtT.take (i := 9) (v := ?_) rfl (by kernel_rfl) (by kernel_rfl) (by kernel_rfl) (by kernel_rfl) (fun _ _ _ h => h) (Or.inl ⟨by kernel_rfl, ?_⟩) (by assumption) ?_
      rotate_left
      · (intro w hSw; (try dsimp only at hSw); go_simp; try with_reducible rfl)
      simp only [Act.put, List.setIfInBounds_toArray, List.set_cons_zero, List.set_cons_succ]
      refine AtT.only (i := 10) (by kernel_rfl) rfl rfl ?_
      intro K hK
      go_simp
      refine (isSeason1_any x y _).mono ?_
      rintro e w2 ⟨rfl, hb3⟩
      obtain ⟨⟨hc0, hc1, hc2, hc3⟩, hd0, hd1, hd2, hd3⟩ := hS
      have hS : (fun w1 : World => (w1.cell? ⟨b, off + k * 4, none⟩ = some (.int .i64 x.day) ∧ w1.cell? ⟨b, off + k * 4 + 1, none⟩ = some (.int .i64 x.cause) ∧ w1.cell? ⟨b, off + k * 4 + 2, none⟩ = some (.int .i64 x.hect) ∧ w1.cell? ⟨b, off + k * 4 + 3, none⟩ = some (.int .i64 x.hours)) ∧ w1.cell? ⟨b, off + j * 4, none⟩ = some (.int .i64 y.day) ∧ w1.cell? ⟨b, off + j * 4 + 1, none⟩ = some (.int .i64 y.cause) ∧ w1.cell? ⟨b, off + j * 4 + 2, none⟩ = some (.int .i64 y.hect) ∧ w1.cell? ⟨b, off + j * 4 + 3, none⟩ = some (.int .i64 y.hours)) w2 := ⟨⟨keepCell hb3 hc0, keepCell hb3 hc1, keepCell hb3 hc2, keepCell hb3 hc3⟩, keepCell hb3 hd0, keepCell hb3 hd1, keepCell hb3 hd2, keepCell hb3 hd3⟩
      clear hc0 hc1 hc2 hc3 hd0 hd1 hd2 hd3
      dsimp only
      refine hK.out _ _ hS ?_
      clear hK K
      replace hbr : Below w.heap.size w w2 := hbr.trans (Below.trans (Below.refl _ _).drew (hb3.mono hbr.size))
      clear hb3
      refine AtT.last (by kernel_rfl) rfl (by kernel_rfl) ?_
      intro K hK
      go_simp
      refine hK.out _ _ ?_
      clear hK K
      clear hS
      by_cases hle : y.day ≤ x.day
      · have hq : 0 ≤ cmpI x.day y.day := by unfold cmpI; rw [if_neg (by omega)]; split <;> omega
        generalize cmpI x.day y.day = q at *
        go_wp2
        go_roundw
        case rel =>
          refine ⟨j, by omega, rfl, fun i h1 h2 => ?_, hbr⟩
          by_cases e : i = j
          · subst e; rw [HY.out, HX.out]; exact hle
          · exact HA.out i (by omega) h2
        case measure => simp [intOf]; have := HK.out; omega
      · have hq : cmpI x.day y.day < 0 := by unfold cmpI; rw [if_pos (by omega)]; omega
        generalize cmpI x.day y.day = q at *
        go_wp2
        go_ret
        refine ⟨rb ?_, hbr⟩
        cases hs : sortedB xs with
        | false => rfl
        | true => have := sortedB_iff.1 hs j (by rw [HL.out]; have := HK.out; omega); rw [HY.out, HX.out] at this; omega
    · obtain rfl : k = 0 := by omega
      go_wp2
      go_ret
      exact ⟨rb (sortedB_iff.2 (by rw [HL.out]; exact fun j hj => HA.out j (by omega) hj)).symm, hbr⟩

theorem answersFire_isFire (xs : List FireI) (w : World) : AnswersFire 20 #[] fireB xs w := fun v _ w' _ => isFire_any v w'

set_option maxHeartbeats 4000000 in
theorem isSeason_any (a : Option Addr) (n c : Nat) (xs : List FireI) (w : World) (h : Rd FFire w a n c xs) :
    Calls Tryd.prog 10 #[.slice a n c] w fun e w' => e = .returned (.bool (seasonB xs)) ∧ Below w.heap.size w w' := by
  have hn := h.cap
  have hc := h.nroom
  have hcf := enters Tryd.func20 (by kernel_rfl) rfl
  obtain ⟨b3, hb3⟩ : ∃ b3, sortedB xs = b3 := ⟨_, rfl⟩
  obtain ⟨b2, hb2⟩ : ∃ b2, xs.all fireB = b2 := ⟨_, rfl⟩
  have HF := Lib.hid (show seasonB xs = (decide (n ≤ 15) && b2 && b3) by rw [season_eq, hb2, hb3, h.len])
  have H2 := Lib.hid hb2
  have H3 := Lib.hid hb3
  clear hb2 hb3
  by_cases h15 : n ≤ 15
  · skip
    go_enter Tryd.func10, Tryd.ntmps10
    go_wp2_with fail
    refine (sortedFire_any a n c xs _ h).mono ?_
    rw [H3.out]
    rintro e w1 ⟨rfl, hb1⟩
    go_wp2_with fail
    refine (allFire_any _ _ fireB a n c xs _ (h.ext hb1) hcf (answersFire_isFire _ _)).mono ?_
    rw [H2.out]
    rintro e w2 ⟨rfl, hb2⟩
    have hb := hb1.trans (hb2.mono hb1.size)
    cases b2
    all_goals
      go_wp2
      go_ret
      exact ⟨rb (by rw [HF.out]; simp [h15]), hb⟩
  · skip
    go_enter Tryd.func10, Tryd.ntmps10
    go_wp2_with fail
    refine (sortedFire_any a n c xs _ h).mono ?_
    rw [H3.out]
    rintro e w1 ⟨rfl, hb1⟩
    go_wp2
    go_ret
    exact ⟨rb (by rw [HF.out]; simp [h15]), hb1⟩

/-- the sum of the hectares -/
def sumH (xs : List FireI) : Int := (xs.map FireI.hect).sum
theorem sumH_bound {xs : List FireI} (h : ∀ x ∈ xs, fireB x = true) : 0 ≤ sumH xs ∧ sumH xs ≤ 100000 * xs.length := by
  induction xs with
  | nil => simp [sumH]
  | cons x xs ih =>
    have h1 := ih (fun y hy => h y (by simp [hy]))
    have h2 := (fireB_true (h x (by simp))).2.2.1
    have e : sumH (x :: xs) = x.hect + sumH xs := by simp [sumH]
    rw [e]
    simp only [List.length_cons]
    omega
theorem sumH_succ {xs : List FireI} {k : Nat} (hk : k < xs.length) : sumH (xs.take (k + 1)) = sumH (xs.take k) + (xs.getD k FireI.zero).hect := by
  rw [take_succV hk (z := FireI.zero)]
  simp [sumH]

end Go.Proofs.YtpoabdmapbdmfaaDoor
