/- Lemmas. -/
import Derived.Test.YtojfbcgfeojdfaaGreatCGrid
import Derived.Test.YtojfbcgfeojdfaaGreatCVoc
namespace Go.Proofs.YtojfbcgfeojdfaaGreat
set_option linter.unusedSimpArgs false
set_option linter.unusedVariables false
open Go.RowKit

set_option maxRecDepth 100000 in
set_option maxHeartbeats 400000 in
theorem l2Good_any (W H : Int) (a : Option Addr) (n c : Nat) (xs : List Int) (w : World) (h : Ints w a n c xs) :
    Calls Tryz.prog 84 #[.agg #[.int .i64 W, .int .i64 H, .slice a n c]] w fun e w' => e = .returned (.bool (goodB 20 W H xs)) ∧ Below w.heap.size w w' := by
  have hn := h.cap
  have hc := h.room
  have HL := Lib.hid h.len
  cases hW : inB W 1 5
  · have HF : Hid (goodB 20 W H xs = false) := by simp only [Hid, goodB, hW, Bool.false_and]
    go_enter Tryz.func84, Tryz.ntmps84
    go_wp2_with (go_at_call 81; refine (l1In_any _ _ _ _).mono ?_; rintro e w' ⟨rfl, rfl⟩)
    go_ret
    exact ⟨rb HF.out.symm, by (repeat' (first | exact Below.refl _ _ | with_reducible refine Below.setCell ?_ (by first | omega | (simp; done) | (simp; omega)) _ | with_reducible refine Below.alloc ?_ (by first | omega | (simp; done) | (simp; omega)) _ | with_reducible refine Below.drew ?_ | with_reducible refine bdrewN ?_ _))⟩
  cases hH : inB H 1 5
  · have HF : Hid (goodB 20 W H xs = false) := by simp only [Hid, goodB, hH, Bool.false_and, Bool.and_false]
    go_enter Tryz.func84, Tryz.ntmps84
    go_wp2_with (go_at_call 81; refine (l1In_any _ _ _ _).mono ?_; rintro e w' ⟨rfl, rfl⟩)
    go_ret
    exact ⟨rb HF.out.symm, by (repeat' (first | exact Below.refl _ _ | with_reducible refine Below.setCell ?_ (by first | omega | (simp; done) | (simp; omega)) _ | with_reducible refine Below.alloc ?_ (by first | omega | (simp; done) | (simp; omega)) _ | with_reducible refine Below.drew ?_ | with_reducible refine bdrewN ?_ _))⟩
  obtain ⟨w1, w2⟩ := inB_true hW
  obtain ⟨h1, h2⟩ := inB_true hH
  obtain ⟨s1, s2⟩ := side_bound w1 w2 h1 h2
  by_cases h3 : (n : Int) = W * H
  · have hne : ((n : Int) != W * H) = false := by rw [h3]; simp
    have HG : Hid (goodB 20 W H xs = xs.all fun x => inB x 0 20) := by simp only [Hid, goodB, hH, hW, HL.out, h3, Bool.true_and, decide_true]
    clear h3
    go_enter Tryz.func84, Tryz.ntmps84
    go_wp2_with (go_at_call 81; refine (l1In_any _ _ _ _).mono ?_; rintro e w' ⟨rfl, rfl⟩)
    go_loop [3] (fun i => ∃ k : Nat, k ≤ n ∧ i = .int .i64 k ∧ ((xs.take k).all fun x => inB x 0 20) = true) (fun i => n - (intOf i).toNat)
    case atStart => exact ⟨0, Nat.zero_le _, rfl, by simp⟩
    case round =>
      obtain ⟨k, hk, rfl, hall⟩ := hrel
      have HA := Lib.hid hall; clear hall
      by_cases hlt : k < n
      · obtain ⟨b, off, rfl, hb, hcell⟩ := h.at' _ hlt
        have hck := hcell k hlt
        clear hcell
        obtain ⟨x, hx⟩ : ∃ x, xs.getD k 0 = x := ⟨_, rfl⟩
        rw [hx] at hck
        have HX := Lib.hid hx; clear hx
        cases hin : inB x 0 20
        · go_wp2_with (go_at_call 81; refine (l1In_any _ _ _ _).mono ?_; rintro e w' ⟨rfl, rfl⟩)
          go_ret
          refine ⟨rb ?_, by (repeat' (first | exact Below.refl _ _ | with_reducible refine Below.setCell ?_ (by first | omega | (simp; done) | (simp; omega)) _ | with_reducible refine Below.alloc ?_ (by first | omega | (simp; done) | (simp; omega)) _ | with_reducible refine Below.drew ?_ | with_reducible refine bdrewN ?_ _))⟩
          rw [HG.out, all_false_of (k := k) (by rw [HL.out]; exact hlt) (by rw [HX.out]; exact hin)]
        · go_wp2_with (go_at_call 81; refine (l1In_any _ _ _ _).mono ?_; rintro e w' ⟨rfl, rfl⟩)
          go_round
          case rel => exact ⟨k + 1, by omega, by go_num, by rw [all_take_succ (by rw [HL.out]; exact hlt), HA.out, HX.out, hin]; rfl⟩
          case measure => simp [intOf]; omega
      · go_wp2
        go_ret
        obtain rfl : k = n := by omega
        refine ⟨rb ?_, by (repeat' (first | exact Below.refl _ _ | with_reducible refine Below.setCell ?_ (by first | omega | (simp; done) | (simp; omega)) _ | with_reducible refine Below.alloc ?_ (by first | omega | (simp; done) | (simp; omega)) _ | with_reducible refine Below.drew ?_ | with_reducible refine bdrewN ?_ _))⟩
        rw [HG.out, ← HA.out, List.take_of_length_le (by rw [HL.out]; exact Nat.le_refl _)]
  · have HF : Hid (goodB 20 W H xs = false) := by simp only [Hid, goodB, HL.out, h3, Bool.false_and, Bool.and_false, decide_false]
    have hne : ((n : Int) != W * H) = true := by simpa using h3
    clear h3
    go_enter Tryz.func84, Tryz.ntmps84
    go_wp2_with (go_at_call 81; refine (l1In_any _ _ _ _).mono ?_; rintro e w' ⟨rfl, rfl⟩)
    go_ret
    exact ⟨rb HF.out.symm, by (repeat' (first | exact Below.refl _ _ | with_reducible refine Below.setCell ?_ (by first | omega | (simp; done) | (simp; omega)) _ | with_reducible refine Below.alloc ?_ (by first | omega | (simp; done) | (simp; omega)) _ | with_reducible refine Below.drew ?_ | with_reducible refine bdrewN ?_ _))⟩

set_option maxRecDepth 100000 in
theorem grainTerrain_any (x : Int) (w : World) :
    Calls Tryz.prog 88 #[.int .i64 x] w fun e w' => e = .returned (.bool (inB x 0 20)) ∧ Below w.heap.size w w' := by
  go_enter Tryz.func88, Tryz.ntmps88
  go_wp2_with (go_at_call 71; refine (in_any _ _ _ _).mono ?_; rintro e w' ⟨rfl, rfl⟩)
  go_ret
  exact ⟨rfl, Below.refl _ _⟩

set_option maxRecDepth 100000 in
set_option maxHeartbeats 400000 in
theorem IsTerrain_any (W H : Int) (a : Option Addr) (n c : Nat) (xs : List Int) (w : World) (h : Ints w a n c xs) :
    Calls Tryz.prog 42 #[.agg #[.int .i64 W, .int .i64 H, .slice a n c]] w fun e w' => e = .returned (.bool (goodB 20 W H xs)) ∧ Below w.heap.size w w' := by
  have hn := h.cap
  have hc := h.room
  have HL := Lib.hid h.len
  have hA : ∀ w', Answers 88 #[] (fun x => inB x 0 20) xs w' := fun w' x _ w'' _ => grainTerrain_any x w''
  have HA := Lib.hid hA; clear hA
  cases hW : inB W 1 5
  · have HF : Hid (goodB 20 W H xs = false) := by simp only [Hid, goodB, hW, Bool.false_and]
    go_enter Tryz.func42, Tryz.ntmps42
    go_wp2_with (go_at_call 71; refine (in_any _ _ _ _).mono ?_; rintro e w' ⟨rfl, rfl⟩)
    go_ret
    exact ⟨rb HF.out.symm, by (repeat' (first | exact Below.refl _ _ | with_reducible refine Below.setCell ?_ (by first | omega | (simp; done) | (simp; omega)) _ | with_reducible refine Below.alloc ?_ (by first | omega | (simp; done) | (simp; omega)) _ | with_reducible refine Below.drew ?_ | with_reducible refine bdrewN ?_ _))⟩
  cases hH : inB H 1 5
  · have HF : Hid (goodB 20 W H xs = false) := by simp only [Hid, goodB, hH, Bool.false_and, Bool.and_false]
    go_enter Tryz.func42, Tryz.ntmps42
    go_wp2_with (go_at_call 71; refine (in_any _ _ _ _).mono ?_; rintro e w' ⟨rfl, rfl⟩)
    go_ret
    exact ⟨rb HF.out.symm, by (repeat' (first | exact Below.refl _ _ | with_reducible refine Below.setCell ?_ (by first | omega | (simp; done) | (simp; omega)) _ | with_reducible refine Below.alloc ?_ (by first | omega | (simp; done) | (simp; omega)) _ | with_reducible refine Below.drew ?_ | with_reducible refine bdrewN ?_ _))⟩
  obtain ⟨w1, w2⟩ := inB_true hW
  obtain ⟨h1, h2⟩ := inB_true hH
  obtain ⟨s1, s2⟩ := side_bound w1 w2 h1 h2
  by_cases h3 : (n : Int) = W * H
  · have hne : ((n : Int) == W * H) = true := by rw [h3]; simp
    have HG : Hid (goodB 20 W H xs = xs.all fun x => inB x 0 20) := by simp only [Hid, goodB, hH, hW, HL.out, h3, Bool.true_and, decide_true]
    clear h3
    go_enter Tryz.func42, Tryz.ntmps42
    go_wp2_with (go_at_call 71; refine (in_any _ _ _ _).mono ?_; rintro e w' ⟨rfl, rfl⟩)
    refine (all_any _ _ _ a n c xs _ (h.alloc _) (enters Tryz.func88 (by kernel_rfl) rfl) (HA.out _)).mono ?_
    rintro e w1 ⟨rfl, hb⟩
    go_wp2
    go_ret
    exact ⟨rb HG.out.symm, by (repeat' (first | exact Below.refl _ _ | with_reducible refine Below.setCell ?_ (by first | omega | (simp; done) | (simp; omega)) _ | with_reducible refine Below.alloc ?_ (by first | omega | (simp; done) | (simp; omega)) _ | with_reducible refine Below.drew ?_ | with_reducible refine bdrewN ?_ _ | with_reducible refine Below.trans ?_ (Below.mono hb (by first | omega | (simp; done) | (simp; omega)))))⟩
  · have HF : Hid (goodB 20 W H xs = false) := by simp only [Hid, goodB, HL.out, h3, Bool.false_and, Bool.and_false, decide_false]
    have hne : ((n : Int) == W * H) = false := by simpa using h3
    clear h3
    go_enter Tryz.func42, Tryz.ntmps42
    go_wp2_with (go_at_call 71; refine (in_any _ _ _ _).mono ?_; rintro e w' ⟨rfl, rfl⟩)
    go_ret
    exact ⟨rb HF.out.symm, by (repeat' (first | exact Below.refl _ _ | with_reducible refine Below.setCell ?_ (by first | omega | (simp; done) | (simp; omega)) _ | with_reducible refine Below.alloc ?_ (by first | omega | (simp; done) | (simp; omega)) _ | with_reducible refine Below.drew ?_ | with_reducible refine bdrewN ?_ _))⟩

end Go.Proofs.YtojfbcgfeojdfaaGreat

namespace Go.Proofs.YtojfbcgfeojdfaaGreat
set_option linter.unusedSimpArgs false
set_option linter.unusedVariables false
open Go.RowKit

set_option maxRecDepth 100000 in
set_option maxHeartbeats 400000 in
theorem copiedTerrain_any (W H : Int) (a : Option Addr) (n c : Nat) (xs : List Int) (w : World) (h : Ints w a n c xs) :
    Calls Tryz.prog 151 #[.agg #[.int .i64 W, .int .i64 H, .slice a n c]] w fun e w' => ∃ a' c', e = .returned (.agg #[.int .i64 W, .int .i64 H, .slice a' n c']) ∧ Own w.heap.size w' a' n c' xs ∧ Below w.heap.size w w' := by
  have hn := h.cap
  have hc := h.room
  go_enter Tryz.func151, Tryz.ntmps151
  go_wp2_with fail
  go_region_held3 (fun w' => (∀ o, w'.cell? ⟨w.heap.size, o, none⟩ = (#[.int .i64 W, .int .i64 H, .slice a n c] : Array Value)[o]?)) (first | assumption | (simp [*, World.cell?_setCell_far]; done)) (first | (go_at_call 162; refine (copyOf_any _ _ _ xs _ (by exact ((h.alloc _).alloc _).drew)).mono ?_; rintro e w1 ⟨a', c', rfl, hO, hb⟩; have k0 := keepRow hb (b := w.heap.size) (by simp; omega) (by assumption); obtain ⟨k1, f1, l1⟩ := ((Row.new _ (w.heap.size + 1) (by simp) _ _).drew.below hb)))
  go_wp2
  refine bodyPost_ret (v := .agg #[.int .i64 W, .int .i64 H, .slice a' n c']) (by simp [results, Tryz.results151, go_sem, k1]) rfl ⟨a', c', rfl, ?_, ?_⟩
  · ((repeat with_reducible refine Own.setCell_far ?_ (hO.apart (by first | omega | (simp; done) | (simp; omega))) _); exact hO.mono (by first | omega | (simp; done) | (simp; omega)))
  · (repeat' (first | exact Below.refl _ _ | with_reducible refine Below.setCell ?_ (by first | omega | (simp; done) | (simp; omega)) _ | with_reducible refine Below.alloc ?_ (by first | omega | (simp; done) | (simp; omega)) _ | with_reducible refine Below.drew ?_ | with_reducible refine bdrewN ?_ _ | with_reducible refine Below.trans ?_ (Below.mono hb (by first | omega | (simp; done) | (simp; omega)))))


theorem row_any (W H c : Int) (s : Value) (w : World) (hc : 0 ≤ c ∧ c ≤ 1000000) (hW : 1 ≤ W ∧ W ≤ 5) :
    Calls Tryz.prog 135 #[.agg #[.int .i64 W, .int .i64 H, s], .int .i64 c] w fun e w' => e = .returned (.int .i64 (c / W)) ∧ Below w.heap.size w w' := by
  obtain ⟨c1, c2⟩ := hc
  obtain ⟨w1, w2⟩ := hW
  have d1 : 0 ≤ c / W := Int.ediv_nonneg c1 (by omega)
  have d2 : c / W ≤ c := Int.ediv_le_self _ c1
  go_enter Tryz.func135, Tryz.ntmps135
  go_wp2
  go_ret
  exact ⟨rfl, by (repeat' (first | exact Below.refl _ _ | with_reducible refine Below.setCell ?_ (by first | omega | (simp; done) | (simp; omega)) _ | with_reducible refine Below.alloc ?_ (by first | omega | (simp; done) | (simp; omega)) _ | with_reducible refine Below.drew ?_ | with_reducible refine bdrewN ?_ _))⟩
theorem column_any (W H c : Int) (s : Value) (w : World) (hc : 0 ≤ c ∧ c ≤ 1000000) (hW : 1 ≤ W ∧ W ≤ 5) :
    Calls Tryz.prog 134 #[.agg #[.int .i64 W, .int .i64 H, s], .int .i64 c] w fun e w' => e = .returned (.int .i64 (c % W)) ∧ Below w.heap.size w w' := by
  obtain ⟨c1, c2⟩ := hc
  obtain ⟨w1, w2⟩ := hW
  go_enter Tryz.func134, Tryz.ntmps134
  go_wp2
  go_ret
  exact ⟨rfl, by (repeat' (first | exact Below.refl _ _ | with_reducible refine Below.setCell ?_ (by first | omega | (simp; done) | (simp; omega)) _ | with_reducible refine Below.alloc ?_ (by first | omega | (simp; done) | (simp; omega)) _ | with_reducible refine Below.drew ?_ | with_reducible refine bdrewN ?_ _))⟩
end Go.Proofs.YtojfbcgfeojdfaaGreat

namespace Go.Proofs.YtojfbcgfeojdfaaGreat
set_option linter.unusedSimpArgs false
set_option linter.unusedVariables false
/-- cells that are reached in k steps from sources, over cells that burn -/
def rK (n : Nat) (near : Nat → Nat → Bool) (burn src : Nat → Bool) : Nat → Nat → Prop
  | 0, c => c < n ∧ src c = true ∧ burn c = true
  | k + 1, c => rK n near burn src k c ∨ (c < n ∧ burn c = true ∧ ∃ d, rK n near burn src k d ∧ near d c = true)
def Reach (n : Nat) (near : Nat → Nat → Bool) (burn src : Nat → Bool) (c : Nat) : Prop := ∃ k, rK n near burn src k c
section
variable {n : Nat} {near : Nat → Nat → Bool} {burn src : Nat → Bool}
theorem Reach.base {c : Nat} (h : c < n) (hs : src c = true) (hb : burn c = true) : Reach n near burn src c := ⟨0, h, hs, hb⟩
theorem Reach.step {d c : Nat} (hd : Reach n near burn src d) (h : c < n) (hb : burn c = true) (hn : near d c = true) : Reach n near burn src c := by
  obtain ⟨k, hk⟩ := hd
  exact ⟨k + 1, .inr ⟨h, hb, d, hk, hn⟩⟩
theorem Reach.least {T : Nat → Prop} (h0 : ∀ c, c < n → src c = true → burn c = true → T c) (h1 : ∀ d c, T d → c < n → burn c = true → near d c = true → T c) {c : Nat} (h : Reach n near burn src c) : T c := by
  obtain ⟨k, hk⟩ := h
  induction k generalizing c with
  | zero => exact h0 c hk.1 hk.2.1 hk.2.2
  | succ k ih =>
    rcases hk with hk | ⟨hc, hb, d, hd, hn⟩
    · exact ih hk
    · exact h1 d c (ih hd) hc hb hn
theorem Reach.lt {c : Nat} (h : Reach n near burn src c) : c < n ∧ burn c = true :=
  h.least (T := fun c => c < n ∧ burn c = true) (fun _ h1 _ h3 => ⟨h1, h3⟩) (fun _ _ _ h1 h2 _ => ⟨h1, h2⟩)
end
noncomputable def reachB (n : Nat) (near : Nat → Nat → Bool) (burn src : Nat → Bool) (c : Nat) : Bool := @decide (Reach n near burn src c) (Classical.propDecidable _)
theorem reachB_iff {n : Nat} {near : Nat → Nat → Bool} {burn src : Nat → Bool} {c : Nat} : reachB n near burn src c = true ↔ Reach n near burn src c := by
  unfold reachB
  exact @decide_eq_true_iff _ (Classical.propDecidable _)
/-- strictly ascending lists with the same elements are the same -/
theorem asc_ext : ∀ {xs ys : List Int}, xs.Pairwise (· < ·) → ys.Pairwise (· < ·) → (∀ x, x ∈ xs ↔ x ∈ ys) → xs = ys
  | [], [], _, _, _ => rfl
  | [], y :: ys, _, _, h => by have := (h y).2 (by simp); simp at this
  | x :: xs, [], _, _, h => by have := (h x).1 (by simp); simp at this
  | x :: xs, y :: ys, hx, hy, h => by
    obtain ⟨hx1, hx2⟩ := List.pairwise_cons.1 hx
    obtain ⟨hy1, hy2⟩ := List.pairwise_cons.1 hy
    have e : x = y := by
      have h1 := (h x).1 (by simp)
      have h2 := (h y).2 (by simp)
      rcases List.mem_cons.1 h1 with h1 | h1
      · exact h1
      · rcases List.mem_cons.1 h2 with h2 | h2
        · exact h2.symm
        · have := hx1 y h2
          have := hy1 x h1
          omega
    subst e
    rw [asc_ext hx2 hy2 (fun z => ?_)]
    constructor
    · intro hz
      rcases List.mem_cons.1 ((h z).1 (by simp [hz])) with rfl | h3
      · have := hx1 z hz; omega
      · exact h3
    · intro hz
      rcases List.mem_cons.1 ((h z).2 (by simp [hz])) with rfl | h3
      · have := hy1 z hz; omega
      · exact h3
end Go.Proofs.YtojfbcgfeojdfaaGreat
