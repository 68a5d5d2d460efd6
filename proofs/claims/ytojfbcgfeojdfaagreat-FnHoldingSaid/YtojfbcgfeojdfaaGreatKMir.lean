/- Lemmas. -/
import Derived.Test.YtojfbcgfeojdfaaGreatProg
import Derived.Test.YtojfbcgfeojdfaaGreatKVoc
import Derived.Deep.QuietTactic
import Derived.BigQuiet
import Derived.RegionTactic
import Derived.Deep.RegionHeld3
import Derived.Laws.ResultCell
import Derived.Laws.EntriesVeiled
import Derived.Outline
namespace Go.Proofs.YtojfbcgfeojdfaaGreat
set_option linter.unusedSimpArgs false
set_option linter.unusedVariables false
open Go.RowKit

theorem Tryz.info3 : (Tryz.prog.info? 3).map (fun i => (i.zero, i.size, i.bytes)) = some (some (.int .i64 0), 1, 8) := by kernel_rfl

theorem in_any (n lo hi : Int) (w : World) :
    Calls Tryz.prog 71 #[.int .i64 n, .int .i64 lo, .int .i64 hi] w fun e w' => e = .returned (.bool (inB n lo hi)) ∧ w = w' := by
  by_cases h1 : lo ≤ n <;> by_cases h2 : n ≤ hi
  all_goals
    go_enter Tryz.func71, Tryz.ntmps71
    go_wp2
    go_ret
    exact ⟨rb (by simp [inB, h1, h2]), rfl⟩

theorem l1In_any (n lo hi : Int) (w : World) :
    Calls Tryz.prog 81 #[.int .i64 n, .int .i64 lo, .int .i64 hi] w fun e w' => e = .returned (.bool (inB n lo hi)) ∧ w = w' := by
  by_cases h1 : lo ≤ n <;> by_cases h2 : n ≤ hi
  all_goals
    go_enter Tryz.func81, Tryz.ntmps81
    go_wp2
    go_ret
    exact ⟨rb (by simp [inB, h1, h2]), rfl⟩

/-- what a function value answers on the numbers of a list -/
def Answers (f : FuncId) (caps : Array Value) (p : Int → Bool) (xs : List Int) (w : World) : Prop :=
  ∀ x ∈ xs, ∀ w', Below w.heap.size w w' → Calls Tryz.prog f (#[.int .i64 x] ++ caps) w' fun e w'' => e = .returned (.bool (p x)) ∧ Below w'.heap.size w' w''

set_option maxRecDepth 100000 in
set_option maxHeartbeats 400000 in
theorem indexFunc_any (f : FuncId) (caps : Array Value) (p : Int → Bool) (a : Option Addr) (n c : Nat) (xs : List Int) (w : World) (h : Ints w a n c xs) (hcf : ∀ args w, (callFunc f args).run Tryz.prog w = .ok (.enter f args) w) (hf : Answers f caps p xs w) :
    Calls Tryz.prog 148 #[.slice a n c, .func (.func f) #[] caps] w fun e w' => e = .returned (.int .i64 (firstI p xs)) ∧ Below w.heap.size w w' := by
  have hn := h.cap
  have hc := h.room
  have HL := Lib.hid h.len
  have HF := Lib.hid hf
  clear hf
  go_enter Tryz.func148, Tryz.ntmps148
  go_wp2
  go_loopw [8] (fun i wr => ∃ k : Nat, k ≤ n ∧ i = .int .i64 k ∧ (xs.take k).any p = false ∧ Below w.heap.size w wr) (fun i _ => n - (intOf i).toNat)
  case atStart => exact ⟨0, Nat.zero_le _, rfl, by simp, Below.refl _ _⟩
  case round =>
    obtain ⟨k, hk, rfl, hall, hbr⟩ := hrel
    have HA := Lib.hid hall; clear hall
    by_cases hlt : k < n
    · obtain ⟨b, off, rfl, hb, hcell⟩ := (h.below hbr).at' _ hlt
      have hck := hcell k hlt
      clear hcell
      have hmem : xs.getD k 0 ∈ xs := getD_mem (by rw [HL.out]; exact hlt)
      obtain ⟨x, hx⟩ : ∃ x, xs.getD k 0 = x := ⟨_, rfl⟩
      rw [hx] at hck hmem
      have HX := Lib.hid hx; clear hx
      go_wp2_with fail
      refine (HF.out x hmem _ hbr).mono ?_
      rintro e w1 ⟨rfl, hb1⟩
      have hb2 : Below w.heap.size w w1 := hbr.trans (hb1.mono hbr.size)
      cases hp : p x
      · go_wp2
        go_roundw
        case rel => exact ⟨k + 1, by omega, by go_num, by rw [any_take_succ (by rw [HL.out]; exact hlt), HA.out, HX.out, hp]; rfl, hb2⟩
        case measure => simp [intOf]; omega
      · go_wp2
        go_ret
        exact ⟨ri (by rw [firstI_at (k := k) (by rw [HL.out]; exact hlt) HA.out (by rw [HX.out]; exact hp)]), hb2⟩
    · go_wp2
      go_ret
      obtain rfl : k = n := by omega
      exact ⟨ri (by rw [firstI_none (by rw [← HA.out, List.take_of_length_le (by rw [HL.out]; exact Nat.le_refl _)])]), hbr⟩

theorem enters {f : FuncId} {fn : Func} {c : Code} (hf : Tryz.prog.funcs[f]? = some fn) (hname : (fn.name == "runtime.NumGoroutine") = false) (hb : fn.body = some c) :
    ∀ args w, (callFunc f args).run Tryz.prog w = .ok (.enter f args) w := by
  intro args w
  have hn : ¬ fn.name = "runtime.NumGoroutine" := by simpa using hname
  simp [callFunc, hf, hn, hb]

set_option maxRecDepth 100000 in
set_option maxHeartbeats 400000 in
theorem containsFunc_any (f : FuncId) (caps : Array Value) (p : Int → Bool) (a : Option Addr) (n c : Nat) (xs : List Int) (w : World) (h : Ints w a n c xs) (hcf : ∀ args w, (callFunc f args).run Tryz.prog w = .ok (.enter f args) w) (hf : Answers f caps p xs w) :
    Calls Tryz.prog 120 #[.slice a n c, .func (.func f) #[] caps] w fun e w' => e = .returned (.bool (xs.any p)) ∧ Below w.heap.size w w' := by
  have HF := Lib.hid hf
  clear hf
  have HR := Lib.hid (firstI_sign p xs)
  go_enter Tryz.func120, Tryz.ntmps120
  go_wp2_with fail
  refine (indexFunc_any f caps p a n c xs _ h hcf HF.out).mono ?_
  rintro e w1 ⟨rfl, hb1⟩
  cases hp : xs.any p
  · have hd : decide (0 ≤ firstI p xs) = false := by rw [HR.out, hp]
    go_wp2
    go_ret
    exact ⟨rb hp.symm, hb1⟩
  · have hd : decide (0 ≤ firstI p xs) = true := by rw [HR.out, hp]
    go_wp2
    go_ret
    exact ⟨rb hp.symm, hb1⟩

set_option maxRecDepth 100000 in
set_option maxHeartbeats 400000 in
theorem all1_any (f : FuncId) (caps : Array Value) (y : Bool) (x : Int) (b : Nat) (w : World) (hc : w.cell? ⟨b, 0, none⟩ = some (.func (.func f) #[] caps)) (hcf : ∀ args w, (callFunc f args).run Tryz.prog w = .ok (.enter f args) w)
    (hf : Calls Tryz.prog f (#[.int .i64 x] ++ caps) w fun e w'' => e = .returned (.bool y) ∧ Below w.heap.size w w'') :
    Calls Tryz.prog 121 #[.int .i64 x, .pointer (some ⟨b, 0, none⟩)] w fun e w' => e = .returned (.bool (!y)) ∧ Below w.heap.size w w' := by
  have HF := Lib.hid hf
  clear hf
  go_enter Tryz.func121, Tryz.ntmps121
  go_wp2_with fail
  refine HF.out.mono ?_
  rintro e w1 ⟨rfl, hb1⟩
  cases y
  all_goals
    go_wp2
    go_ret
    exact ⟨rfl, hb1⟩

set_option maxRecDepth 100000 in
set_option maxHeartbeats 400000 in
theorem all_any (f : FuncId) (caps : Array Value) (p : Int → Bool) (a : Option Addr) (n c : Nat) (xs : List Int) (w : World) (h : Ints w a n c xs) (hcf : ∀ args w, (callFunc f args).run Tryz.prog w = .ok (.enter f args) w) (hf : Answers f caps p xs w) :
    Calls Tryz.prog 73 #[.slice a n c, .func (.func f) #[] caps] w fun e w' => e = .returned (.bool (xs.all p)) ∧ Below w.heap.size w w' := by
  have HF := Lib.hid hf
  clear hf
  have hA : Answers 121 #[.pointer (some ⟨w.heap.size, 0, none⟩)] (fun x => !p x) xs (w.alloc (.cells #[.func (.func f) #[] caps] 74)) := by
    intro x hx w' hb
    have hb0 : Below w.heap.size w w' := ((Below.refl _ _).alloc (Nat.le_refl _) _).trans (hb.mono (by simp))
    exact all1_any f caps (p x) x w.heap.size w' (by
      have := hb.cell (p := ⟨w.heap.size, 0, none⟩) (by simp)
      rw [this]; exact newRow w _ rfl _ _ 0) hcf (HF.out x hx w' hb0)
  have HA := Lib.hid hA
  clear hA
  have HN := Lib.hid (any_not p xs)
  have hmf : ∀ (fn : Fn) (first cap : Array Value) (w : World), (Instr.makeFunc fn first cap).run Tryz.prog w = .ok (.func fn first cap) w := fun _ _ _ _ => rfl
  go_enter Tryz.func73, Tryz.ntmps73
  go_wp2_with fail
  refine (containsFunc_any _ _ _ a n c xs _ (h.alloc _) (enters Tryz.func121 (by kernel_rfl) rfl) HA.out).mono ?_
  rintro e w1 ⟨rfl, hb1⟩
  rw [HN.out]
  cases hp : xs.all p
  all_goals
    go_wp2
    go_ret
    exact ⟨rb hp.symm, ((Below.refl _ _).alloc (Nat.le_refl _) _).trans (hb1.mono (by simp))⟩

set_option maxRecDepth 100000 in
set_option maxHeartbeats 400000 in
theorem copyOf_any (a : Option Addr) (n c : Nat) (xs : List Int) (w : World) (h : Ints w a n c xs) :
    Calls Tryz.prog 162 #[.slice a n c] w fun e w' => ∃ a' c', e = .returned (.slice a' n c') ∧ Own w.heap.size w' a' n c' xs ∧ Below w.heap.size w w' := by
  have hn := h.cap
  have hc := h.room
  obtain ⟨i0, hi, hz0, hz1, hz2⟩ := info_parts Tryz.info3
  have h1 : Below w.heap.size w (w.alloc (.cells #[] 3)) := (Below.refl _ _).alloc (Nat.le_refl _) _
  go_enter Tryz.func162, Tryz.ntmps162
  go_wp2_with (at_builtin; refine wpList_appendI rfl (.tmp 3) (.tmp 4) 24 rfl 3 i0 Tryz.underlying24 hi hz0 hz1 hz2 w.heap.size (some ⟨w.heap.size, 0, none⟩) 0 0 [] rfl (World.ownsRow_made w #[] 0 (Nat.le_refl _) (Nat.zero_le _) rfl) a n c xs rfl (h.alloc _) ?c1 ?c2 ?_)
  case c1 => omega
  case c2 => simp
  intro a' c' w' hown hg _
  go_wp2
  go_ret
  exact ⟨a', c', rfl, ⟨h.len, h.room, h.wf, hown⟩, h1.grown hg (by simp) (by intro k hk; simp [Value.ownBlock] at hk; omega)⟩

set_option maxRecDepth 100000 in
set_option maxHeartbeats 400000 in
theorem l1Own_any (a : Option Addr) (n c : Nat) (xs : List Int) (w : World) (h : Ints w a n c xs) :
    Calls Tryz.prog 150 #[.slice a n c] w fun e w' => ∃ a' c', e = .returned (.slice a' n c') ∧ Own w.heap.size w' a' n c' xs ∧ Below w.heap.size w w' := by
  have hn := h.cap
  have hc := h.room
  obtain ⟨i0, hi, hz0, hz1, hz2⟩ := info_parts Tryz.info3
  have h1 : Below w.heap.size w (w.alloc (.cells #[] 3)) := (Below.refl _ _).alloc (Nat.le_refl _) _
  go_enter Tryz.func150, Tryz.ntmps150
  go_wp2_with (at_builtin; refine wpList_appendI rfl (.tmp 3) (.tmp 4) 24 rfl 3 i0 Tryz.underlying24 hi hz0 hz1 hz2 w.heap.size (some ⟨w.heap.size, 0, none⟩) 0 0 [] rfl (World.ownsRow_made w #[] 0 (Nat.le_refl _) (Nat.zero_le _) rfl) a n c xs rfl (h.alloc _) ?c1 ?c2 ?_)
  case c1 => omega
  case c2 => simp
  intro a' c' w' hown hg _
  go_wp2
  go_ret
  exact ⟨a', c', rfl, ⟨h.len, h.room, h.wf, hown⟩, h1.grown hg (by simp) (by intro k hk; simp [Value.ownBlock] at hk; omega)⟩

end Go.Proofs.YtojfbcgfeojdfaaGreat

namespace Go.Proofs.YtojfbcgfeojdfaaGreat
set_option linter.unusedSimpArgs false
set_option linter.unusedVariables false
open Go.RowKit

set_option maxRecDepth 100000 in
set_option maxHeartbeats 400000 in
theorem l2Good_any (W H : Int) (a : Option Addr) (n c : Nat) (xs : List Int) (w : World) (h : Ints w a n c xs) :
    Calls Tryz.prog 84 #[.agg #[.int .i64 W, .int .i64 H, .slice a n c]] w fun e w' => e = .returned (.bool (goodB 20 W H xs)) ∧ Below w.heap.size w w' := by
  have hn := h.cap
  have hc := h.room
  have HL := Lib.hid h.len
  cases hW : inB W 1 5
  · have HF : Hid (goodB 20 W H xs = false) := by simp only [Hid, goodB, hW, Bool.false_and]
    go_enter Tryz.func84, Tryz.ntmps84
    go_wp2_with (go_at_call 81; refine (l1In_any _ _ _ _).mono ?_; rintro e w' ⟨rfl, rfl⟩)
    go_ret
    exact ⟨rb HF.out.symm, by (repeat' (first | exact Below.refl _ _ | with_reducible refine Below.setCell ?_ (by first | omega | (simp; done) | (simp; omega)) _ | with_reducible refine Below.alloc ?_ (by first | omega | (simp; done) | (simp; omega)) _ | with_reducible refine Below.drew ?_ | with_reducible refine bdrewN ?_ _))⟩
  cases hH : inB H 1 5
  · have HF : Hid (goodB 20 W H xs = false) := by simp only [Hid, goodB, hH, Bool.false_and, Bool.and_false]
    go_enter Tryz.func84, Tryz.ntmps84
    go_wp2_with (go_at_call 81; refine (l1In_any _ _ _ _).mono ?_; rintro e w' ⟨rfl, rfl⟩)
    go_ret
    exact ⟨rb HF.out.symm, by (repeat' (first | exact Below.refl _ _ | with_reducible refine Below.setCell ?_ (by first | omega | (simp; done) | (simp; omega)) _ | with_reducible refine Below.alloc ?_ (by first | omega | (simp; done) | (simp; omega)) _ | with_reducible refine Below.drew ?_ | with_reducible refine bdrewN ?_ _))⟩
  obtain ⟨w1, w2⟩ := inB_true hW
  obtain ⟨h1, h2⟩ := inB_true hH
  obtain ⟨s1, s2⟩ := side_bound w1 w2 h1 h2
  by_cases h3 : (n : Int) = W * H
  · have hne : ((n : Int) != W * H) = false := by rw [h3]; simp
    have HG : Hid (goodB 20 W H xs = xs.all fun x => inB x 0 20) := by simp only [Hid, goodB, hH, hW, HL.out, h3, Bool.true_and, decide_true]
    clear h3
    go_enter Tryz.func84, Tryz.ntmps84
    go_wp2_with (go_at_call 81; refine (l1In_any _ _ _ _).mono ?_; rintro e w' ⟨rfl, rfl⟩)
    go_loop [3] (fun i => ∃ k : Nat, k ≤ n ∧ i = .int .i64 k ∧ ((xs.take k).all fun x => inB x 0 20) = true) (fun i => n - (intOf i).toNat)
    case atStart => exact ⟨0, Nat.zero_le _, rfl, by simp⟩
    case round =>
      obtain ⟨k, hk, rfl, hall⟩ := hrel
      have HA := Lib.hid hall; clear hall
      by_cases hlt : k < n
      · obtain ⟨b, off, rfl, hb, hcell⟩ := h.at' _ hlt
        have hck := hcell k hlt
        clear hcell
        obtain ⟨x, hx⟩ : ∃ x, xs.getD k 0 = x := ⟨_, rfl⟩
        rw [hx] at hck
        have HX := Lib.hid hx; clear hx
        cases hin : inB x 0 20
        · go_wp2_with (go_at_call 81; refine (l1In_any _ _ _ _).mono ?_; rintro e w' ⟨rfl, rfl⟩)
          go_ret
          refine ⟨rb ?_, by (repeat' (first | exact Below.refl _ _ | with_reducible refine Below.setCell ?_ (by first | omega | (simp; done) | (simp; omega)) _ | with_reducible refine Below.alloc ?_ (by first | omega | (simp; done) | (simp; omega)) _ | with_reducible refine Below.drew ?_ | with_reducible refine bdrewN ?_ _))⟩
          rw [HG.out, all_false_of (k := k) (by rw [HL.out]; exact hlt) (by rw [HX.out]; exact hin)]
        · go_wp2_with (go_at_call 81; refine (l1In_any _ _ _ _).mono ?_; rintro e w' ⟨rfl, rfl⟩)
          go_round
          case rel => exact ⟨k + 1, by omega, by go_num, by rw [all_take_succ (by rw [HL.out]; exact hlt), HA.out, HX.out, hin]; rfl⟩
          case measure => simp [intOf]; omega
      · go_wp2
        go_ret
        obtain rfl : k = n := by omega
        refine ⟨rb ?_, by (repeat' (first | exact Below.refl _ _ | with_reducible refine Below.setCell ?_ (by first | omega | (simp; done) | (simp; omega)) _ | with_reducible refine Below.alloc ?_ (by first | omega | (simp; done) | (simp; omega)) _ | with_reducible refine Below.drew ?_ | with_reducible refine bdrewN ?_ _))⟩
        rw [HG.out, ← HA.out, List.take_of_length_le (by rw [HL.out]; exact Nat.le_refl _)]
  · have HF : Hid (goodB 20 W H xs = false) := by simp only [Hid, goodB, HL.out, h3, Bool.false_and, Bool.and_false, decide_false]
    have hne : ((n : Int) != W * H) = true := by simpa using h3
    clear h3
    go_enter Tryz.func84, Tryz.ntmps84
    go_wp2_with (go_at_call 81; refine (l1In_any _ _ _ _).mono ?_; rintro e w' ⟨rfl, rfl⟩)
    go_ret
    exact ⟨rb HF.out.symm, by (repeat' (first | exact Below.refl _ _ | with_reducible refine Below.setCell ?_ (by first | omega | (simp; done) | (simp; omega)) _ | with_reducible refine Below.alloc ?_ (by first | omega | (simp; done) | (simp; omega)) _ | with_reducible refine Below.drew ?_ | with_reducible refine bdrewN ?_ _))⟩

set_option maxRecDepth 100000 in
theorem grainTerrain_any (x : Int) (w : World) :
    Calls Tryz.prog 88 #[.int .i64 x] w fun e w' => e = .returned (.bool (inB x 0 20)) ∧ Below w.heap.size w w' := by
  go_enter Tryz.func88, Tryz.ntmps88
  go_wp2_with (go_at_call 71; refine (in_any _ _ _ _).mono ?_; rintro e w' ⟨rfl, rfl⟩)
  go_ret
  exact ⟨rfl, Below.refl _ _⟩

set_option maxRecDepth 100000 in
set_option maxHeartbeats 400000 in
theorem IsTerrain_any (W H : Int) (a : Option Addr) (n c : Nat) (xs : List Int) (w : World) (h : Ints w a n c xs) :
    Calls Tryz.prog 42 #[.agg #[.int .i64 W, .int .i64 H, .slice a n c]] w fun e w' => e = .returned (.bool (goodB 20 W H xs)) ∧ Below w.heap.size w w' := by
  have hn := h.cap
  have hc := h.room
  have HL := Lib.hid h.len
  have hA : ∀ w', Answers 88 #[] (fun x => inB x 0 20) xs w' := fun w' x _ w'' _ => grainTerrain_any x w''
  have HA := Lib.hid hA; clear hA
  cases hW : inB W 1 5
  · have HF : Hid (goodB 20 W H xs = false) := by simp only [Hid, goodB, hW, Bool.false_and]
    go_enter Tryz.func42, Tryz.ntmps42
    go_wp2_with (go_at_call 71; refine (in_any _ _ _ _).mono ?_; rintro e w' ⟨rfl, rfl⟩)
    go_ret
    exact ⟨rb HF.out.symm, by (repeat' (first | exact Below.refl _ _ | with_reducible refine Below.setCell ?_ (by first | omega | (simp; done) | (simp; omega)) _ | with_reducible refine Below.alloc ?_ (by first | omega | (simp; done) | (simp; omega)) _ | with_reducible refine Below.drew ?_ | with_reducible refine bdrewN ?_ _))⟩
  cases hH : inB H 1 5
  · have HF : Hid (goodB 20 W H xs = false) := by simp only [Hid, goodB, hH, Bool.false_and, Bool.and_false]
    go_enter Tryz.func42, Tryz.ntmps42
    go_wp2_with (go_at_call 71; refine (in_any _ _ _ _).mono ?_; rintro e w' ⟨rfl, rfl⟩)
    go_ret
    exact ⟨rb HF.out.symm, by (repeat' (first | exact Below.refl _ _ | with_reducible refine Below.setCell ?_ (by first | omega | (simp; done) | (simp; omega)) _ | with_reducible refine Below.alloc ?_ (by first | omega | (simp; done) | (simp; omega)) _ | with_reducible refine Below.drew ?_ | with_reducible refine bdrewN ?_ _))⟩
  obtain ⟨w1, w2⟩ := inB_true hW
  obtain ⟨h1, h2⟩ := inB_true hH
  obtain ⟨s1, s2⟩ := side_bound w1 w2 h1 h2
  by_cases h3 : (n : Int) = W * H
  · have hne : ((n : Int) == W * H) = true := by rw [h3]; simp
    have HG : Hid (goodB 20 W H xs = xs.all fun x => inB x 0 20) := by simp only [Hid, goodB, hH, hW, HL.out, h3, Bool.true_and, decide_true]
    clear h3
    go_enter Tryz.func42, Tryz.ntmps42
    go_wp2_with (go_at_call 71; refine (in_any _ _ _ _).mono ?_; rintro e w' ⟨rfl, rfl⟩)
    refine (all_any _ _ _ a n c xs _ (h.alloc _) (enters Tryz.func88 (by kernel_rfl) rfl) (HA.out _)).mono ?_
    rintro e w1 ⟨rfl, hb⟩
    go_wp2
    go_ret
    exact ⟨rb HG.out.symm, by (repeat' (first | exact Below.refl _ _ | with_reducible refine Below.setCell ?_ (by first | omega | (simp; done) | (simp; omega)) _ | with_reducible refine Below.alloc ?_ (by first | omega | (simp; done) | (simp; omega)) _ | with_reducible refine Below.drew ?_ | with_reducible refine bdrewN ?_ _ | with_reducible refine Below.trans ?_ (Below.mono hb (by first | omega | (simp; done) | (simp; omega)))))⟩
  · have HF : Hid (goodB 20 W H xs = false) := by simp only [Hid, goodB, HL.out, h3, Bool.false_and, Bool.and_false, decide_false]
    have hne : ((n : Int) == W * H) = false := by simpa using h3
    clear h3
    go_enter Tryz.func42, Tryz.ntmps42
    go_wp2_with (go_at_call 71; refine (in_any _ _ _ _).mono ?_; rintro e w' ⟨rfl, rfl⟩)
    go_ret
    exact ⟨rb HF.out.symm, by (repeat' (first | exact Below.refl _ _ | with_reducible refine Below.setCell ?_ (by first | omega | (simp; done) | (simp; omega)) _ | with_reducible refine Below.alloc ?_ (by first | omega | (simp; done) | (simp; omega)) _ | with_reducible refine Below.drew ?_ | with_reducible refine bdrewN ?_ _))⟩

end Go.Proofs.YtojfbcgfeojdfaaGreat

namespace Go.Proofs.YtojfbcgfeojdfaaGreat
set_option linter.unusedSimpArgs false
set_option linter.unusedVariables false
open Go.RowKit

set_option maxRecDepth 100000 in
set_option maxHeartbeats 400000 in
theorem copiedTerrain_any (W H : Int) (a : Option Addr) (n c : Nat) (xs : List Int) (w : World) (h : Ints w a n c xs) :
    Calls Tryz.prog 151 #[.agg #[.int .i64 W, .int .i64 H, .slice a n c]] w fun e w' => ∃ a' c', e = .returned (.agg #[.int .i64 W, .int .i64 H, .slice a' n c']) ∧ Own w.heap.size w' a' n c' xs ∧ Below w.heap.size w w' := by
  have hn := h.cap
  have hc := h.room
  go_enter Tryz.func151, Tryz.ntmps151
  go_wp2_with fail
  go_region_held3 (fun w' => (∀ o, w'.cell? ⟨w.heap.size, o, none⟩ = (#[.int .i64 W, .int .i64 H, .slice a n c] : Array Value)[o]?)) (first | assumption | (simp [*, World.cell?_setCell_far]; done)) (first | (go_at_call 162; refine (copyOf_any _ _ _ xs _ (by exact ((h.alloc _).alloc _).drew)).mono ?_; rintro e w1 ⟨a', c', rfl, hO, hb⟩; have k0 := keepRow hb (b := w.heap.size) (by simp; omega) (by assumption); obtain ⟨k1, f1, l1⟩ := ((Row.new _ (w.heap.size + 1) (by simp) _ _).drew.below hb)))
  go_wp2
  refine bodyPost_ret (v := .agg #[.int .i64 W, .int .i64 H, .slice a' n c']) (by simp [results, Tryz.results151, go_sem, k1]) rfl ⟨a', c', rfl, ?_, ?_⟩
  · ((repeat with_reducible refine Own.setCell_far ?_ (hO.apart (by first | omega | (simp; done) | (simp; omega))) _); exact hO.mono (by first | omega | (simp; done) | (simp; omega)))
  · (repeat' (first | exact Below.refl _ _ | with_reducible refine Below.setCell ?_ (by first | omega | (simp; done) | (simp; omega)) _ | with_reducible refine Below.alloc ?_ (by first | omega | (simp; done) | (simp; omega)) _ | with_reducible refine Below.drew ?_ | with_reducible refine bdrewN ?_ _ | with_reducible refine Below.trans ?_ (Below.mono hb (by first | omega | (simp; done) | (simp; omega)))))


theorem row_any (W H c : Int) (s : Value) (w : World) (hc : 0 ≤ c ∧ c ≤ 1000000) (hW : 1 ≤ W ∧ W ≤ 5) :
    Calls Tryz.prog 135 #[.agg #[.int .i64 W, .int .i64 H, s], .int .i64 c] w fun e w' => e = .returned (.int .i64 (c / W)) ∧ Below w.heap.size w w' := by
  obtain ⟨c1, c2⟩ := hc
  obtain ⟨w1, w2⟩ := hW
  have d1 : 0 ≤ c / W := Int.ediv_nonneg c1 (by omega)
  have d2 : c / W ≤ c := Int.ediv_le_self _ c1
  go_enter Tryz.func135, Tryz.ntmps135
  go_wp2
  go_ret
  exact ⟨rfl, by (repeat' (first | exact Below.refl _ _ | with_reducible refine Below.setCell ?_ (by first | omega | (simp; done) | (simp; omega)) _ | with_reducible refine Below.alloc ?_ (by first | omega | (simp; done) | (simp; omega)) _ | with_reducible refine Below.drew ?_ | with_reducible refine bdrewN ?_ _))⟩
theorem column_any (W H c : Int) (s : Value) (w : World) (hc : 0 ≤ c ∧ c ≤ 1000000) (hW : 1 ≤ W ∧ W ≤ 5) :
    Calls Tryz.prog 134 #[.agg #[.int .i64 W, .int .i64 H, s], .int .i64 c] w fun e w' => e = .returned (.int .i64 (c % W)) ∧ Below w.heap.size w w' := by
  obtain ⟨c1, c2⟩ := hc
  obtain ⟨w1, w2⟩ := hW
  go_enter Tryz.func134, Tryz.ntmps134
  go_wp2
  go_ret
  exact ⟨rfl, by (repeat' (first | exact Below.refl _ _ | with_reducible refine Below.setCell ?_ (by first | omega | (simp; done) | (simp; omega)) _ | with_reducible refine Below.alloc ?_ (by first | omega | (simp; done) | (simp; omega)) _ | with_reducible refine Below.drew ?_ | with_reducible refine bdrewN ?_ _))⟩
end Go.Proofs.YtojfbcgfeojdfaaGreat
