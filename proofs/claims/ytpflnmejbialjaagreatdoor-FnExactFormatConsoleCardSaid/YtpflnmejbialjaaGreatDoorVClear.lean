/- Lemmas. -/
import Derived.Test.YtpflnmejbialjaaGreatDoorVRise
import Derived.Test.YtpflnmejbialjaaGreatDoorVMir
import Derived.Test.YtpflnmejbialjaaGreatDoorVReg
import Derived.Deep.DeepCutAuto
namespace Go.Proofs.YtpflnmejbialjaaGreatDoor
set_option linter.unusedSimpArgs false
set_option linter.unusedVariables false
open Go.RowKit

set_option maxRecDepth 100000 in
set_option maxHeartbeats 400000 in
theorem all1M_any (f : FuncId) (v : Value) (y : Bool) (x : Int) (b : Nat) (w : World) (hc : w.cell? ⟨b, 0, none⟩ = some (.func (.func f) #[v] #[])) (hcf : ∀ args w, (callFunc f args).run Tryz.prog w = .ok (.enter f args) w)
    (hf : Calls Tryz.prog f #[v, .int .i64 x] w fun e w'' => e = .returned (.bool y) ∧ Below w.heap.size w w'') :
    Calls Tryz.prog 63 #[.int .i64 x, .pointer (some ⟨b, 0, none⟩)] w fun e w' => e = .returned (.bool (!y)) ∧ Below w.heap.size w w' := by
  have HF := Lib.hid hf
  clear hf
  go_enter Tryz.func63, Tryz.ntmps63
  go_wp2_with fail
  refine HF.out.mono ?_
  rintro e w1 ⟨rfl, hb1⟩
  cases y
  all_goals
    go_wp2
    go_ret
    exact ⟨rfl, hb1⟩

set_option maxRecDepth 100000 in
set_option maxHeartbeats 400000 in
theorem allM_any (f : FuncId) (v : Value) (p : Int → Bool) (a : Option Addr) (n c : Nat) (xs : List Int) (w : World) (h : Ints w a n c xs) (hcf : ∀ args w, (callFunc f args).run Tryz.prog w = .ok (.enter f args) w)
    (hf : ∀ x ∈ xs, ∀ w', Below w.heap.size w w' → Calls Tryz.prog f #[v, .int .i64 x] w' fun e w'' => e = .returned (.bool (p x)) ∧ Below w'.heap.size w' w'') :
    Calls Tryz.prog 54 #[.slice a n c, .func (.func f) #[v] #[]] w fun e w' => e = .returned (.bool (xs.all p)) ∧ Below w.heap.size w w' := by
  have HF := Lib.hid hf
  clear hf
  have hA : Answers 63 #[.pointer (some ⟨w.heap.size, 0, none⟩)] (fun x => !p x) xs (w.alloc (.cells #[.func (.func f) #[v] #[]] 78)) := by
    intro x hx w' hb
    have hb0 : Below w.heap.size w w' := ((Below.refl _ _).alloc (Nat.le_refl _) _).trans (hb.mono (by simp))
    exact all1M_any f v (p x) x w.heap.size w' (by
      have := hb.cell (p := ⟨w.heap.size, 0, none⟩) (by simp)
      rw [this]; exact newRow w _ rfl _ _ 0) hcf (HF.out x hx w' hb0)
  have HA := Lib.hid hA
  clear hA
  have HN := Lib.hid (any_not p xs)
  have hmf : ∀ (fn : Fn) (first cap : Array Value) (w : World), (Instr.makeFunc fn first cap).run Tryz.prog w = .ok (.func fn first cap) w := fun _ _ _ _ => rfl
  go_enter Tryz.func54, Tryz.ntmps54
  go_wp2_with fail
  refine (containsFunc_any _ _ _ a n c xs _ (h.alloc _) (enters Tryz.func63 (by kernel_rfl) rfl) HA.out).mono ?_
  rintro e w1 ⟨rfl, hb1⟩
  rw [HN.out]
  cases hp : xs.all p
  all_goals
    go_wp2
    go_ret
    exact ⟨rb hp.symm, ((Below.refl _ _).alloc (Nat.le_refl _) _).trans (hb1.mono (by simp))⟩

set_option maxRecDepth 100000 in
set_option maxHeartbeats 400000 in
theorem isCell_any (W H : Int) (a : Option Addr) (n c : Nat) (x : Int) (w : World) (hn : n ≤ 25) :
    Calls Tryz.prog 55 #[.agg #[.int .i64 W, .int .i64 H, .slice a n c], .int .i64 x] w fun e w' => e = .returned (.bool (inB x 0 ((n : Int) - 1))) ∧ Below w.heap.size w w' := by
  have hwn : IntKind.i64.wrap ((n : Int) - 1) = (n : Int) - 1 := wrap_in (by omega)
  go_enter Tryz.func55, Tryz.ntmps55
  go_wp2_with (go_at_call 52; refine (in_any _ _ _ _).mono ?_; rintro e w' ⟨rfl, rfl⟩)
  go_ret
  exact ⟨rfl, by (repeat' (first | exact Below.refl _ _ | with_reducible refine Below.setCell ?_ (by first | omega | (simp; done) | (simp; omega)) _ | with_reducible refine Below.alloc ?_ (by first | omega | (simp; done) | (simp; omega)) _ | with_reducible refine Below.drew ?_ | with_reducible refine bdrewN ?_ _))⟩

set_option maxRecDepth 100000 in
set_option maxHeartbeats 400000 in
theorem isSet_any (W H : Int) (a : Option Addr) (n c : Nat) (a' : Option Addr) (n' c' : Nat) (cells : List Int) (w : World) (h' : Ints w a' n' c' cells) (hn : n ≤ 25) :
    Calls Tryz.prog 38 #[.agg #[.int .i64 W, .int .i64 H, .slice a n c], .slice a' n' c'] w fun e w' => e = .returned (.bool (setB n cells)) ∧ Below w.heap.size w w' := by
  have hmf : ∀ (fn : Fn) (first cap : Array Value) (w : World), (Instr.makeFunc fn first cap).run Tryz.prog w = .ok (.func fn first cap) w := fun _ _ _ _ => rfl
  go_enter Tryz.func38, Tryz.ntmps38
  go_wp2_with fail
  refine (isRising_any a' n' c' cells _ (h'.alloc _)).mono ?_
  rintro e w2 ⟨rfl, hb2⟩
  have R0 := (Row.new w w.heap.size rfl _ _).ext hb2
  cases hs1 : risingB cells
  · go_wp2
    go_ret
    exact ⟨rb (by simp [setB, hs1]), by (repeat' (first | exact Below.refl _ _ | with_reducible refine Below.setCell ?_ (by first | omega | (simp; done) | (simp; omega)) _ | with_reducible refine Below.alloc ?_ (by first | omega | (simp; done) | (simp; omega)) _ | with_reducible refine Below.drew ?_ | with_reducible refine bdrewN ?_ _ | with_reducible refine Below.trans ?_ (Below.mono hb2 (by first | omega | (simp; done) | (simp; omega)))))⟩
  · have k0 := R0.cell
    have l0 := R0.lt
    go_wp2_with fail
    refine (allM_any _ _ (fun x => inB x 0 ((n : Int) - 1)) a' n' c' cells _ ((h'.alloc _).ext hb2) (enters Tryz.func55 (by kernel_rfl) rfl) (fun x _ w3 hb3 => isCell_any _ _ a n c x w3 hn)).mono ?_
    rintro e w3 ⟨rfl, hb3⟩
    go_wp2
    go_ret
    have hs2 : w.heap.size ≤ w2.heap.size := by have := hb2.size; simp at this; omega
    exact ⟨rb (by simp [setB, hs1]), by (repeat' (first | exact Below.refl _ _ | with_reducible refine Below.setCell ?_ (by first | omega | (simp; done) | (simp; omega)) _ | with_reducible refine Below.alloc ?_ (by first | omega | (simp; done) | (simp; omega)) _ | with_reducible refine Below.drew ?_ | with_reducible refine bdrewN ?_ _ | with_reducible refine Below.trans ?_ (Below.mono hb2 (by first | omega | (simp; done) | (simp; omega))) | with_reducible refine Below.trans ?_ (Below.mono hb3 (by first | omega | (simp; done) | (simp; omega)))))⟩

set_option maxRecDepth 100000 in
set_option maxHeartbeats 400000 in
theorem l2Set_any (W H : Int) (a : Option Addr) (n c : Nat) (xs : List Int) (a' : Option Addr) (n' c' : Nat) (cells : List Int) (w : World) (h : Ints w a n c xs) (h' : Ints w a' n' c' cells) :
    Calls Tryz.prog 32 #[.agg #[.int .i64 W, .int .i64 H, .slice a n c], .slice a' n' c'] w fun e w' => e = .returned (.bool (goodB 20 W H xs && setB n cells)) ∧ Below w.heap.size w w' := by
  have hn := h.cap
  have HL := Lib.hid h.len
  cases hg : goodB 20 W H xs
  · skip
    go_enter Tryz.func32, Tryz.ntmps32
    go_wp2_with (go_at_call 45; refine (l2Good_any W H a n c xs _ (by exact h.alloc _)).mono ?_; rintro e w' ⟨rfl, hb⟩; rw [hg])
    go_ret
    exact ⟨rb rfl, by (repeat' (first | exact Below.refl _ _ | with_reducible refine Below.setCell ?_ (by first | omega | (simp; done) | (simp; omega)) _ | with_reducible refine Below.alloc ?_ (by first | omega | (simp; done) | (simp; omega)) _ | with_reducible refine Below.drew ?_ | with_reducible refine bdrewN ?_ _ | with_reducible refine Below.trans ?_ (Below.mono hb (by first | omega | (simp; done) | (simp; omega)))))⟩
  · obtain ⟨Wn, Hn, rfl, rfl, a1, a2, b1, b2, hlen, h25, hall⟩ := goodB_true hg
    have hn25 : n ≤ 25 := by rw [← HL.out]; exact h25
    clear h25 hlen hall
    have hwn : IntKind.i64.wrap ((n : Int) - 1) = (n : Int) - 1 := wrap_in (by omega)
    go_enter Tryz.func32, Tryz.ntmps32
    go_wp2_with (first | (go_at_call 45; refine (l2Good_any _ _ a n c xs _ (by exact h.alloc _)).mono ?_; rintro e w' ⟨rfl, hb⟩; rw [hg]; obtain ⟨k0, f0, l0⟩ := (Row.new w w.heap.size rfl _ _).below hb) | skip; fail)
    refine (l1Rising_any a' n' c' cells _ _ _ ((h'.alloc _).ext hb)).mono ?_
    rintro e w2 ⟨rfl, hb2⟩
    go_wp2
    go_ret
    have hs2 := hb.size
    simp at hs2
    exact ⟨rb (by simp [setB]), by (repeat' (first | exact Below.refl _ _ | with_reducible refine Below.setCell ?_ (by first | omega | (simp; done) | (simp; omega)) _ | with_reducible refine Below.alloc ?_ (by first | omega | (simp; done) | (simp; omega)) _ | with_reducible refine Below.drew ?_ | with_reducible refine bdrewN ?_ _ | with_reducible refine Below.trans ?_ (Below.mono hb (by first | omega | (simp; done) | (simp; omega))) | with_reducible refine Below.trans ?_ (Below.mono hb2 (by first | omega | (simp; done) | (simp; omega)))))⟩

end Go.Proofs.YtpflnmejbialjaaGreatDoor
