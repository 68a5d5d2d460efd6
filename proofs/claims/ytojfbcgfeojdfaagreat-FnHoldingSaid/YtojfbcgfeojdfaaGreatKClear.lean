/- Lemmas. -/
import Derived.Test.YtojfbcgfeojdfaaGreatKRise
import Derived.Test.YtojfbcgfeojdfaaGreatKMir
import Derived.Test.YtojfbcgfeojdfaaGreatKReg
import Derived.Deep.DeepCutAuto
namespace Go.Proofs.YtojfbcgfeojdfaaGreat
set_option linter.unusedSimpArgs false
set_option linter.unusedVariables false
open Go.RowKit

def clrL (xs cells : List Int) : List Int := cells.foldl (fun ys c => ys.set c.toNat 0) xs
theorem clrL_succ {xs cells : List Int} {k : Nat} (hk : k < cells.length) : clrL xs (cells.take (k + 1)) = (clrL xs (cells.take k)).set (cells.getD k 0).toNat 0 := by
  rw [take_succ' hk]
  simp [clrL, List.foldl_append]
theorem set_fact {cells : List Int} {n : Nat} (hs : setB n cells = true) {k : Nat} (hk : k < cells.length) : ∃ m : Nat, cells.getD k 0 = (m : Int) ∧ m < n := by
  have h3 := (setB_true hs).2 _ (getD_mem hk)
  exact ⟨(cells.getD k 0).toNat, by omega, by omega⟩

set_option maxRecDepth 100000 in
set_option maxHeartbeats 400000 in
theorem all1M_any (f : FuncId) (v : Value) (y : Bool) (x : Int) (b : Nat) (w : World) (hc : w.cell? ⟨b, 0, none⟩ = some (.func (.func f) #[v] #[])) (hcf : ∀ args w, (callFunc f args).run Tryz.prog w = .ok (.enter f args) w)
    (hf : Calls Tryz.prog f #[v, .int .i64 x] w fun e w'' => e = .returned (.bool y) ∧ Below w.heap.size w w'') :
    Calls Tryz.prog 121 #[.int .i64 x, .pointer (some ⟨b, 0, none⟩)] w fun e w' => e = .returned (.bool (!y)) ∧ Below w.heap.size w w' := by
  have HF := Lib.hid hf
  clear hf
  go_enter Tryz.func121, Tryz.ntmps121
  go_wp2_with fail
  refine HF.out.mono ?_
  rintro e w1 ⟨rfl, hb1⟩
  cases y
  all_goals
    go_wp2
    go_ret
    exact ⟨rfl, hb1⟩

set_option maxRecDepth 100000 in
set_option maxHeartbeats 400000 in
theorem allM_any (f : FuncId) (v : Value) (p : Int → Bool) (a : Option Addr) (n c : Nat) (xs : List Int) (w : World) (h : Ints w a n c xs) (hcf : ∀ args w, (callFunc f args).run Tryz.prog w = .ok (.enter f args) w)
    (hf : ∀ x ∈ xs, ∀ w', Below w.heap.size w w' → Calls Tryz.prog f #[v, .int .i64 x] w' fun e w'' => e = .returned (.bool (p x)) ∧ Below w'.heap.size w' w'') :
    Calls Tryz.prog 73 #[.slice a n c, .func (.func f) #[v] #[]] w fun e w' => e = .returned (.bool (xs.all p)) ∧ Below w.heap.size w w' := by
  have HF := Lib.hid hf
  clear hf
  have hA : Answers 121 #[.pointer (some ⟨w.heap.size, 0, none⟩)] (fun x => !p x) xs (w.alloc (.cells #[.func (.func f) #[v] #[]] 74)) := by
    intro x hx w' hb
    have hb0 : Below w.heap.size w w' := ((Below.refl _ _).alloc (Nat.le_refl _) _).trans (hb.mono (by simp))
    exact all1M_any f v (p x) x w.heap.size w' (by
      have := hb.cell (p := ⟨w.heap.size, 0, none⟩) (by simp)
      rw [this]; exact newRow w _ rfl _ _ 0) hcf (HF.out x hx w' hb0)
  have HA := Lib.hid hA
  clear hA
  have HN := Lib.hid (any_not p xs)
  have hmf : ∀ (fn : Fn) (first cap : Array Value) (w : World), (Instr.makeFunc fn first cap).run Tryz.prog w = .ok (.func fn first cap) w := fun _ _ _ _ => rfl
  go_enter Tryz.func73, Tryz.ntmps73
  go_wp2_with fail
  refine (containsFunc_any _ _ _ a n c xs _ (h.alloc _) (enters Tryz.func121 (by kernel_rfl) rfl) HA.out).mono ?_
  rintro e w1 ⟨rfl, hb1⟩
  rw [HN.out]
  cases hp : xs.all p
  all_goals
    go_wp2
    go_ret
    exact ⟨rb hp.symm, ((Below.refl _ _).alloc (Nat.le_refl _) _).trans (hb1.mono (by simp))⟩

set_option maxRecDepth 100000 in
set_option maxHeartbeats 400000 in
theorem isCell_any (W H : Int) (a : Option Addr) (n c : Nat) (x : Int) (w : World) (hn : n ≤ 25) :
    Calls Tryz.prog 39 #[.agg #[.int .i64 W, .int .i64 H, .slice a n c], .int .i64 x] w fun e w' => e = .returned (.bool (inB x 0 ((n : Int) - 1))) ∧ Below w.heap.size w w' := by
  have hwn : IntKind.i64.wrap ((n : Int) - 1) = (n : Int) - 1 := wrap_in (by omega)
  go_enter Tryz.func39, Tryz.ntmps39
  go_wp2_with (go_at_call 71; refine (in_any _ _ _ _).mono ?_; rintro e w' ⟨rfl, rfl⟩)
  go_ret
  exact ⟨rfl, by (repeat' (first | exact Below.refl _ _ | with_reducible refine Below.setCell ?_ (by first | omega | (simp; done) | (simp; omega)) _ | with_reducible refine Below.alloc ?_ (by first | omega | (simp; done) | (simp; omega)) _ | with_reducible refine Below.drew ?_ | with_reducible refine bdrewN ?_ _))⟩

set_option maxRecDepth 100000 in
set_option maxHeartbeats 400000 in
theorem isSet_any (W H : Int) (a : Option Addr) (n c : Nat) (a' : Option Addr) (n' c' : Nat) (cells : List Int) (w : World) (h' : Ints w a' n' c' cells) (hn : n ≤ 25) :
    Calls Tryz.prog 46 #[.agg #[.int .i64 W, .int .i64 H, .slice a n c], .slice a' n' c'] w fun e w' => e = .returned (.bool (setB n cells)) ∧ Below w.heap.size w w' := by
  have hmf : ∀ (fn : Fn) (first cap : Array Value) (w : World), (Instr.makeFunc fn first cap).run Tryz.prog w = .ok (.func fn first cap) w := fun _ _ _ _ => rfl
  go_enter Tryz.func46, Tryz.ntmps46
  go_wp2_with fail
  refine (isRising_any a' n' c' cells _ (h'.alloc _)).mono ?_
  rintro e w2 ⟨rfl, hb2⟩
  have R0 := (Row.new w w.heap.size rfl _ _).ext hb2
  cases hs1 : risingB cells
  · go_wp2
    go_ret
    exact ⟨rb (by simp [setB, hs1]), by (repeat' (first | exact Below.refl _ _ | with_reducible refine Below.setCell ?_ (by first | omega | (simp; done) | (simp; omega)) _ | with_reducible refine Below.alloc ?_ (by first | omega | (simp; done) | (simp; omega)) _ | with_reducible refine Below.drew ?_ | with_reducible refine bdrewN ?_ _ | with_reducible refine Below.trans ?_ (Below.mono hb2 (by first | omega | (simp; done) | (simp; omega)))))⟩
  · have k0 := R0.cell
    have l0 := R0.lt
    go_wp2_with fail
    refine (allM_any _ _ (fun x => inB x 0 ((n : Int) - 1)) a' n' c' cells _ ((h'.alloc _).ext hb2) (enters Tryz.func39 (by kernel_rfl) rfl) (fun x _ w3 hb3 => isCell_any _ _ a n c x w3 hn)).mono ?_
    rintro e w3 ⟨rfl, hb3⟩
    go_wp2
    go_ret
    have hs2 : w.heap.size ≤ w2.heap.size := by have := hb2.size; simp at this; omega
    exact ⟨rb (by simp [setB, hs1]), by (repeat' (first | exact Below.refl _ _ | with_reducible refine Below.setCell ?_ (by first | omega | (simp; done) | (simp; omega)) _ | with_reducible refine Below.alloc ?_ (by first | omega | (simp; done) | (simp; omega)) _ | with_reducible refine Below.drew ?_ | with_reducible refine bdrewN ?_ _ | with_reducible refine Below.trans ?_ (Below.mono hb2 (by first | omega | (simp; done) | (simp; omega))) | with_reducible refine Below.trans ?_ (Below.mono hb3 (by first | omega | (simp; done) | (simp; omega)))))⟩

set_option maxRecDepth 100000 in
set_option maxHeartbeats 400000 in
theorem l2Set_any (W H : Int) (a : Option Addr) (n c : Nat) (xs : List Int) (a' : Option Addr) (n' c' : Nat) (cells : List Int) (w : World) (h : Ints w a n c xs) (h' : Ints w a' n' c' cells) :
    Calls Tryz.prog 79 #[.agg #[.int .i64 W, .int .i64 H, .slice a n c], .slice a' n' c'] w fun e w' => e = .returned (.bool (goodB 20 W H xs && setB n cells)) ∧ Below w.heap.size w w' := by
  have hn := h.cap
  have HL := Lib.hid h.len
  cases hg : goodB 20 W H xs
  · skip
    go_enter Tryz.func79, Tryz.ntmps79
    go_wp2_with (go_at_call 84; refine (l2Good_any W H a n c xs _ (by exact h.alloc _)).mono ?_; rintro e w' ⟨rfl, hb⟩; rw [hg])
    go_ret
    exact ⟨rb rfl, by (repeat' (first | exact Below.refl _ _ | with_reducible refine Below.setCell ?_ (by first | omega | (simp; done) | (simp; omega)) _ | with_reducible refine Below.alloc ?_ (by first | omega | (simp; done) | (simp; omega)) _ | with_reducible refine Below.drew ?_ | with_reducible refine bdrewN ?_ _ | with_reducible refine Below.trans ?_ (Below.mono hb (by first | omega | (simp; done) | (simp; omega)))))⟩
  · obtain ⟨Wn, Hn, rfl, rfl, a1, a2, b1, b2, hlen, h25, hall⟩ := goodB_true hg
    have hn25 : n ≤ 25 := by rw [← HL.out]; exact h25
    clear h25 hlen hall
    have hwn : IntKind.i64.wrap ((n : Int) - 1) = (n : Int) - 1 := wrap_in (by omega)
    go_enter Tryz.func79, Tryz.ntmps79
    go_wp2_with (first | (go_at_call 84; refine (l2Good_any _ _ a n c xs _ (by exact h.alloc _)).mono ?_; rintro e w' ⟨rfl, hb⟩; rw [hg]; obtain ⟨k0, f0, l0⟩ := (Row.new w w.heap.size rfl _ _).below hb) | skip; fail)
    refine (l1Rising_any a' n' c' cells _ _ _ ((h'.alloc _).ext hb)).mono ?_
    rintro e w2 ⟨rfl, hb2⟩
    go_wp2
    go_ret
    have hs2 := hb.size
    simp at hs2
    exact ⟨rb (by simp [setB]), by (repeat' (first | exact Below.refl _ _ | with_reducible refine Below.setCell ?_ (by first | omega | (simp; done) | (simp; omega)) _ | with_reducible refine Below.alloc ?_ (by first | omega | (simp; done) | (simp; omega)) _ | with_reducible refine Below.drew ?_ | with_reducible refine bdrewN ?_ _ | with_reducible refine Below.trans ?_ (Below.mono hb (by first | omega | (simp; done) | (simp; omega))) | with_reducible refine Below.trans ?_ (Below.mono hb2 (by first | omega | (simp; done) | (simp; omega)))))⟩

set_option maxRecDepth 100000 in
set_option maxHeartbeats 4000000 in
theorem l2Clear_any (Wn Hn : Nat) (a : Option Addr) (n c : Nat) (xs : List Int) (a' : Option Addr) (n' c' : Nat) (cells : List Int) (w : World) (h : Ints w a n c xs) (h' : Ints w a' n' c' cells) (hnp : 0 < n) (hn25 : n ≤ 25) (hs : setB n cells = true) :
    Calls Tryz.prog 125 #[.agg #[.int .i64 Wn, .int .i64 Hn, .slice a n c], .slice a' n' c'] w fun e w' => ∃ a2 c2, e = .returned (.agg #[.int .i64 Wn, .int .i64 Hn, .slice a2 n c2]) ∧ Own w.heap.size w' a2 n c2 (clrL xs cells) ∧ Below w.heap.size w w' := by
  have hn := h.cap
  have hc := h.room
  have HL := Lib.hid h.len
  have hn' := h'.cap
  have hc' := h'.room
  have HL' := Lib.hid h'.len
  have HAF := Lib.hid (fun k (hk : k < cells.length) => set_fact hs hk)
  have HT := Lib.hid (setB_true hs).1
  clear hs
  go_enter Tryz.func125, Tryz.ntmps125
  go_upto_region 1 with fail
  have R0 : Row ((w.alloc (.cells #[.int .i64 Wn, .int .i64 Hn, .slice a n c] 26)).alloc (.cells #[.int .i64 0, .int .i64 0, .slice none 0 0] 26)) w.heap.size _ := (Row.new _ w.heap.size rfl _ _).alloc _
  have R1 : Row ((w.alloc (.cells #[.int .i64 Wn, .int .i64 Hn, .slice a n c] 26)).alloc (.cells #[.int .i64 0, .int .i64 0, .slice none 0 0] 26)) (w.heap.size + 1) _ := Row.new _ (w.heap.size + 1) (by simp) _ _
  have hb' : Below w.heap.size w ((w.alloc (.cells #[.int .i64 Wn, .int .i64 Hn, .slice a n c] 26)).alloc (.cells #[.int .i64 0, .int .i64 0, .slice none 0 0] 26)) := by (repeat' (first | exact Below.refl _ _ | with_reducible refine Below.setCell ?_ (by first | omega | (simp; done) | (simp; omega)) _ | with_reducible refine Below.alloc ?_ (by first | omega | (simp; done) | (simp; omega)) _ | with_reducible refine Below.drew ?_ | with_reducible refine bdrewN ?_ _))
  generalize ((w.alloc (.cells #[.int .i64 Wn, .int .i64 Hn, .slice a n c] 26)).alloc (.cells #[.int .i64 0, .int .i64 0, .slice none 0 0] 26)) = w2 at *
  have l1 := R1.lt
  go_cut [5] (fun s5 wx => ∃ bo a2 c2, s5 = .pointer (some ⟨bo, 0, none⟩) ∧ Row wx bo #[.int .i64 Wn, .int .i64 Hn, .slice a2 n c2] ∧ Own w2.heap.size wx a2 n c2 xs ∧ ¬ blockOf a2 bo ∧ Far w2 wx ∧ w2.heap.size ≤ bo)
  case first =>
    have hI' := h.below hb'
    have hS : (fun w1 : World => ∀ o, w1.cell? ⟨w.heap.size, o, none⟩ = (#[.int .i64 Wn, .int .i64 Hn, .slice a n c] : Array Value)[o]?) w2.drew := R0.drew.cell
    refine AtT.start (S := (fun w1 : World => ∀ o, w1.cell? ⟨w.heap.size, o, none⟩ = (#[.int .i64 Wn, .int .i64 Hn, .slice a n c] : Array Value)[o]?)) 9 (by kernel_rfl) ?_
    refine AtT.take (i := 0) (v := ?_) rfl (by kernel_rfl) (by kernel_rfl) (by kernel_rfl) (by kernel_rfl) (fun _ _ _ h => h) (Or.inl ⟨by kernel_rfl, ?_⟩) (by assumption) ?_
    rotate_left
    · (intro w hSw; (try dsimp only at hSw); go_simp; try with_reducible rfl)
    simp only [Act.put, sA]
    refine AtT.take (i := 1) (v := ?_) rfl (by kernel_rfl) (by kernel_rfl) (by kernel_rfl) (by kernel_rfl) (fun _ _ _ h => h) (Or.inl ⟨by kernel_rfl, ?_⟩) (by assumption) ?_
    rotate_left
    · (intro w hSw; (try dsimp only at hSw); go_simp; try with_reducible rfl)
    simp only [Act.put, sA]
    refine AtT.take (i := 2) (v := ?_) rfl (by kernel_rfl) (by kernel_rfl) (by kernel_rfl) (by kernel_rfl) (fun _ _ _ h => h) (Or.inl ⟨by kernel_rfl, ?_⟩) (by assumption) ?_
    rotate_left
    · (intro w hSw; (try dsimp only at hSw); go_simp; try with_reducible rfl)
    simp only [Act.put, sA]
    refine AtT.take (i := 3) (v := ?_) rfl (by kernel_rfl) (by kernel_rfl) (by kernel_rfl) (by kernel_rfl) (fun _ _ _ h => h) (Or.inl ⟨by kernel_rfl, ?_⟩) (by assumption) ?_
    rotate_left
    · (intro w hSw; (try dsimp only at hSw); go_simp; try with_reducible rfl)
    simp only [Act.put, sA]
    refine AtT.take (i := 4) (v := ?_) rfl (by kernel_rfl) (by kernel_rfl) (by kernel_rfl) (by kernel_rfl) (fun _ _ _ h => h) (Or.inl ⟨by kernel_rfl, ?_⟩) (by assumption) ?_
    rotate_left
    · (intro w hSw; (try dsimp only at hSw); go_simp; try with_reducible rfl)
    simp only [Act.put, sA]
    refine AtT.take (i := 5) (v := ?_) rfl (by kernel_rfl) (by kernel_rfl) (by kernel_rfl) (by kernel_rfl) (fun _ _ _ h => h) (Or.inl ⟨by kernel_rfl, ?_⟩) (by assumption) ?_
    rotate_left
    · (intro w hSw; (try dsimp only at hSw); go_simp; try with_reducible rfl)
    simp only [Act.put, sA]
    refine AtT.two (i := 6) (j := 8) (by kernel_rfl) rfl rfl rfl rfl ?_ ?_
    · intro K hK
      go_simp
      refine (l1Own_any a n c xs _ hI'.drew).mono ?_
      rintro e w3 ⟨a2, c2, rfl, hO, hb2⟩
      dsimp only
      have R0a := R0.drew.below hb2
      have hS2 : (fun w1 : World => ∀ o, w1.cell? ⟨w.heap.size, o, none⟩ = (#[.int .i64 Wn, .int .i64 Hn, .slice a n c] : Array Value)[o]?) w3 := R0a.cell
      refine hK.out _ _ hS2 ?_
      clear hK K hS
      refine AtT.take (i := 7) (v := ?_) rfl (by kernel_rfl) (by kernel_rfl) (by kernel_rfl) (by kernel_rfl) (fun _ _ _ h => h) (Or.inl ⟨by kernel_rfl, ?_⟩) (by assumption) ?_
      rotate_left
      · (intro w hSw; (try dsimp only at hSw); go_simp; try with_reducible rfl)
      simp only [Act.put, sA]
      refine AtT.only (i := 8) (by kernel_rfl) rfl rfl ?_
      intro K hK
      go_simp
      refine hK.out _ _ (R0a.alloc _).cell ?_
      clear hK K
      refine AtT.last (by kernel_rfl) rfl (by kernel_rfl) ?_
      intro K hK
      go_simp
      refine hK.out _ _ ?_
      clear hK K
      go_wp2_with fail
      go_meet
      have hs2 : w2.heap.size ≤ w3.heap.size := hb2.size
      exact ⟨w3.heap.size, a2, c2, rfl, Row.new _ _ rfl _ _, hO.alloc _, fun e => by have := hO.till _ e; omega, ((Far.refl w2).drew.ext hb2).alloc _, hs2⟩
    · intro K hK
      go_simp
      refine hK.out _ _ (R0.alloc _).drew.cell ?_
      clear hK K
      have hS1 : (fun w1 : World => ∀ o, w1.cell? ⟨w.heap.size, o, none⟩ = (#[.int .i64 Wn, .int .i64 Hn, .slice a n c] : Array Value)[o]?) (w2.alloc (.cells #[.int .i64 0, .int .i64 0, .slice none 0 0] 26)).drew := (R0.alloc _).drew.cell
      refine AtT.only (i := 6) (by kernel_rfl) rfl rfl ?_
      intro K hK
      go_simp
      refine (l1Own_any a n c xs _ (hI'.alloc _).drew).mono ?_
      rintro e w3 ⟨a2, c2, rfl, hO, hb2⟩
      dsimp only
      have R0a := (R0.alloc _).drew.below hb2
      have Rb := (Row.new w2 w2.heap.size rfl _ _).drew.below hb2
      have hS2 : (fun w1 : World => ∀ o, w1.cell? ⟨w.heap.size, o, none⟩ = (#[.int .i64 Wn, .int .i64 Hn, .slice a n c] : Array Value)[o]?) w3 := R0a.cell
      refine hK.out _ _ hS2 ?_
      clear hK K hS hS1
      refine AtT.take (i := 7) (v := ?_) rfl (by kernel_rfl) (by kernel_rfl) (by kernel_rfl) (by kernel_rfl) (fun _ _ _ h => h) (Or.inl ⟨by kernel_rfl, ?_⟩) (by assumption) ?_
      rotate_left
      · (intro w hSw; (try dsimp only at hSw); go_simp; try with_reducible rfl)
      simp only [Act.put, sA]
      refine AtT.last (by kernel_rfl) rfl (by kernel_rfl) ?_
      intro K hK
      obtain ⟨k2, f2, l2⟩ := Rb
      have Rb : Row w3 w2.heap.size _ := ⟨k2, f2, l2⟩
      go_simp
      refine hK.out _ _ ?_
      clear hK K
      go_wp2_with fail
      go_meet
      have hap : ¬ blockOf a2 w2.heap.size := hO.apart (by simp)
      refine ⟨w2.heap.size, a2, c2, rfl, ((Rb.set 0 _ (by simp)).set 1 _ (by simp)).set 2 _ (by simp), ?_, hap, ?_, Nat.le_refl _⟩
      · exact (((hO.mono (by simp)).setCell_far hap _).setCell_far hap _).setCell_far hap _
      · exact ⟨by (repeat' (first | exact Below.refl _ _ | with_reducible refine Below.setCell ?_ (by first | omega | (simp; done) | (simp; omega)) _ | with_reducible refine Below.alloc ?_ (by first | omega | (simp; done) | (simp; omega)) _ | with_reducible refine Below.drew ?_ | with_reducible refine bdrewN ?_ _ | with_reducible refine Below.trans ?_ (Below.mono hb2 (by first | omega | (simp; done) | (simp; omega)))))⟩
  case rest =>
    obtain ⟨bo, a2, c2, rfl, R2, hO, hnb, hF, hbo⟩ := hcut
    have hR0 := R0.ext hF.below
    have hR1 := R1.ext hF.below
    clear R0 R1
    obtain ⟨g, rfl, hgB, hgs, _, _⟩ := hO.head hnp
    have hgb : g ≠ bo := fun e => hnb ⟨_, rfl, e.symm⟩
    go_wp2
    go_loopw [6] (fun i wr => ∃ k : Nat, k ≤ n' ∧ i = .int .i64 k ∧ Row wr w.heap.size #[.int .i64 Wn, .int .i64 Hn, .slice a n c] ∧ Row wr (w.heap.size + 1) #[.int .i64 0, .int .i64 0, .slice none 0 0] ∧
        Row wr bo #[.int .i64 Wn, .int .i64 Hn, .slice (some ⟨g, 0, none⟩) n c2] ∧ Own w2.heap.size wr (some ⟨g, 0, none⟩) n c2 (clrL xs (cells.take k)) ∧ Far w2 wr)
      (fun i _ => n' - (intOf i).toNat)
    case atStart => exact ⟨0, Nat.zero_le _, rfl, hR0, hR1, R2, by simpa [clrL] using hO, hF⟩
    case round =>
      obtain ⟨k, hk, rfl, hR0, hR1, hR2, hOk, hFr⟩ := hrel
      by_cases hlt : k < n'
      · obtain ⟨b, off, rfl, hbb, hcell⟩ := ((h'.below hb').ext hFr.below).at' _ hlt
        have hck := hcell k hlt
        clear hcell
        obtain ⟨m, hm, hmn⟩ := HAF.out k (by rw [HL'.out]; exact hlt)
        rw [hm] at hck
        have hfk := hOk.freeAt m
        have HM := Lib.hid hm; clear hm
        have i0 : (0 : Int) ≤ (k : Int) := by omega
        have i1 : (k : Int) < (n' : Int) := by omega
        have m0 : (0 : Int) ≤ (m : Int) := by omega
        have m1 : (m : Int) < (n : Int) := by omega
        go_wp2
        have hS : (fun w1 : World => (∀ o, w1.cell? ⟨bo, o, none⟩ = (#[.int .i64 Wn, .int .i64 Hn, .slice (some ⟨g, 0, none⟩) n c2] : Array Value)[o]?) ∧ w1.cell? ⟨b, off + k, none⟩ = some (.int .i64 m)) wr.drew := ⟨hR2.drew.cell, hck⟩
        refine AtT.start (S := (fun w1 : World => (∀ o, w1.cell? ⟨bo, o, none⟩ = (#[.int .i64 Wn, .int .i64 Hn, .slice (some ⟨g, 0, none⟩) n c2] : Array Value)[o]?) ∧ w1.cell? ⟨b, off + k, none⟩ = some (.int .i64 m))) 7 (by kernel_rfl) ?_
        refine AtT.take (i := 0) (v := ?_) rfl (by kernel_rfl) (by kernel_rfl) (by kernel_rfl) (by kernel_rfl) (fun _ _ _ h => h) (Or.inl ⟨by kernel_rfl, ?_⟩) (by assumption) ?_
        rotate_left
        · (intro w hSw; (try dsimp only at hSw); go_simp; try with_reducible rfl)
        simp only [Act.put, sA]
        refine AtT.take (i := 1) (v := ?_) rfl (by kernel_rfl) (by kernel_rfl) (by kernel_rfl) (by kernel_rfl) (fun _ _ _ h => h) (Or.inl ⟨by kernel_rfl, ?_⟩) (by assumption) ?_
        rotate_left
        · (intro w hSw; (try dsimp only at hSw); go_simp; try with_reducible rfl)
        simp only [Act.put, sA]
        refine AtT.take (i := 2) (v := ?_) rfl (by kernel_rfl) (by kernel_rfl) (by kernel_rfl) (by kernel_rfl) (fun _ _ _ h => h) (Or.inl ⟨by kernel_rfl, ?_⟩) (by assumption) ?_
        rotate_left
        · (intro w hSw; (try dsimp only at hSw); go_simp; try with_reducible rfl)
        simp only [Act.put, sA]
        refine AtT.take (i := 3) (v := ?_) rfl (by kernel_rfl) (by kernel_rfl) (by kernel_rfl) (by kernel_rfl) (fun _ _ _ h => h) (Or.inl ⟨by kernel_rfl, ?_⟩) (by assumption) ?_
        rotate_left
        · (intro w hSw; (try dsimp only at hSw); go_simp; try with_reducible rfl)
        simp only [Act.put, sA]
        refine AtT.take (i := 4) (v := ?_) rfl (by kernel_rfl) (by kernel_rfl) (by kernel_rfl) (by kernel_rfl) (fun _ _ _ h => h) (Or.inl ⟨by kernel_rfl, ?_⟩) (by assumption) ?_
        rotate_left
        · (intro w hSw; (try dsimp only at hSw); go_simp; try with_reducible rfl)
        simp only [Act.put, sA]
        refine AtT.take (i := 5) (v := ?_) rfl (by kernel_rfl) (by kernel_rfl) (by kernel_rfl) (by kernel_rfl) (fun _ _ _ h => h) (Or.inl ⟨by kernel_rfl, ?_⟩) (by assumption) ?_
        rotate_left
        · (intro w hSw; (try dsimp only at hSw); go_simp; try with_reducible rfl)
        simp only [Act.put, sA]
        refine AtT.take (i := 6) (v := ?_) rfl (by kernel_rfl) (by kernel_rfl) (by kernel_rfl) (by kernel_rfl) (fun _ _ _ h => h) (Or.inl ⟨by kernel_rfl, ?_⟩) (by assumption) ?_
        rotate_left
        · (intro w hSw; (try dsimp only at hSw); go_simp; try with_reducible rfl)
        simp only [Act.put, sA]
        refine AtT.last (by kernel_rfl) rfl (by kernel_rfl) ?_
        intro K hK
        have hdk := hOk.cellAt hmn
        clear hS
        go_simp
        refine hK.out _ _ ?_
        clear hK K
        go_wp2
        go_roundw
        case rel =>
          have hO2 := hOk.set m 0 (by unfold I64; omega)
          have e1 := clrL_succ (xs := xs) (cells := cells) (k := k) (by rw [HL'.out]; exact hlt)
          rw [HM.out, Int.toNat_natCast] at e1
          rw [← e1] at hO2
          exact ⟨k + 1, by omega, by go_num, (hR0.far _ _ (by first | omega | (simp; done) | (simp; omega))).drew, (hR1.far _ _ (by first | omega | (simp; done) | (simp; omega))).drew, (hR2.far _ _ hgb).drew, hO2.drew, (hFr.set _ _ (by first | omega | (simp; done) | (simp; omega))).drew⟩
        case measure => simp [intOf]; omega
      · obtain rfl : k = n' := by omega
        rw [List.take_of_length_le (by rw [HL'.out]; exact Nat.le_refl _)] at hOk
        obtain ⟨k2, f2, m2⟩ := hR2
        have hbf := hFr.below
        have hs0 := hb'.size
        have hs1 := hbf.size
        obtain ⟨k1, f1, m1⟩ := hR1
        go_wp2
        refine bodyPost_ret (v := .agg #[.int .i64 Wn, .int .i64 Hn, .slice (some ⟨g, 0, none⟩) n c2]) (by simp [results, Tryz.results125, go_sem, k1]) rfl ⟨_, c2, rfl, ?_, ?_⟩
        · ((repeat with_reducible refine Own.setCell_far ?_ (hOk.apart (by first | omega | (simp; done) | (simp; omega))) _); exact hOk.mono (by first | omega | (simp; done) | (simp; omega)))
        · (repeat' (first | exact Below.refl _ _ | with_reducible refine Below.setCell ?_ (by first | omega | (simp; done) | (simp; omega)) _ | with_reducible refine Below.alloc ?_ (by first | omega | (simp; done) | (simp; omega)) _ | with_reducible refine Below.drew ?_ | with_reducible refine bdrewN ?_ _ | with_reducible refine Below.trans ?_ (Below.mono hb' (by first | omega | (simp; done) | (simp; omega))) | with_reducible refine Below.trans ?_ (Below.mono hbf (by first | omega | (simp; done) | (simp; omega)))))

end Go.Proofs.YtojfbcgfeojdfaaGreat
