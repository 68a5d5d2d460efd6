/- Lemmas. -/
import Derived.Test.YtpoabdmapbdmfaaDoorTNear2
import Derived.Test.YtpoabdmapbdmfaaDoorTQueue
namespace Go.Proofs.YtpoabdmapbdmfaaDoor
set_option linter.unusedSimpArgs false
set_option linter.unusedVariables false
open Go.RowKit

/-- what a function value (bound fi, captured caps) answers on the numbers below n -/
def AnsN (f : FuncId) (fi caps : Array Value) (p : Nat → Bool) (n : Nat) (w : World) : Prop :=
  ∀ k, k < n → ∀ w', Below w.heap.size w w' → Calls Tryd.prog f (fi ++ #[.int .i64 (k : Int)] ++ caps) w' fun e w'' => e = .returned (.bool (p k)) ∧ Below w'.heap.size w' w''
theorem i64_nat {k : Nat} (h : k ≤ 1000000000) : I64 (k : Int) := by unfold I64; omega

set_option maxRecDepth 100000 in
set_option maxHeartbeats 1000000 in
theorem cellsThat_any (f : FuncId) (fi caps : Array Value) (p : Nat → Bool) (W H : Int) (a : Option Addr) (n c : Nat) (xs : List Int) (w : World) (h : Ints w a n c xs) (hn25 : n ≤ 25) (hcf : ∀ args w, (callFunc f args).run Tryd.prog w = .ok (.enter f args) w) (hf : AnsN f fi caps p n w) :
    Calls Tryd.prog 85 #[.agg #[.int .i64 W, .int .i64 H, .slice a n c], .func (.func f) fi caps] w fun e w' => ∃ a' m c', e = .returned (.slice a' m c') ∧ Mem w.heap.size w w' [intE a' m c' (cellsN n p)] := by
  have HF := Lib.hid hf
  clear hf
  have hM := Mem.start w
  go_enter Tryd.func85, Tryd.ntmps85
  go_wp2_with fail
  go_loopw [5, 11] (fun s i wr => ∃ (k : Nat) (a' : Option Addr) (m c' : Nat), k ≤ n ∧ i = .int .i64 k ∧ s = .slice a' m c' ∧ Mem w.heap.size w wr [intE a' m c' (cellsN k p), rowE w.heap.size 44 #[.int .i64 W, .int .i64 H, .slice a n c]]) (fun _ i _ => n - (intOf i).toNat)
  case atStart =>
    refine ⟨0, _, 0, _, Nat.zero_le _, rfl, rfl, ?_⟩
    have hM := (hM.alloc #[.int .i64 W, .int .i64 H, .slice a n c] 44).empty
    simp only [World.size_alloc] at hM
    exact hM
  case round =>
    clear hM
    obtain ⟨k, a', m, c', hk, rfl, rfl, hM⟩ := hrel
    by_cases hlt : k < n
    · have hm := (hM.ints .here).len
      have hl := cellsN_length k p
      obtain ⟨ys, hys⟩ : ∃ ys, cellsN k p = ys := ⟨_, rfl⟩
      have hsu := cellsN_succ k p
      rw [hys] at hM hl hm hsu
      have HY := Lib.hid hsu; clear hys hsu
      have hmk : m ≤ k := by omega
      have HL := Lib.hid hm; clear hm hl
      go_wp2_with fail
      apply Mem.at
      · (repeat' (first | with_reducible exact hM | with_reducible exact hMp | with_reducible apply Mem.drew | with_reducible apply Mem.drewN | with_reducible apply Mem.alloc | with_reducible apply Mem.set | with_reducible exact Sto.row | ((with_reducible refine Sto.rowEq2 ?_ ?_); omega; rfl) | ((with_reducible refine Sto.rowEq ?_); omega) | with_reducible apply Sto.int | with_reducible apply Sto.there | with_reducible assumption | (unfold I64; omega) | (with_reducible (have hMx := Mem.undrew hM; exact hMx)) | (with_reducible (have hMx := Mem.undrew hMp; exact hMx))))
      clear hM
      intro hM
      (try simp only [World.size_alloc, World.size_setCell, World.heap_drewN, heapDrew, Nat.add_assoc, Nat.reduceAdd, List.setIfInBounds_toArray, List.set_cons_zero, List.set_cons_succ, List.cons_append, List.nil_append] at hM)
      refine (HF.out k hlt _ hM.below).mono ?_
      rintro e w1 ⟨rfl, hb⟩
      replace hM := hM.ext hb
      clear hb
      cases hp : p k
      · go_wp2
        go_roundw
        case rel =>
          refine ⟨k + 1, a', m, c', by omega, by go_num, rfl, ?_⟩
          rw [HY.out, hp]
          simpa using hM
        case measure => simp [intOf]; omega
      · go_wp2_with (at_builtin; apply Mem.atL; (focus ((repeat' (first | with_reducible exact hM | with_reducible exact hMp | with_reducible apply Mem.drew | with_reducible apply Mem.drewN | with_reducible apply Mem.alloc | with_reducible apply Mem.set | with_reducible exact Sto.row | ((with_reducible refine Sto.rowEq2 ?_ ?_); omega; rfl) | ((with_reducible refine Sto.rowEq ?_); omega) | with_reducible apply Sto.int | with_reducible apply Sto.there | with_reducible assumption | (unfold I64; omega) | (with_reducible (have hMx := Mem.undrew hM; exact hMx)) | (with_reducible (have hMx := Mem.undrew hMp; exact hMx)))); done)); clear hM; intro hM; refine wpList_pushI hM (fun _ => .here) (i64_nat (by omega)) (by omega) rfl _ _ _ Tryd.underlying26 rfl rfl rfl ?_)
        intro a2 c2 w2 hM
        go_wp2
        go_roundw
        case rel =>
          refine ⟨k + 1, a2, m + 1, c2, by omega, by go_num, rfl, ?_⟩
          rw [HY.out, hp]
          exact hM
        case measure => simp [intOf]; omega
    · obtain rfl : k = n := by omega
      go_wp2
      go_ret
      exact ⟨a', m, c', rfl, hM.first⟩
end Go.Proofs.YtpoabdmapbdmfaaDoor
