/-
  Pairs of numbers as records; ConcurrentPairs: both sides; the laws' comparisons.
-/
import Derived.Test.YtjnbdgldpmmamaaGreatULawV
import Derived.Test.YtjnbdgldpmmamaaGreatUMrgI
import Derived.ChangeKeysEq
/-
  Pairs of numbers as records; ConcurrentPairs: both sides; the laws' comparisons.
-/
namespace Go.Proofs.YtjnbdgldpmmamaaGreat
set_option linter.unusedSimpArgs false
set_option linter.unusedVariables false
open Go.RowKit

def FPair : Fl (Int × Int) where
  sz := 2
  enc x := [.int .i64 x.1, .int .i64 x.2]
  z := (0, 0)
  wf x := I64 x.1 ∧ I64 x.2
  pos := by decide
  len _ := rfl
  one := by intro x v hv; simp at hv; rcases hv with rfl | rfl <;> rfl
theorem Rd.cellPair {w : World} {b off n c : Nat} {xs : List (Int × Int)} (h : Rd FPair w (some ⟨b, off, none⟩) n c xs) {k : Nat} (hk : k < n) : b < w.heap.size ∧ w.cell? ⟨b, off + k * 2, none⟩ = some (.int .i64 (xs.getD k (0, 0)).1) ∧ w.cell? ⟨b, off + k * 2 + 1, none⟩ = some (.int .i64 (xs.getD k (0, 0)).2) := by
  obtain ⟨b', off', e, hl, hc⟩ := h.at' k hk
  simp only [Option.some.injEq, Addr.mk.injEq] at e
  obtain ⟨rfl, rfl, _⟩ := e
  exact ⟨hl, by rw [show off + k * 2 = off + (k * FPair.sz + 0) by show _ = off + (k * 2 + 0); omega]; exact hc k hk 0 (by decide), by rw [show off + k * 2 + 1 = off + (k * FPair.sz + 1) by show _ = off + (k * 2 + 1); omega]; exact hc k hk 1 (by decide)⟩
abbrev pairE (a : Option Addr) (n c : Nat) (xs : List (Int × Int)) : Ent := owE FPair 58 a n c xs
theorem Tryz.info58 : (Tryz.prog.info? 58).map (fun i => (i.zero, i.size, i.bytes)) = some (some (.agg #[.int .i64 0, .int .i64 0]), 2, 16) := by kernel_rfl
theorem cellsInt : Tryz.prog.cellsOf 3 = 1 := by kernel_rfl
theorem undPair : Tryz.prog.underlying 58 = some (.array 2 3) := by kernel_rfl
theorem eqInt_run (d : Nat) (a b : Int) (w : World) : (Op.equalIn (d + 1) 3 (.int .i64 a) (.int .i64 b)).run Tryz.prog w = .ok (a == b) w := by
  simp [Op.equalIn, Sem.run_bind, run_underlying Tryz.underlying3]
theorem partPair (a b : Int) (w : World) (k : Nat) (v : Value) (h : #[Value.int IntKind.i64 a, Value.int IntKind.i64 b][k]? = some v) : (part 3 #[Value.int IntKind.i64 a, Value.int IntKind.i64 b] k).run Tryz.prog w = .ok v w := by
  unfold part
  simp only [Sem.run_bind, Tryz.isAgg3 w, Result.andThen_ok, h]
  simp
theorem pair_eq (a b c d : Int) (w : World) : (Op.equalIn 10000 58 (.agg #[.int .i64 a, .int .i64 b]) (.agg #[.int .i64 c, .int .i64 d])).run Tryz.prog w = .ok (a == c && b == d) w := by
  obtain ⟨i0, hi, hz0, hz1, hz2⟩ := info_parts Tryz.info3
  rw [show (10000 : Nat) = 9999 + 1 from rfl, run_equalIn_array w 9999 _ _ undPair hi, cellsInt]
  simp only [show List.range 2 = [0, 1] from rfl, Op.eqItems, Sem.run_bind]
  rw [partPair a b w (0 * 1) (.int .i64 a) rfl]
  simp only [Result.andThen_ok]
  rw [partPair c d w (0 * 1) (.int .i64 c) rfl]
  simp only [Result.andThen_ok]
  rw [show (9999 : Nat) = 9998 + 1 from rfl, eqInt_run]
  simp only [Result.andThen_ok]
  cases h : (a == c)
  · simp
  · simp only [Bool.not_true, Bool.false_eq_true, if_false, Sem.run_bind]
    rw [partPair a b w (1 * 1) (.int .i64 b) rfl]
    simp only [Result.andThen_ok]
    rw [partPair c d w (1 * 1) (.int .i64 d) rfl]
    simp only [Result.andThen_ok]
    rw [eqInt_run]
    simp only [Result.andThen_ok]
    cases h2 : (b == d) <;> simp
set_option maxRecDepth 100000 in
set_option maxHeartbeats 4000000 in
theorem vPairs_same (a : Option Addr) (n c : Nat) (a' : Option Addr) (c' : Nat) (xs : List (Int × Int)) (w : World) (h : Rd FPair w a n c xs) (h' : Rd FPair w a' n c' xs) :
    Calls Tryz.prog 15 #[.slice a n c, .slice a' n c'] w fun e w' => e = .returned (.bool true) ∧ Below w.heap.size w w' := by
  have hM := Mem.start w
  have hrm := h.nroom
  have HH := Lib.hid h; have HH' := Lib.hid h'
  clear h h'
  have e0 : ((n : Int) != (n : Int)) = false := by simp
  go_enter Tryz.func15, Tryz.ntmps15
  go_wp2_with fail
  go_loopw [5] (fun s wr => ∃ k : Nat, k ≤ n ∧ s = .int .i64 k ∧ Mem w.heap.size w wr []) (fun s _ => n - (intOf s).toNat)
  case atStart => exact ⟨0, Nat.zero_le _, rfl, hM⟩
  case round =>
    clear hM
    obtain ⟨k, hk, rfl, hM⟩ := hrel
    by_cases hlt : k < n
    · obtain ⟨b, off, rfl, -, -⟩ := HH.out.at' _ hlt
      obtain ⟨b2, off2, rfl, -, -⟩ := HH'.out.at' _ hlt
      have hx := ((HH.out.ext hM.below).cellPair hlt).2
      have hy := ((HH'.out.ext hM.below).cellPair hlt).2
      obtain ⟨x0, x1⟩ := hx
      obtain ⟨y0, y1⟩ := hy
      have i0 : (0 : Int) ≤ (k : Int) := by omega
      have i1 : (k : Int) < (n : Int) := by omega
      obtain ⟨v0, hv0⟩ : ∃ v, (xs.getD k (0, 0)).1 = v := ⟨_, rfl⟩
      obtain ⟨v1, hv1⟩ : ∃ v, (xs.getD k (0, 0)).2 = v := ⟨_, rfl⟩
      have HCX := Lib.hid (fun (w' : World) (hb : Below w.heap.size w w') => ((HH.out.ext hb).cellPair hlt).2)
      have HCY := Lib.hid (fun (w' : World) (hb : Below w.heap.size w w') => ((HH'.out.ext hb).cellPair hlt).2)
      rw [hv0, hv1] at HCX HCY
      clear hv0 hv1 x0 x1 y0 y1
      have hpe : ∀ w' : World, (Op.equalIn 10000 58 (.agg #[.int .i64 v0, .int .i64 v1]) (.agg #[.int .i64 v0, .int .i64 v1])).run Tryz.prog w' = .ok true w' := fun w' => by rw [pair_eq]; simp
      go_upto_region 6 with fail
      apply Mem.atWpA
      · exact memA
      clear hM
      intro wst hM
      (try simp only [World.size_alloc, World.size_setCell, World.heap_drewN, heapDrew, Nat.add_assoc, Nat.reduceAdd, sA, List.cons_append, List.nil_append] at hM)
      refine AtT.startA hM hM 8 (by kernel_rfl) ?_
      clear hM
      intro wd hM
      have hS := hM
      refine AtT.tk 0 ?_ 17 ?_ hS ?_
      rotate_left
      · (intro wS hSw; (try dsimp only at hSw); go_simp; (try rw [if_neg (by omega)]); try with_reducible rfl)
      simp only [Act.put, sA]
      refine AtT.tk 1 ?_ 18 ?_ hS ?_
      rotate_left
      · (intro wS hSw; (try dsimp only at hSw); go_simp; (try rw [if_neg (by omega)]); try with_reducible rfl)
      simp only [Act.put, sA]
      refine AtT.tk 2 ?_ 19 ?_ hS ?_
      rotate_left
      · (intro wS hSw; (try dsimp only at hSw); obtain ⟨x0, x1⟩ := HCX.out _ hSw.below; obtain ⟨y0, y1⟩ := HCY.out _ hSw.below; go_simp; (try rw [if_neg (by omega)]); try with_reducible rfl)
      simp only [Act.put, sA]
      refine AtT.tk 3 ?_ 20 ?_ hS ?_
      rotate_left
      · (intro wS hSw; (try dsimp only at hSw); obtain ⟨x0, x1⟩ := HCX.out _ hSw.below; obtain ⟨y0, y1⟩ := HCY.out _ hSw.below; go_simp; (try rw [if_neg (by omega)]); try with_reducible rfl)
      simp only [Act.put, sA]
      refine AtT.tk 4 ?_ 21 ?_ hS ?_
      rotate_left
      · (intro wS hSw; (try dsimp only at hSw); go_simp; (try rw [if_neg (by omega)]); try with_reducible rfl)
      simp only [Act.put, sA]
      refine AtT.tk 5 ?_ 22 ?_ hS ?_
      rotate_left
      · (intro wS hSw; (try dsimp only at hSw); go_simp; (try rw [if_neg (by omega)]); try with_reducible rfl)
      simp only [Act.put, sA]
      refine AtT.tk 6 ?_ 23 ?_ hS ?_
      rotate_left
      · (intro wS hSw; (try dsimp only at hSw); obtain ⟨x0, x1⟩ := HCX.out _ hSw.below; obtain ⟨y0, y1⟩ := HCY.out _ hSw.below; go_simp; (try rw [if_neg (by omega)]); try with_reducible rfl)
      simp only [Act.put, sA]
      refine AtT.tk 7 ?_ 24 ?_ hS ?_
      rotate_left
      · (intro wS hSw; (try dsimp only at hSw); obtain ⟨x0, x1⟩ := HCX.out _ hSw.below; obtain ⟨y0, y1⟩ := HCY.out _ hSw.below; go_simp; (try rw [if_neg (by omega)]); try with_reducible rfl)
      simp only [Act.put, sA]
      refine AtT.last (by kernel_rfl) rfl (by kernel_rfl) ?_
      intro K hK
      clear hS
      go_simp
      refine hK.out _ _ ?_
      clear hK K
      go_wp2
      go_roundw
      case rel => exact ⟨k + 1, by omega, by go_num, by (exact memA)⟩
      case measure => simp [intOf]; omega
    · go_wp2
      go_ret
      exact ⟨rfl, (by apply Mem.below; (exact memA))⟩
end Go.Proofs.YtjnbdgldpmmamaaGreat
