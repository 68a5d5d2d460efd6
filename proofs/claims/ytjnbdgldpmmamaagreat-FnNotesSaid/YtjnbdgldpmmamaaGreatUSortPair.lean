/-
  Library: sorting pairs of numbers.
-/
import Derived.Test.YtjnbdgldpmmamaaGreatUPairI
import Derived.Test.YtjnbdgldpmmamaaGreatUMissR
import Derived.Deep.DeepCutAuto
import Derived.RegionTactic
/-
  Library: sorting pairs of numbers.
-/
namespace Go.Proofs.YtjnbdgldpmmamaaGreat
set_option linter.unusedSimpArgs false
set_option linter.unusedVariables false
open Go.RowKit

theorem Ow.cellPair {E : TypeId} {B : Nat} {w : World} {g n c : Nat} {xs : List (Int × Int)} (h : Ow FPair E B w (some ⟨g, 0, none⟩) n c xs) {k : Nat} (hk : k < n) : w.cell? ⟨g, k * 2, none⟩ = some (.int .i64 (xs.getD k (0, 0)).1) ∧ w.cell? ⟨g, k * 2 + 1, none⟩ = some (.int .i64 (xs.getD k (0, 0)).2) :=
  ⟨h.cell hk (j := 0) (by decide), h.cell hk (j := 1) (by decide)⟩
theorem Mem.putPair {E : TypeId} {B : Nat} {w0 w : World} {G G' : List Ent} {g n c : Nat} {xs : List (Int × Int)} (h : Mem B w0 w G) {k : Nat} (hk : k < n) (y : Int × Int) (hw : FPair.wf y) (p : Put G (owE FPair E (some ⟨g, 0, none⟩) n c xs) (owE FPair E (some ⟨g, 0, none⟩) n c (xs.set k y)) G') : Mem B w0 ((w.setCell ⟨g, k * 2, none⟩ (.int .i64 y.1)).setCell ⟨g, k * 2 + 1, none⟩ (.int .i64 y.2)) G' :=
  h.put p (setRec_keeps (d := blockOf (some ⟨g, 0, none⟩)) g ⟨_, rfl, rfl⟩ (FPair.enc y) (k * 2) w) ((h.ow p.mem').putRec hk y hw) (fun k hk => .inl hk)
/-- what a comparing function answers in the worlds of a call that sorts -/
def ComparesPair (f : FuncId) (caps : Array Value) (lt : Int × Int → Int × Int → Bool) (B : Nat) (w0 : World) (G : List Ent) (xs : List (Int × Int)) : Prop :=
  ∀ x ∈ xs, ∀ y ∈ xs, ∀ w', Mem B w0 w' G → Calls Tryz.prog f (#[.agg #[.int .i64 x.1, .int .i64 x.2], .agg #[.int .i64 y.1, .int .i64 y.2]] ++ caps) w' fun e w'' => (∃ r : Int, e = .returned (.int .i64 r) ∧ decide (r < 0) = lt x y) ∧ Below w'.heap.size w' w''

set_option maxRecDepth 100000 in
set_option maxHeartbeats 4000000 in
theorem insertionPair_any (B : Nat) (w0 : World) (G : List Ent) (g n c : Nat) (xs : List (Int × Int)) (f : FuncId) (caps : Array Value) (lt : Int × Int → Int × Int → Bool) (w : World) (hM : Mem B w0 w (owE FPair 58 (some ⟨g, 0, none⟩) n c xs :: G)) (hn : n ≤ 1000)
    (hcf : ∀ args w, (callFunc f args).run Tryz.prog w = .ok (.enter f args) w) (hc : ComparesPair f caps lt B w0 G xs) :
    Calls Tryz.prog 87 #[.slice (some ⟨g, 0, none⟩) n c, .int .i64 0, .int .i64 n, .func (.func f) #[] caps] w fun e w' => e = .returned (.tuple #[]) ∧ Mem B w0 w' (owE FPair 58 (some ⟨g, 0, none⟩) n c (isortG ((0 : Int), (0 : Int)) lt xs) :: G) := by
  have HL := Lib.hid (hM.ow .here).len
  have HW := Lib.hid (hM.ow .here).rd.wf
  have HC := Lib.hid hc; clear hc
  have hs : isortG ((0 : Int), (0 : Int)) lt xs = isortH ((0 : Int), (0 : Int)) lt n xs := by rw [isortG, (hM.ow .here).len]
  rw [hs]
  clear hs
  go_enter Tryz.func87, Tryz.ntmps87
  by_cases h0 : n = 0
  · subst h0
    go_wp2
    go_loopw [8] (fun i wr => i = .int .i64 1 ∧ wr = w) (fun _ _ => 0)
    case atStart => exact ⟨rfl, rfl⟩
    case round =>
      obtain ⟨rfl, rfl⟩ := hrel
      go_wp2
      go_end0
      exact ⟨rfl, hM⟩
  go_wp2
  go_loopw [8] (fun i wr => ∃ k : Nat, 1 ≤ k ∧ k ≤ n ∧ i = .int .i64 k ∧ Mem B w0 wr (owE FPair 58 (some ⟨g, 0, none⟩) n c (isortH ((0 : Int), (0 : Int)) lt k xs) :: G)) (fun i _ => n - (intOf i).toNat)
  case atStart => exact ⟨1, by omega, by omega, rfl, hM⟩
  case round =>
    clear hM
    obtain ⟨k, hk1, hk, rfl, hM⟩ := hrel
    obtain ⟨ys, hys⟩ : ∃ ys, isortH ((0 : Int), (0 : Int)) lt k xs = ys := ⟨_, rfl⟩
    have hyl : ys.length = n := by rw [← hys, isortH_length, HL.out]
    have hym : ∀ z ∈ ys, z ∈ xs := by rw [← hys]; exact isortH_mem k xs (by rw [HL.out]; exact hk)
    have hst : isortH ((0 : Int), (0 : Int)) lt (k + 1) xs = sinkG ((0 : Int), (0 : Int)) lt k ys := by rw [isortH, hys]
    rw [hys] at hM
    have HY := Lib.hid hys; clear hys
    have HYL := Lib.hid hyl; clear hyl
    have HYM := Lib.hid hym; clear hym
    have HST := Lib.hid hst; clear hst
    by_cases hlt : k < n
    · go_wp2
      go_loopw [9] (fun s wq => ∃ (j : Nat) (zs : List (Int × Int)), j ≤ k ∧ s = .int .i64 j ∧ zs.length = n ∧ (∀ z ∈ zs, z ∈ xs) ∧ sinkG ((0 : Int), (0 : Int)) lt k ys = sinkG ((0 : Int), (0 : Int)) lt j zs ∧ Mem B w0 wq (owE FPair 58 (some ⟨g, 0, none⟩) n c zs :: G)) (fun s _ => (intOf s).toNat)
      case atStart => exact ⟨k, ys, Nat.le_refl _, rfl, HYL.out, HYM.out, rfl, hM⟩
      case round =>
        clear hM
        obtain ⟨j, zs, hj, rfl, hzl, hzm, hsk, hM⟩ := hrel
        have HZL := Lib.hid hzl; clear hzl
        have HZM := Lib.hid hzm; clear hzm
        have HSK := Lib.hid hsk; clear hsk
        by_cases hj0 : j = 0
        · have kz : decide (0 < j) = false := decide_eq_false (by omega)
          have HJ := Lib.hid hj0; clear hj0
          go_wp2_with fail
          apply Mem.atWp
          · exact memA
          clear hM
          intro hM
          refine AtT.startA hM hM 16 (by kernel_rfl) ?_
          clear hM
          intro wd hM
          have hS := hM
          refine AtT.tk 0 ?_ 18 ?_ hS ?_
          rotate_left
          · (intro wS hSw; (try dsimp only at hSw); go_simp; (try rw [if_neg (by omega)]); try with_reducible rfl)
          simp only [Act.put, sA]
          refine AtT.tk 1 ?_ 19 ?_ hS ?_
          rotate_left
          · (intro wS hSw; (try dsimp only at hSw); go_simp; (try rw [if_neg (by omega)]); try with_reducible rfl)
          simp only [Act.put, sA]
          refine AtT.tk 2 ?_ 20 ?_ hS ?_
          rotate_left
          · (intro wS hSw; (try dsimp only at hSw); go_simp; (try rw [if_neg (by omega)]); try with_reducible rfl)
          simp only [Act.put, sA]
          refine AtT.tk 3 ?_ 21 ?_ hS ?_
          rotate_left
          · (intro wS hSw; (try dsimp only at hSw); go_simp; (try rw [if_neg (by omega)]); try with_reducible rfl)
          simp only [Act.put, sA]
          refine AtT.tn 4 22 hS ?_
          simp only [Act.put, sA]
          refine AtT.tn 5 23 hS ?_
          simp only [Act.put, sA]
          refine AtT.tn 6 24 hS ?_
          simp only [Act.put, sA]
          refine AtT.tn 7 25 hS ?_
          simp only [Act.put, sA]
          refine AtT.tn 8 26 hS ?_
          simp only [Act.put, sA]
          refine AtT.tn 9 27 hS ?_
          simp only [Act.put, sA]
          refine AtT.tn 10 28 hS ?_
          simp only [Act.put, sA]
          refine AtT.tn 11 29 hS ?_
          simp only [Act.put, sA]
          refine AtT.tn 12 30 hS ?_
          simp only [Act.put, sA]
          refine AtT.tn 13 31 hS ?_
          simp only [Act.put, sA]
          refine AtT.tn 14 32 hS ?_
          simp only [Act.put, sA]
          refine AtT.tn 15 33 hS ?_
          simp only [Act.put, sA]
          refine AtT.last (by kernel_rfl) rfl (by kernel_rfl) ?_
          intro K hK
          clear hS
          go_simp
          refine hK.out _ _ ?_
          clear hK K
          go_wp2
          go_roundw
          case rel => exact ⟨k + 1, by omega, by omega, by go_num, by
            rw [HST.out, HSK.out, HJ.out, sinkG]
            exact Mem.undrew (Mem.drew hM)⟩
          case measure => simp [intOf]; omega
        · obtain ⟨i, hi⟩ : ∃ i, j = i + 1 := ⟨j - 1, by omega⟩
          have hx := HZM.out _ (getD_memO (d := ((0 : Int), (0 : Int))) (xs := zs) (k := j) (by rw [HZL.out]; omega))
          have hy := HZM.out _ (getD_memO (d := ((0 : Int), (0 : Int))) (xs := zs) (k := i) (by rw [HZL.out]; omega))
          have wx := HW.out _ hx
          have wy := HW.out _ hy
          have hsw := swapG_mem (d := ((0 : Int), (0 : Int))) (xs := zs) (j := i) (by rw [HZL.out]; omega)
          have hss : sinkG ((0 : Int), (0 : Int)) lt j zs = if lt (zs.getD j ((0 : Int), (0 : Int))) (zs.getD i ((0 : Int), (0 : Int))) then sinkG ((0 : Int), (0 : Int)) lt i ((zs.set j (zs.getD i ((0 : Int), (0 : Int)))).set i (zs.getD j ((0 : Int), (0 : Int)))) else zs := by subst hi; rw [sinkG]
          rw [← hi] at hsw
          obtain ⟨x, ex⟩ : ∃ x, zs.getD j ((0 : Int), (0 : Int)) = x := ⟨_, rfl⟩
          obtain ⟨y, ey⟩ : ∃ y, zs.getD i ((0 : Int), (0 : Int)) = y := ⟨_, rfl⟩
          rw [ex, ey] at hss hsw
          rw [ex] at hx wx
          rw [ey] at hy wy
          have HSS := Lib.hid hss; clear hss
          have HSW := Lib.hid hsw; clear hsw
          have EX := Lib.hid ex; clear ex
          have EY := Lib.hid ey; clear ey
          have hjI : IntKind.i64.wrap ((j : Int) - 1) = (i : Int) := by rw [wrap_in (by omega)]; omega
          have i0 : (0 : Int) ≤ (j : Int) := by omega
          have i1 : (j : Int) < (n : Int) := by omega
          have j0 : (0 : Int) ≤ (i : Int) := by omega
          have j1 : (i : Int) < (n : Int) := by omega
          have hjn : j < n := by omega
          have hin : i < n := by omega
          have kp : decide (0 < j) = true := decide_eq_true (by omega)
          have HI := Lib.hid hi; clear hi hj0
          have HX := Lib.hid hx; clear hx
          have HYY := Lib.hid hy; clear hy
          have HWX := Lib.hid wx; have HWY := Lib.hid wy; clear wx wy
          go_wp2_with fail
          apply Mem.atWp
          · exact memA
          clear hM
          intro hM
          refine AtT.startA hM hM 16 (by kernel_rfl) ?_
          clear hM
          intro wd hM
          have hS := hM
          refine AtT.tk 0 ?_ 18 ?_ hS ?_
          rotate_left
          · (intro wS hSw; (try dsimp only at hSw); go_simp; (try rw [if_neg (by omega)]); try with_reducible rfl)
          simp only [Act.put, sA]
          refine AtT.tk 1 ?_ 19 ?_ hS ?_
          rotate_left
          · (intro wS hSw; (try dsimp only at hSw); go_simp; (try rw [if_neg (by omega)]); try with_reducible rfl)
          simp only [Act.put, sA]
          refine AtT.tk 2 ?_ 20 ?_ hS ?_
          rotate_left
          · (intro wS hSw; (try dsimp only at hSw); go_simp; (try rw [if_neg (by omega)]); try with_reducible rfl)
          simp only [Act.put, sA]
          refine AtT.tk 3 ?_ 21 ?_ hS ?_
          rotate_left
          · (intro wS hSw; (try dsimp only at hSw); go_simp; (try rw [if_neg (by omega)]); try with_reducible rfl)
          simp only [Act.put, sA]
          refine AtT.tk 4 ?_ 22 ?_ hS ?_
          rotate_left
          · (intro wS hSw; (try dsimp only at hSw); go_simp; (try rw [if_neg (by omega)]); try with_reducible rfl)
          simp only [Act.put, sA]
          refine AtT.tk 5 ?_ 23 ?_ hS ?_
          rotate_left
          · (intro wS hSw; (try dsimp only at hSw); go_simp; (try rw [if_neg (by omega)]); try with_reducible rfl)
          simp only [Act.put, sA]
          refine AtT.tk 6 ?_ 24 ?_ hS ?_
          rotate_left
          · (intro wS hSw; (try dsimp only at hSw); go_simp; (try rw [if_neg (by omega)]); try with_reducible rfl)
          simp only [Act.put, sA]
          refine AtT.tk 7 ?_ 25 ?_ hS ?_
          rotate_left
          · (intro wS hSw; (try dsimp only at hSw); have q1 := (hSw.ow .here).cellPair hjn; have q2 := (hSw.ow .here).cellPair hin; rw [EX.out] at q1; rw [EY.out] at q2; have r0 := q1.1; have s0 := q2.1; have r1 := q1.2; have s1 := q2.2; go_simp; (try rw [if_neg (by omega)]); try with_reducible rfl)
          simp only [Act.put, sA]
          refine AtT.tk 8 ?_ 26 ?_ hS ?_
          rotate_left
          · (intro wS hSw; (try dsimp only at hSw); have q1 := (hSw.ow .here).cellPair hjn; have q2 := (hSw.ow .here).cellPair hin; rw [EX.out] at q1; rw [EY.out] at q2; have r0 := q1.1; have s0 := q2.1; have r1 := q1.2; have s1 := q2.2; go_simp; (try rw [if_neg (by omega)]); try with_reducible rfl)
          simp only [Act.put, sA]
          refine AtT.tk 9 ?_ 27 ?_ hS ?_
          rotate_left
          · (intro wS hSw; (try dsimp only at hSw); go_simp; (try rw [if_neg (by omega)]); try with_reducible rfl)
          simp only [Act.put, sA]
          refine AtT.tk 10 ?_ 28 ?_ hS ?_
          rotate_left
          · (intro wS hSw; (try dsimp only at hSw); go_simp; (try rw [if_neg (by omega)]); try with_reducible rfl)
          simp only [Act.put, sA]
          refine AtT.tk 11 ?_ 29 ?_ hS ?_
          rotate_left
          · (intro wS hSw; (try dsimp only at hSw); go_simp; (try rw [if_neg (by omega)]); try with_reducible rfl)
          simp only [Act.put, sA]
          refine AtT.tk 12 ?_ 30 ?_ hS ?_
          rotate_left
          · (intro wS hSw; (try dsimp only at hSw); have q1 := (hSw.ow .here).cellPair hjn; have q2 := (hSw.ow .here).cellPair hin; rw [EX.out] at q1; rw [EY.out] at q2; have r0 := q1.1; have s0 := q2.1; have r1 := q1.2; have s1 := q2.2; go_simp; (try rw [if_neg (by omega)]); try with_reducible rfl)
          simp only [Act.put, sA]
          refine AtT.tk 13 ?_ 31 ?_ hS ?_
          rotate_left
          · (intro wS hSw; (try dsimp only at hSw); have q1 := (hSw.ow .here).cellPair hjn; have q2 := (hSw.ow .here).cellPair hin; rw [EX.out] at q1; rw [EY.out] at q2; have r0 := q1.1; have s0 := q2.1; have r1 := q1.2; have s1 := q2.2; go_simp; (try rw [if_neg (by omega)]); try with_reducible rfl)
          simp only [Act.put, sA]
          refine AtT.only (i := 14) (by kernel_rfl) rfl rfl ?_
          intro K hK
          go_simp
          refine (HC.out x HX.out y HYY.out _ hM.tail).mono ?_
          rintro e w2 ⟨⟨r, rfl, hr⟩, hb⟩
          have HR := Lib.hid hr; clear hr
          replace hM := hM.ext hb
          clear hb
          try dsimp only
          refine hK.out _ _ (hM) ?_
          clear hK K hS
          have hS := hM
          refine AtT.tk 15 ?_ 33 ?_ hS ?_
          rotate_left
          · (intro wS hSw; (try dsimp only at hSw); go_simp; (try rw [if_neg (by omega)]); try with_reducible rfl)
          simp only [Act.put, sA]
          refine AtT.last (by kernel_rfl) rfl (by kernel_rfl) ?_
          intro K hK
          clear hS
          go_simp
          refine hK.out _ _ ?_
          clear hK K
          cases hl : lt x y
          · have hr2 : 0 ≤ r := by have := HR.out; rw [hl] at this; simpa using this
            go_wp2
            go_roundw
            case rel => exact ⟨k + 1, by omega, by omega, by go_num, by
              rw [HST.out, HSK.out, HSS.out, if_neg (by rw [hl]; simp)]
              exact hM⟩
            case measure => simp [intOf]; omega
          · have hr2 : r < 0 := by have := HR.out; rw [hl] at this; simpa using this
            have HLT := Lib.hid hl; clear hl
            go_upto_region 6 with fail
            apply Mem.atWpA
            · exact memA
            clear hM
            intro wst hM
            (try simp only [World.size_alloc, World.size_setCell, World.heap_drewN, heapDrew, Nat.add_assoc, Nat.reduceAdd, sA, List.cons_append, List.nil_append] at hM)
            have hne : (j : Nat) ≠ i := by have := HI.out; omega
            have hM2 := (hM.putPair hjn y HWY.out .here).putPair hin x HWX.out .here
            have HM2 := Lib.hid hM2
            clear hM2
            have d1 := (hM.ow .here).cellPair hjn
            have d2 := (hM.ow .here).cellPair hin
            rw [EX.out] at d1
            rw [EY.out] at d2
            have e0 := d1.1
            have f0 := d2.1
            have e1 := d1.2
            have f1 := d2.2
            have dz := (hM.ow .here).free
            clear d1 d2
            go_region
            all_goals
              clear e0 f0 e1 f1 dz
              go_wp2
              go_roundw
              case rel =>
                refine ⟨i, (zs.set j y).set i x, by have := HI.out; omega, rfl, by simp [HZL.out], fun z hz => HZM.out z (HSW.out z hz), by rw [HSK.out, HSS.out, if_pos HLT.out], ?_⟩
                first | exact HM2.out | exact Mem.undrew HM2.out | exact Mem.drew HM2.out
              case measure => simp [intOf]; have := HI.out; omega
    · obtain rfl : k = n := by omega
      go_wp2
      go_end0
      exact ⟨rfl, by rw [HY.out]; exact hM⟩
set_option maxHeartbeats 2000000 in
theorem pdqPair_any (B : Nat) (w0 : World) (G : List Ent) (g n c : Nat) (l : Int) (xs : List (Int × Int)) (f : FuncId) (caps : Array Value) (lt : Int × Int → Int × Int → Bool) (w : World) (hM : Mem B w0 w (owE FPair 58 (some ⟨g, 0, none⟩) n c xs :: G)) (hn : n ≤ 12)
    (hcf : ∀ args w, (callFunc f args).run Tryz.prog w = .ok (.enter f args) w) (hc : ComparesPair f caps lt B w0 G xs) :
    Calls Tryz.prog 81 #[.slice (some ⟨g, 0, none⟩) n c, .int .i64 0, .int .i64 n, .int .i64 l, .func (.func f) #[] caps] w fun e w' => e = .returned (.tuple #[]) ∧ Mem B w0 w' (owE FPair 58 (some ⟨g, 0, none⟩) n c (isortG ((0 : Int), (0 : Int)) lt xs) :: G) := by
  have HC := Lib.hid hc; clear hc
  go_enter Tryz.func81, Tryz.ntmps81
  go_wp2
  refine wp_loop_rounds 1 ?_
  rw [rounds_succ]
  go_wp2_with fail
  refine (insertionPair_any B w0 G g n c xs f caps lt _ hM (by omega) hcf HC.out).mono ?_
  rintro e w2 ⟨rfl, hM2⟩
  go_wp2
  (try simp only [Exit.inBlock, Exit.then]); refine bodyPost_ret (results_none rfl _ _ _) rfl ?_
  exact ⟨rfl, hM2⟩
set_option maxHeartbeats 2000000 in
theorem sortPair_any (B : Nat) (w0 : World) (G : List Ent) (g n c : Nat) (xs : List (Int × Int)) (f : FuncId) (caps : Array Value) (lt : Int × Int → Int × Int → Bool) (w : World) (hM : Mem B w0 w (owE FPair 58 (some ⟨g, 0, none⟩) n c xs :: G)) (hn : n ≤ 12)
    (hcf : ∀ args w, (callFunc f args).run Tryz.prog w = .ok (.enter f args) w) (hc : ComparesPair f caps lt B w0 G xs) :
    Calls Tryz.prog 61 #[.slice (some ⟨g, 0, none⟩) n c, .func (.func f) #[] caps] w fun e w' => e = .returned (.tuple #[]) ∧ Mem B w0 w' (owE FPair 58 (some ⟨g, 0, none⟩) n c (isortG ((0 : Int), (0 : Int)) lt xs) :: G) := by
  have HC := Lib.hid hc; clear hc
  go_enter Tryz.func61, Tryz.ntmps61
  go_wp2_with fail
  refine (bitsLen_any n hn _).mono ?_
  rintro e w1 ⟨⟨l, rfl⟩, rfl⟩
  go_wp2_with fail
  refine (pdqPair_any B w0 G g n c l xs f caps lt _ hM hn hcf HC.out).mono ?_
  rintro e w2 ⟨rfl, hM2⟩
  go_wp2
  go_end0
  exact ⟨rfl, hM2⟩
end Go.Proofs.YtjnbdgldpmmamaaGreat
