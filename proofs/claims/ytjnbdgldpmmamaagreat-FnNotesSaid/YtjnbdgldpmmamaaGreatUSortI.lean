/- Lemmas. -/
import Derived.Test.YtjnbdgldpmmamaaGreatUSeason
import Derived.Deep.DeepCutAuto
import Derived.RegionTactic
namespace Go.Proofs.YtjnbdgldpmmamaaGreat
set_option linter.unusedSimpArgs false
set_option linter.unusedVariables false
open Go.RowKit

/-- the number at place j sinks as long as it is less than the one before it -/
def sinkL (lt : Int → Int → Bool) : Nat → List Int → List Int
  | 0, xs => xs
  | j + 1, xs => if lt (xs.getD (j + 1) 0) (xs.getD j 0) then sinkL lt j ((xs.set (j + 1) (xs.getD j 0)).set j (xs.getD (j + 1) 0)) else xs
def isortK (lt : Int → Int → Bool) : Nat → List Int → List Int
  | 0, xs => xs
  | k + 1, xs => sinkL lt k (isortK lt k xs)
/-- insertion sort -/
def isortL (lt : Int → Int → Bool) (xs : List Int) : List Int := isortK lt xs.length xs
theorem sinkL_length (lt : Int → Int → Bool) : ∀ (j : Nat) (xs : List Int), (sinkL lt j xs).length = xs.length
  | 0, _ => rfl
  | j + 1, xs => by
    rw [sinkL]
    split
    · rw [sinkL_length]; simp
    · rfl
theorem isortK_length (lt : Int → Int → Bool) : ∀ (k : Nat) (xs : List Int), (isortK lt k xs).length = xs.length
  | 0, _ => rfl
  | k + 1, xs => by rw [isortK, sinkL_length, isortK_length]
theorem swap_mem {xs : List Int} {j : Nat} (hj : j + 1 < xs.length) : ∀ z ∈ (xs.set (j + 1) (xs.getD j 0)).set j (xs.getD (j + 1) 0), z ∈ xs := by
  intro z hz
  rcases List.mem_or_eq_of_mem_set hz with hz | rfl
  · rcases List.mem_or_eq_of_mem_set hz with hz | rfl
    · exact hz
    · exact getD_mem (by omega)
  · exact getD_mem hj
theorem sinkL_mem (lt : Int → Int → Bool) : ∀ (j : Nat) (xs : List Int), j < xs.length → ∀ z ∈ sinkL lt j xs, z ∈ xs
  | 0, _, _ => fun _ hz => hz
  | j + 1, xs, hj => by
    rw [sinkL]
    split
    · intro z hz
      exact swap_mem hj z (sinkL_mem lt j _ (by simp; omega) z hz)
    · exact fun _ hz => hz
theorem isortK_mem (lt : Int → Int → Bool) : ∀ (k : Nat) (xs : List Int), k ≤ xs.length → ∀ z ∈ isortK lt k xs, z ∈ xs
  | 0, _, _ => fun _ hz => hz
  | k + 1, xs, hk => fun z hz => isortK_mem lt k xs (by omega) z (sinkL_mem lt k _ (by rw [isortK_length]; omega) z hz)

/-- what a comparing function answers in the worlds of a call that sorts -/
def Compares (f : FuncId) (caps : Array Value) (lt : Int → Int → Bool) (B : Nat) (w0 : World) (G : List Ent) (xs : List Int) : Prop :=
  ∀ x ∈ xs, ∀ y ∈ xs, ∀ w', Mem B w0 w' G → Calls Tryz.prog f (#[.int .i64 x, .int .i64 y] ++ caps) w' fun e w'' => (∃ r : Int, e = .returned (.int .i64 r) ∧ decide (r < 0) = lt x y) ∧ Below w'.heap.size w' w''

set_option maxRecDepth 100000 in
set_option maxHeartbeats 4000000 in
theorem insertion_any (B : Nat) (w0 : World) (G : List Ent) (g n c : Nat) (xs : List Int) (f : FuncId) (caps : Array Value) (lt : Int → Int → Bool) (w : World) (hM : Mem B w0 w (intE (some ⟨g, 0, none⟩) n c xs :: G)) (hn : n ≤ 1000)
    (hcf : ∀ args w, (callFunc f args).run Tryz.prog w = .ok (.enter f args) w) (hc : Compares f caps lt B w0 G xs) :
    Calls Tryz.prog 76 #[.slice (some ⟨g, 0, none⟩) n c, .int .i64 0, .int .i64 n, .func (.func f) #[] caps] w fun e w' => e = .returned (.tuple #[]) ∧ Mem B w0 w' (intE (some ⟨g, 0, none⟩) n c (isortL lt xs) :: G) := by
  have HL := Lib.hid (hM.ints .here).len
  have HW := Lib.hid (hM.ints .here).wf
  have HC := Lib.hid hc; clear hc
  have hs : isortL lt xs = isortK lt n xs := by rw [isortL, (hM.ints .here).len]
  rw [hs]
  clear hs
  go_enter Tryz.func76, Tryz.ntmps76
  by_cases h0 : n = 0
  · subst h0
    go_wp2
    go_loopw [8] (fun i wr => i = .int .i64 1 ∧ wr = w) (fun _ _ => 0)
    case atStart => exact ⟨rfl, rfl⟩
    case round =>
      obtain ⟨rfl, rfl⟩ := hrel
      go_wp2
      go_end0
      exact ⟨rfl, hM⟩
  go_wp2
  go_loopw [8] (fun i wr => ∃ k : Nat, 1 ≤ k ∧ k ≤ n ∧ i = .int .i64 k ∧ Mem B w0 wr (intE (some ⟨g, 0, none⟩) n c (isortK lt k xs) :: G)) (fun i _ => n - (intOf i).toNat)
  case atStart => exact ⟨1, by omega, by omega, rfl, hM⟩
  case round =>
    clear hM
    obtain ⟨k, hk1, hk, rfl, hM⟩ := hrel
    obtain ⟨ys, hys⟩ : ∃ ys, isortK lt k xs = ys := ⟨_, rfl⟩
    have hyl : ys.length = n := by rw [← hys, isortK_length, HL.out]
    have hym : ∀ z ∈ ys, z ∈ xs := by rw [← hys]; exact isortK_mem lt k xs (by rw [HL.out]; exact hk)
    have hst : isortK lt (k + 1) xs = sinkL lt k ys := by rw [isortK, hys]
    rw [hys] at hM
    have HY := Lib.hid hys; clear hys
    have HYL := Lib.hid hyl; clear hyl
    have HYM := Lib.hid hym; clear hym
    have HST := Lib.hid hst; clear hst
    by_cases hlt : k < n
    · go_wp2
      go_loopw [9] (fun s wq => ∃ (j : Nat) (zs : List Int), j ≤ k ∧ s = .int .i64 j ∧ zs.length = n ∧ (∀ z ∈ zs, z ∈ xs) ∧ sinkL lt k ys = sinkL lt j zs ∧ Mem B w0 wq (intE (some ⟨g, 0, none⟩) n c zs :: G)) (fun s _ => (intOf s).toNat)
      case atStart => exact ⟨k, ys, Nat.le_refl _, rfl, HYL.out, HYM.out, rfl, hM⟩
      case round =>
        clear hM
        obtain ⟨j, zs, hj, rfl, hzl, hzm, hsk, hM⟩ := hrel
        have HZL := Lib.hid hzl; clear hzl
        have HZM := Lib.hid hzm; clear hzm
        have HSK := Lib.hid hsk; clear hsk
        by_cases hj0 : j = 0
        · have kz : decide (0 < j) = false := decide_eq_false (by omega)
          have HJ := Lib.hid hj0; clear hj0
          go_wp2_with fail
          apply Mem.atWp
          · exact memA
          clear hM
          intro hM
          refine AtT.startA hM hM 16 (by kernel_rfl) ?_
          clear hM
          intro wd hM
          have hS := hM
          refine AtT.tk 0 ?_ 18 ?_ hS ?_
          rotate_left
          · (intro wS hSw; (try dsimp only at hSw); go_simp; (try rw [if_neg (by omega)]); try with_reducible rfl)
          simp only [Act.put, sA]
          refine AtT.tk 1 ?_ 19 ?_ hS ?_
          rotate_left
          · (intro wS hSw; (try dsimp only at hSw); go_simp; (try rw [if_neg (by omega)]); try with_reducible rfl)
          simp only [Act.put, sA]
          refine AtT.tk 2 ?_ 20 ?_ hS ?_
          rotate_left
          · (intro wS hSw; (try dsimp only at hSw); go_simp; (try rw [if_neg (by omega)]); try with_reducible rfl)
          simp only [Act.put, sA]
          refine AtT.tk 3 ?_ 21 ?_ hS ?_
          rotate_left
          · (intro wS hSw; (try dsimp only at hSw); go_simp; (try rw [if_neg (by omega)]); try with_reducible rfl)
          simp only [Act.put, sA]
          refine AtT.tn 4 22 hS ?_
          simp only [Act.put, sA]
          refine AtT.tn 5 23 hS ?_
          simp only [Act.put, sA]
          refine AtT.tn 6 24 hS ?_
          simp only [Act.put, sA]
          refine AtT.tn 7 25 hS ?_
          simp only [Act.put, sA]
          refine AtT.tn 8 26 hS ?_
          simp only [Act.put, sA]
          refine AtT.tn 9 27 hS ?_
          simp only [Act.put, sA]
          refine AtT.tn 10 28 hS ?_
          simp only [Act.put, sA]
          refine AtT.tn 11 29 hS ?_
          simp only [Act.put, sA]
          refine AtT.tn 12 30 hS ?_
          simp only [Act.put, sA]
          refine AtT.tn 13 31 hS ?_
          simp only [Act.put, sA]
          refine AtT.tn 14 32 hS ?_
          simp only [Act.put, sA]
          refine AtT.tn 15 33 hS ?_
          simp only [Act.put, sA]
          refine AtT.last (by kernel_rfl) rfl (by kernel_rfl) ?_
          intro K hK
          clear hS
          go_simp
          refine hK.out _ _ ?_
          clear hK K
          go_wp2
          go_roundw
          case rel => exact ⟨k + 1, by omega, by omega, by go_num, by
            rw [HST.out, HSK.out, HJ.out, sinkL]
            exact Mem.undrew (Mem.drew hM)⟩
          case measure => simp [intOf]; omega
        · obtain ⟨i, hi⟩ : ∃ i, j = i + 1 := ⟨j - 1, by omega⟩
          have hx := HZM.out _ (getD_mem (xs := zs) (k := j) (by rw [HZL.out]; omega))
          have hy := HZM.out _ (getD_mem (xs := zs) (k := i) (by rw [HZL.out]; omega))
          have wx := HW.out _ hx
          have wy := HW.out _ hy
          have hsw := swap_mem (xs := zs) (j := i) (by rw [HZL.out]; omega)
          have hss : sinkL lt j zs = if lt (zs.getD j 0) (zs.getD i 0) then sinkL lt i ((zs.set j (zs.getD i 0)).set i (zs.getD j 0)) else zs := by subst hi; rw [sinkL]
          rw [← hi] at hsw
          obtain ⟨x, ex⟩ : ∃ x, zs.getD j 0 = x := ⟨_, rfl⟩
          obtain ⟨y, ey⟩ : ∃ y, zs.getD i 0 = y := ⟨_, rfl⟩
          rw [ex, ey] at hss hsw
          rw [ex] at hx wx
          rw [ey] at hy wy
          have HSS := Lib.hid hss; clear hss
          have HSW := Lib.hid hsw; clear hsw
          have HDX : Hid (∀ w1 : World, Mem B w0 w1 (intE (some ⟨g, 0, none⟩) n c zs :: G) → w1.cell? ⟨g, j, none⟩ = some (.int .i64 x) ∧ w1.cell? ⟨g, i, none⟩ = some (.int .i64 y) ∧ ∀ o, w1.frozen? ⟨g, o, none⟩ = false) := by
            intro w1 h1
            have o := h1.ints .here
            refine ⟨?_, ?_, o.freeAt⟩
            · rw [← ex]; exact o.cellAt (by omega)
            · rw [← ey]; exact o.cellAt (by omega)
          have EX := Lib.hid ex; clear ex
          have EY := Lib.hid ey; clear ey
          have hjI : IntKind.i64.wrap ((j : Int) - 1) = (i : Int) := by rw [wrap_in (by omega)]; omega
          have i0 : (0 : Int) ≤ (j : Int) := by omega
          have i1 : (j : Int) < (n : Int) := by omega
          have j0 : (0 : Int) ≤ (i : Int) := by omega
          have j1 : (i : Int) < (n : Int) := by omega
          have kp : decide (0 < j) = true := decide_eq_true (by omega)
          obtain ⟨x0, x1⟩ := wx
          obtain ⟨y0, y1⟩ := wy
          have HI := Lib.hid hi; clear hi hj0
          have HX := Lib.hid hx; clear hx
          have HYY := Lib.hid hy; clear hy
          go_wp2_with fail
          apply Mem.atWp
          · exact memA
          clear hM
          intro hM
          refine AtT.startA hM hM 16 (by kernel_rfl) ?_
          clear hM
          intro wd hM
          have hS := hM
          refine AtT.tk 0 ?_ 18 ?_ hS ?_
          rotate_left
          · (intro wS hSw; (try dsimp only at hSw); go_simp; (try rw [if_neg (by omega)]); try with_reducible rfl)
          simp only [Act.put, sA]
          refine AtT.tk 1 ?_ 19 ?_ hS ?_
          rotate_left
          · (intro wS hSw; (try dsimp only at hSw); go_simp; (try rw [if_neg (by omega)]); try with_reducible rfl)
          simp only [Act.put, sA]
          refine AtT.tk 2 ?_ 20 ?_ hS ?_
          rotate_left
          · (intro wS hSw; (try dsimp only at hSw); go_simp; (try rw [if_neg (by omega)]); try with_reducible rfl)
          simp only [Act.put, sA]
          refine AtT.tk 3 ?_ 21 ?_ hS ?_
          rotate_left
          · (intro wS hSw; (try dsimp only at hSw); go_simp; (try rw [if_neg (by omega)]); try with_reducible rfl)
          simp only [Act.put, sA]
          refine AtT.tk 4 ?_ 22 ?_ hS ?_
          rotate_left
          · (intro wS hSw; (try dsimp only at hSw); go_simp; (try rw [if_neg (by omega)]); try with_reducible rfl)
          simp only [Act.put, sA]
          refine AtT.tk 5 ?_ 23 ?_ hS ?_
          rotate_left
          · (intro wS hSw; (try dsimp only at hSw); go_simp; (try rw [if_neg (by omega)]); try with_reducible rfl)
          simp only [Act.put, sA]
          refine AtT.tk 6 ?_ 24 ?_ hS ?_
          rotate_left
          · (intro wS hSw; (try dsimp only at hSw); go_simp; (try rw [if_neg (by omega)]); try with_reducible rfl)
          simp only [Act.put, sA]
          refine AtT.tk 7 ?_ 25 ?_ hS ?_
          rotate_left
          · (intro wS hSw; (try dsimp only at hSw); have q1 := (HDX.out _ hSw).1; have q2 := (HDX.out _ hSw).2.1; go_simp; (try rw [if_neg (by omega)]); try with_reducible rfl)
          simp only [Act.put, sA]
          refine AtT.tk 8 ?_ 26 ?_ hS ?_
          rotate_left
          · (intro wS hSw; (try dsimp only at hSw); have q1 := (HDX.out _ hSw).1; have q2 := (HDX.out _ hSw).2.1; go_simp; (try rw [if_neg (by omega)]); try with_reducible rfl)
          simp only [Act.put, sA]
          refine AtT.tk 9 ?_ 27 ?_ hS ?_
          rotate_left
          · (intro wS hSw; (try dsimp only at hSw); go_simp; (try rw [if_neg (by omega)]); try with_reducible rfl)
          simp only [Act.put, sA]
          refine AtT.tk 10 ?_ 28 ?_ hS ?_
          rotate_left
          · (intro wS hSw; (try dsimp only at hSw); go_simp; (try rw [if_neg (by omega)]); try with_reducible rfl)
          simp only [Act.put, sA]
          refine AtT.tk 11 ?_ 29 ?_ hS ?_
          rotate_left
          · (intro wS hSw; (try dsimp only at hSw); go_simp; (try rw [if_neg (by omega)]); try with_reducible rfl)
          simp only [Act.put, sA]
          refine AtT.tk 12 ?_ 30 ?_ hS ?_
          rotate_left
          · (intro wS hSw; (try dsimp only at hSw); have q1 := (HDX.out _ hSw).1; have q2 := (HDX.out _ hSw).2.1; go_simp; (try rw [if_neg (by omega)]); try with_reducible rfl)
          simp only [Act.put, sA]
          refine AtT.tk 13 ?_ 31 ?_ hS ?_
          rotate_left
          · (intro wS hSw; (try dsimp only at hSw); have q1 := (HDX.out _ hSw).1; have q2 := (HDX.out _ hSw).2.1; go_simp; (try rw [if_neg (by omega)]); try with_reducible rfl)
          simp only [Act.put, sA]
          refine AtT.only (i := 14) (by kernel_rfl) rfl rfl ?_
          intro K hK
          go_simp
          refine (HC.out x HX.out y HYY.out _ hM.tail).mono ?_
          rintro e w2 ⟨⟨r, rfl, hr⟩, hb⟩
          have HR := Lib.hid hr; clear hr
          replace hM := hM.ext hb
          clear hb
          try dsimp only
          refine hK.out _ _ (hM) ?_
          clear hK K hS
          have hS := hM
          refine AtT.tk 15 ?_ 33 ?_ hS ?_
          rotate_left
          · (intro wS hSw; (try dsimp only at hSw); go_simp; (try rw [if_neg (by omega)]); try with_reducible rfl)
          simp only [Act.put, sA]
          refine AtT.last (by kernel_rfl) rfl (by kernel_rfl) ?_
          intro K hK
          clear hS
          go_simp
          refine hK.out _ _ ?_
          clear hK K
          cases hl : lt x y
          · have hr2 : 0 ≤ r := by have := HR.out; rw [hl] at this; simpa using this
            go_wp2
            go_roundw
            case rel => exact ⟨k + 1, by omega, by omega, by go_num, by
              rw [HST.out, HSK.out, HSS.out, if_neg (by rw [hl]; simp)]
              exact hM⟩
            case measure => simp [intOf]; omega
          · have hr2 : r < 0 := by have := HR.out; rw [hl] at this; simpa using this
            have HLT := Lib.hid hl; clear hl
            go_wp2_with fail
            have d1 := (HDX.out _ hM).1
            have d2 := (HDX.out _ hM).2.1
            have d3 := (HDX.out _ hM).2.2
            have hne : (j : Nat) ≠ i := by have := HI.out; omega
            go_region
            all_goals
              clear d1 d2 d3
              go_wp2
              go_roundw
              case rel =>
                refine ⟨i, (zs.set j y).set i x, by have := HI.out; omega, rfl, by simp [HZL.out], fun z hz => HZM.out z (HSW.out z hz), by rw [HSK.out, HSS.out, if_pos HLT.out], ?_⟩
                (exact memA)
              case measure => simp [intOf]; have := HI.out; omega
    · obtain rfl : k = n := by omega
      go_wp2
      go_end0
      exact ⟨rfl, by rw [HY.out]; exact hM⟩
end Go.Proofs.YtjnbdgldpmmamaaGreat
