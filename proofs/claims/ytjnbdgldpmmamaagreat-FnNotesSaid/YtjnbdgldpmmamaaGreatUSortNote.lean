/-
  Library: insertion sort over records Note.
-/
import Derived.Test.YtjnbdgldpmmamaaGreatUSeason
import Derived.Test.YtjnbdgldpmmamaaGreatUMissP
import Derived.Deep.DeepCutAuto
import Derived.RegionTactic
/-
  Library: insertion sort over records Note.
-/
namespace Go.Proofs.YtjnbdgldpmmamaaGreat
set_option linter.unusedSimpArgs false
set_option linter.unusedVariables false
open Go.RowKit

/-- what a comparing function answers in the worlds of a call that sorts -/
def ComparesNote (f : FuncId) (caps : Array Value) (lt : NoteI → NoteI → Bool) (B : Nat) (w0 : World) (G : List Ent) (xs : List NoteI) : Prop :=
  ∀ x ∈ xs, ∀ y ∈ xs, ∀ w', Mem B w0 w' G → Calls Tryz.prog f (#[x.val, y.val] ++ caps) w' fun e w'' => (∃ r : Int, e = .returned (.int .i64 r) ∧ decide (r < 0) = lt x y) ∧ Below w'.heap.size w' w''

set_option maxRecDepth 100000 in
set_option maxHeartbeats 4000000 in
theorem insertionNote_any (B : Nat) (w0 : World) (G : List Ent) (g n c : Nat) (xs : List NoteI) (f : FuncId) (caps : Array Value) (lt : NoteI → NoteI → Bool) (w : World) (hM : Mem B w0 w (owE FNote 40 (some ⟨g, 0, none⟩) n c xs :: G)) (hn : n ≤ 1000)
    (hcf : ∀ args w, (callFunc f args).run Tryz.prog w = .ok (.enter f args) w) (hc : ComparesNote f caps lt B w0 G xs) :
    Calls Tryz.prog 97 #[.slice (some ⟨g, 0, none⟩) n c, .int .i64 0, .int .i64 n, .func (.func f) #[] caps] w fun e w' => e = .returned (.tuple #[]) ∧ Mem B w0 w' (owE FNote 40 (some ⟨g, 0, none⟩) n c (isortG NoteI.zero lt xs) :: G) := by
  have HL := Lib.hid (hM.ow .here).len
  have HW := Lib.hid (hM.ow .here).rd.wf
  have HC := Lib.hid hc; clear hc
  have hs : isortG NoteI.zero lt xs = isortH NoteI.zero lt n xs := by rw [isortG, (hM.ow .here).len]
  rw [hs]
  clear hs
  go_enter Tryz.func97, Tryz.ntmps97
  by_cases h0 : n = 0
  · subst h0
    go_wp2
    go_loopw [8] (fun i wr => i = .int .i64 1 ∧ wr = w) (fun _ _ => 0)
    case atStart => exact ⟨rfl, rfl⟩
    case round =>
      obtain ⟨rfl, rfl⟩ := hrel
      go_wp2
      go_end0
      exact ⟨rfl, hM⟩
  go_wp2
  go_loopw [8] (fun i wr => ∃ k : Nat, 1 ≤ k ∧ k ≤ n ∧ i = .int .i64 k ∧ Mem B w0 wr (owE FNote 40 (some ⟨g, 0, none⟩) n c (isortH NoteI.zero lt k xs) :: G)) (fun i _ => n - (intOf i).toNat)
  case atStart => exact ⟨1, by omega, by omega, rfl, hM⟩
  case round =>
    clear hM
    obtain ⟨k, hk1, hk, rfl, hM⟩ := hrel
    obtain ⟨ys, hys⟩ : ∃ ys, isortH NoteI.zero lt k xs = ys := ⟨_, rfl⟩
    have hyl : ys.length = n := by rw [← hys, isortH_length, HL.out]
    have hym : ∀ z ∈ ys, z ∈ xs := by rw [← hys]; exact isortH_mem k xs (by rw [HL.out]; exact hk)
    have hst : isortH NoteI.zero lt (k + 1) xs = sinkG NoteI.zero lt k ys := by rw [isortH, hys]
    rw [hys] at hM
    have HY := Lib.hid hys; clear hys
    have HYL := Lib.hid hyl; clear hyl
    have HYM := Lib.hid hym; clear hym
    have HST := Lib.hid hst; clear hst
    by_cases hlt : k < n
    · go_wp2
      go_loopw [9] (fun s wq => ∃ (j : Nat) (zs : List NoteI), j ≤ k ∧ s = .int .i64 j ∧ zs.length = n ∧ (∀ z ∈ zs, z ∈ xs) ∧ sinkG NoteI.zero lt k ys = sinkG NoteI.zero lt j zs ∧ Mem B w0 wq (owE FNote 40 (some ⟨g, 0, none⟩) n c zs :: G)) (fun s _ => (intOf s).toNat)
      case atStart => exact ⟨k, ys, Nat.le_refl _, rfl, HYL.out, HYM.out, rfl, hM⟩
      case round =>
        clear hM
        obtain ⟨j, zs, hj, rfl, hzl, hzm, hsk, hM⟩ := hrel
        have HZL := Lib.hid hzl; clear hzl
        have HZM := Lib.hid hzm; clear hzm
        have HSK := Lib.hid hsk; clear hsk
        by_cases hj0 : j = 0
        · have kz : decide (0 < j) = false := decide_eq_false (by omega)
          have HJ := Lib.hid hj0; clear hj0
          go_wp2_with fail
          apply Mem.atWp
          · exact memA
          clear hM
          intro hM
          refine AtT.startA hM hM 16 (by kernel_rfl) ?_
          clear hM
          intro wd hM
          have hS := hM
          refine AtT.tk 0 ?_ 18 ?_ hS ?_
          rotate_left
          · (intro wS hSw; (try dsimp only at hSw); go_simp; (try rw [if_neg (by omega)]); try with_reducible rfl)
          simp only [Act.put, sA]
          refine AtT.tk 1 ?_ 19 ?_ hS ?_
          rotate_left
          · (intro wS hSw; (try dsimp only at hSw); go_simp; (try rw [if_neg (by omega)]); try with_reducible rfl)
          simp only [Act.put, sA]
          refine AtT.tk 2 ?_ 20 ?_ hS ?_
          rotate_left
          · (intro wS hSw; (try dsimp only at hSw); go_simp; (try rw [if_neg (by omega)]); try with_reducible rfl)
          simp only [Act.put, sA]
          refine AtT.tk 3 ?_ 21 ?_ hS ?_
          rotate_left
          · (intro wS hSw; (try dsimp only at hSw); go_simp; (try rw [if_neg (by omega)]); try with_reducible rfl)
          simp only [Act.put, sA]
          refine AtT.tn 4 22 hS ?_
          simp only [Act.put, sA]
          refine AtT.tn 5 23 hS ?_
          simp only [Act.put, sA]
          refine AtT.tn 6 24 hS ?_
          simp only [Act.put, sA]
          refine AtT.tn 7 25 hS ?_
          simp only [Act.put, sA]
          refine AtT.tn 8 26 hS ?_
          simp only [Act.put, sA]
          refine AtT.tn 9 27 hS ?_
          simp only [Act.put, sA]
          refine AtT.tn 10 28 hS ?_
          simp only [Act.put, sA]
          refine AtT.tn 11 29 hS ?_
          simp only [Act.put, sA]
          refine AtT.tn 12 30 hS ?_
          simp only [Act.put, sA]
          refine AtT.tn 13 31 hS ?_
          simp only [Act.put, sA]
          refine AtT.tn 14 32 hS ?_
          simp only [Act.put, sA]
          refine AtT.tn 15 33 hS ?_
          simp only [Act.put, sA]
          refine AtT.last (by kernel_rfl) rfl (by kernel_rfl) ?_
          intro K hK
          clear hS
          go_simp
          refine hK.out _ _ ?_
          clear hK K
          go_wp2
          go_roundw
          case rel => exact ⟨k + 1, by omega, by omega, by go_num, by
            rw [HST.out, HSK.out, HJ.out, sinkG]
            exact Mem.undrew (Mem.drew hM)⟩
          case measure => simp [intOf]; omega
        · obtain ⟨i, hi⟩ : ∃ i, j = i + 1 := ⟨j - 1, by omega⟩
          have hx := HZM.out _ (getD_memO (d := NoteI.zero) (xs := zs) (k := j) (by rw [HZL.out]; omega))
          have hy := HZM.out _ (getD_memO (d := NoteI.zero) (xs := zs) (k := i) (by rw [HZL.out]; omega))
          have wx := HW.out _ hx
          have wy := HW.out _ hy
          have hsw := swapG_mem (d := NoteI.zero) (xs := zs) (j := i) (by rw [HZL.out]; omega)
          have hss : sinkG NoteI.zero lt j zs = if lt (zs.getD j NoteI.zero) (zs.getD i NoteI.zero) then sinkG NoteI.zero lt i ((zs.set j (zs.getD i NoteI.zero)).set i (zs.getD j NoteI.zero)) else zs := by subst hi; rw [sinkG]
          rw [← hi] at hsw
          obtain ⟨x, ex⟩ : ∃ x, zs.getD j NoteI.zero = x := ⟨_, rfl⟩
          obtain ⟨y, ey⟩ : ∃ y, zs.getD i NoteI.zero = y := ⟨_, rfl⟩
          rw [ex, ey] at hss hsw
          rw [ex] at hx wx
          rw [ey] at hy wy
          have HSS := Lib.hid hss; clear hss
          have HSW := Lib.hid hsw; clear hsw
          have EX := Lib.hid ex; clear ex
          have EY := Lib.hid ey; clear ey
          have hjI : IntKind.i64.wrap ((j : Int) - 1) = (i : Int) := by rw [wrap_in (by omega)]; omega
          have i0 : (0 : Int) ≤ (j : Int) := by omega
          have i1 : (j : Int) < (n : Int) := by omega
          have j0 : (0 : Int) ≤ (i : Int) := by omega
          have j1 : (i : Int) < (n : Int) := by omega
          have hjn : j < n := by omega
          have hin : i < n := by omega
          have kp : decide (0 < j) = true := decide_eq_true (by omega)
          have HI := Lib.hid hi; clear hi hj0
          have HX := Lib.hid hx; clear hx
          have HYY := Lib.hid hy; clear hy
          have HWX := Lib.hid wx; have HWY := Lib.hid wy; clear wx wy
          go_wp2_with fail
          apply Mem.atWp
          · exact memA
          clear hM
          intro hM
          refine AtT.startA hM hM 16 (by kernel_rfl) ?_
          clear hM
          intro wd hM
          have hS := hM
          refine AtT.tk 0 ?_ 18 ?_ hS ?_
          rotate_left
          · (intro wS hSw; (try dsimp only at hSw); go_simp; (try rw [if_neg (by omega)]); try with_reducible rfl)
          simp only [Act.put, sA]
          refine AtT.tk 1 ?_ 19 ?_ hS ?_
          rotate_left
          · (intro wS hSw; (try dsimp only at hSw); go_simp; (try rw [if_neg (by omega)]); try with_reducible rfl)
          simp only [Act.put, sA]
          refine AtT.tk 2 ?_ 20 ?_ hS ?_
          rotate_left
          · (intro wS hSw; (try dsimp only at hSw); go_simp; (try rw [if_neg (by omega)]); try with_reducible rfl)
          simp only [Act.put, sA]
          refine AtT.tk 3 ?_ 21 ?_ hS ?_
          rotate_left
          · (intro wS hSw; (try dsimp only at hSw); go_simp; (try rw [if_neg (by omega)]); try with_reducible rfl)
          simp only [Act.put, sA]
          refine AtT.tk 4 ?_ 22 ?_ hS ?_
          rotate_left
          · (intro wS hSw; (try dsimp only at hSw); go_simp; (try rw [if_neg (by omega)]); try with_reducible rfl)
          simp only [Act.put, sA]
          refine AtT.tk 5 ?_ 23 ?_ hS ?_
          rotate_left
          · (intro wS hSw; (try dsimp only at hSw); go_simp; (try rw [if_neg (by omega)]); try with_reducible rfl)
          simp only [Act.put, sA]
          refine AtT.tk 6 ?_ 24 ?_ hS ?_
          rotate_left
          · (intro wS hSw; (try dsimp only at hSw); go_simp; (try rw [if_neg (by omega)]); try with_reducible rfl)
          simp only [Act.put, sA]
          refine AtT.tk 7 ?_ 25 ?_ hS ?_
          rotate_left
          · (intro wS hSw; (try dsimp only at hSw); have q1 := (hSw.ow .here).cellNote hjn; have q2 := (hSw.ow .here).cellNote hin; rw [EX.out] at q1; rw [EY.out] at q2; have r0 := q1.1; have s0 := q2.1; have r1 := q1.2.1; have s1 := q2.2.1; have r2 := q1.2.2.1; have s2 := q2.2.2.1; have r3 := q1.2.2.2; have s3 := q2.2.2.2; go_simp; (try rw [if_neg (by omega)]); try with_reducible rfl)
          simp only [Act.put, sA]
          refine AtT.tk 8 ?_ 26 ?_ hS ?_
          rotate_left
          · (intro wS hSw; (try dsimp only at hSw); have q1 := (hSw.ow .here).cellNote hjn; have q2 := (hSw.ow .here).cellNote hin; rw [EX.out] at q1; rw [EY.out] at q2; have r0 := q1.1; have s0 := q2.1; have r1 := q1.2.1; have s1 := q2.2.1; have r2 := q1.2.2.1; have s2 := q2.2.2.1; have r3 := q1.2.2.2; have s3 := q2.2.2.2; go_simp; (try rw [if_neg (by omega)]); try with_reducible rfl)
          simp only [Act.put, sA]
          refine AtT.tk 9 ?_ 27 ?_ hS ?_
          rotate_left
          · (intro wS hSw; (try dsimp only at hSw); go_simp; (try rw [if_neg (by omega)]); try with_reducible rfl)
          simp only [Act.put, sA]
          refine AtT.tk 10 ?_ 28 ?_ hS ?_
          rotate_left
          · (intro wS hSw; (try dsimp only at hSw); go_simp; (try rw [if_neg (by omega)]); try with_reducible rfl)
          simp only [Act.put, sA]
          refine AtT.tk 11 ?_ 29 ?_ hS ?_
          rotate_left
          · (intro wS hSw; (try dsimp only at hSw); go_simp; (try rw [if_neg (by omega)]); try with_reducible rfl)
          simp only [Act.put, sA]
          refine AtT.tk 12 ?_ 30 ?_ hS ?_
          rotate_left
          · (intro wS hSw; (try dsimp only at hSw); have q1 := (hSw.ow .here).cellNote hjn; have q2 := (hSw.ow .here).cellNote hin; rw [EX.out] at q1; rw [EY.out] at q2; have r0 := q1.1; have s0 := q2.1; have r1 := q1.2.1; have s1 := q2.2.1; have r2 := q1.2.2.1; have s2 := q2.2.2.1; have r3 := q1.2.2.2; have s3 := q2.2.2.2; go_simp; (try rw [if_neg (by omega)]); try with_reducible rfl)
          simp only [Act.put, sA]
          refine AtT.tk 13 ?_ 31 ?_ hS ?_
          rotate_left
          · (intro wS hSw; (try dsimp only at hSw); have q1 := (hSw.ow .here).cellNote hjn; have q2 := (hSw.ow .here).cellNote hin; rw [EX.out] at q1; rw [EY.out] at q2; have r0 := q1.1; have s0 := q2.1; have r1 := q1.2.1; have s1 := q2.2.1; have r2 := q1.2.2.1; have s2 := q2.2.2.1; have r3 := q1.2.2.2; have s3 := q2.2.2.2; go_simp; (try rw [if_neg (by omega)]); try with_reducible rfl)
          simp only [Act.put, sA]
          refine AtT.only (i := 14) (by kernel_rfl) rfl rfl ?_
          intro K hK
          go_simp
          refine (HC.out x HX.out y HYY.out _ hM.tail).mono ?_
          rintro e w2 ⟨⟨r, rfl, hr⟩, hb⟩
          have HR := Lib.hid hr; clear hr
          replace hM := hM.ext hb
          clear hb
          try dsimp only
          refine hK.out _ _ (hM) ?_
          clear hK K hS
          have hS := hM
          refine AtT.tk 15 ?_ 33 ?_ hS ?_
          rotate_left
          · (intro wS hSw; (try dsimp only at hSw); go_simp; (try rw [if_neg (by omega)]); try with_reducible rfl)
          simp only [Act.put, sA]
          refine AtT.last (by kernel_rfl) rfl (by kernel_rfl) ?_
          intro K hK
          clear hS
          go_simp
          refine hK.out _ _ ?_
          clear hK K
          cases hl : lt x y
          · have hr2 : 0 ≤ r := by have := HR.out; rw [hl] at this; simpa using this
            go_wp2
            go_roundw
            case rel => exact ⟨k + 1, by omega, by omega, by go_num, by
              rw [HST.out, HSK.out, HSS.out, if_neg (by rw [hl]; simp)]
              exact hM⟩
            case measure => simp [intOf]; omega
          · have hr2 : r < 0 := by have := HR.out; rw [hl] at this; simpa using this
            have HLT := Lib.hid hl; clear hl
            go_upto_region 6 with fail
            apply Mem.atWpA
            · exact memA
            clear hM
            intro wst hM
            (try simp only [World.size_alloc, World.size_setCell, World.heap_drewN, heapDrew, Nat.add_assoc, Nat.reduceAdd, sA, List.cons_append, List.nil_append] at hM)
            have hne : (j : Nat) ≠ i := by have := HI.out; omega
            refine AtT.startA hM.tail hM 17 (by kernel_rfl) ?_
            clear hM
            intro wd hM
            have hS := hM.tail
            refine AtT.tk 0 ?_ 37 ?_ hS ?_
            rotate_left
            · (intro wS hSw; (try dsimp only at hSw); go_simp; (try rw [if_neg (by omega)]); try with_reducible rfl)
            simp only [Act.put, sA]
            refine AtT.tk 1 ?_ 38 ?_ hS ?_
            rotate_left
            · (intro wS hSw; (try dsimp only at hSw); go_simp; (try rw [if_neg (by omega)]); try with_reducible rfl)
            simp only [Act.put, sA]
            refine AtT.tk 2 ?_ 39 ?_ hS ?_
            rotate_left
            · (intro wS hSw; (try dsimp only at hSw); go_simp; (try rw [if_neg (by omega)]); try with_reducible rfl)
            simp only [Act.put, sA]
            refine AtT.tk 3 ?_ 40 ?_ hS ?_
            rotate_left
            · (intro wS hSw; (try dsimp only at hSw); go_simp; (try rw [if_neg (by omega)]); try with_reducible rfl)
            simp only [Act.put, sA]
            refine AtT.tk 4 ?_ 41 ?_ hS ?_
            rotate_left
            · (intro wS hSw; (try dsimp only at hSw); go_simp; (try rw [if_neg (by omega)]); try with_reducible rfl)
            simp only [Act.put, sA]
            refine AtT.tk 5 ?_ 42 ?_ hS ?_
            rotate_left
            · (intro wS hSw; (try dsimp only at hSw); go_simp; (try rw [if_neg (by omega)]); try with_reducible rfl)
            simp only [Act.put, sA]
            refine AtT.tk 6 ?_ 43 ?_ hS ?_
            rotate_left
            · (intro wS hSw; (try dsimp only at hSw); go_simp; (try rw [if_neg (by omega)]); try with_reducible rfl)
            simp only [Act.put, sA]
            refine AtT.tk 7 ?_ 44 ?_ hS ?_
            rotate_left
            · (intro wS hSw; (try dsimp only at hSw); go_simp; (try rw [if_neg (by omega)]); try with_reducible rfl)
            simp only [Act.put, sA]
            refine AtT.tk 8 ?_ 45 ?_ hS ?_
            rotate_left
            · (intro wS hSw; (try dsimp only at hSw); go_simp; (try rw [if_neg (by omega)]); try with_reducible rfl)
            simp only [Act.put, sA]
            refine AtT.tk 10 ?_ 47 ?_ hS ?_
            rotate_left
            · (intro wS hSw; (try dsimp only at hSw); go_simp; (try rw [if_neg (by omega)]); try with_reducible rfl)
            simp only [Act.put, sA]
            refine AtT.tk 11 ?_ 48 ?_ hS ?_
            rotate_left
            · (intro wS hSw; (try dsimp only at hSw); go_simp; (try rw [if_neg (by omega)]); try with_reducible rfl)
            simp only [Act.put, sA]
            refine AtT.tk 12 ?_ 49 ?_ hS ?_
            rotate_left
            · (intro wS hSw; (try dsimp only at hSw); go_simp; (try rw [if_neg (by omega)]); try with_reducible rfl)
            simp only [Act.put, sA]
            refine AtT.two (i := 9) (j := 13) (by kernel_rfl) rfl rfl rfl rfl ?_ ?_
            · skip
              intro K hK
              have hc := (hM.ow .here).cellNote hin
              rw [EY.out] at hc
              have hc0 := hc.1
              have hc1 := hc.2.1
              have hc2 := hc.2.2.1
              have hc3 := hc.2.2.2
              go_simp
              clear hc hc0 hc1 hc2 hc3
              try dsimp only
              refine hK.out _ _ (hM.tail) ?_
              clear hK K hS
              have hS := hM.tail
              refine AtT.only (i := 13) (by kernel_rfl) rfl rfl ?_
              intro K hK
              have hc := (hM.ow .here).cellNote hjn
              rw [EX.out] at hc
              have hc0 := hc.1
              have hc1 := hc.2.1
              have hc2 := hc.2.2.1
              have hc3 := hc.2.2.2
              go_simp
              clear hc hc0 hc1 hc2 hc3
              try dsimp only
              refine hK.out _ _ (hM.tail) ?_
              clear hK K hS
              have hS := hM.tail
              refine AtT.tk 14 ?_ 51 ?_ hS ?_
              rotate_left
              · (intro wS hSw; (try dsimp only at hSw); go_simp; (try rw [if_neg (by omega)]); try with_reducible rfl)
              simp only [Act.put, sA]
              refine AtT.only (i := 15) (by kernel_rfl) rfl rfl ?_
              intro K hK
              have hc := (hM.ow .here).cellNote hjn
              have hc0 := hc.1
              have hc1 := hc.2.1
              have hc2 := hc.2.2.1
              have hc3 := hc.2.2.2
              have hfe := (hM.ow .here).free
              go_simp
              clear hc hc0 hc1 hc2 hc3 hfe
              replace hM := hM.putNote hjn y HWY.out .here
              try dsimp only
              refine hK.out _ _ (hM.tail) ?_
              clear hK K hS
              have hS := hM.tail
              refine AtT.tk 16 ?_ 52 ?_ hS ?_
              rotate_left
              · (intro wS hSw; (try dsimp only at hSw); go_simp; (try rw [if_neg (by omega)]); try with_reducible rfl)
              simp only [Act.put, sA]
              refine AtT.last (by kernel_rfl) rfl (by kernel_rfl) ?_
              intro K hK
              clear hS
              have hc := (hM.ow .here).cellNote hin
              have hc0 := hc.1
              have hc1 := hc.2.1
              have hc2 := hc.2.2.1
              have hc3 := hc.2.2.2
              have hfe := (hM.ow .here).free
              go_simp
              refine hK.out _ _ ?_
              clear hK K
              have hM2 := Lib.hid (hM.putNote hin x HWX.out .here)
              clear hM hc hc0 hc1 hc2 hc3 hfe
              go_wp2
              go_roundw
              case rel => exact ⟨i, (zs.set j y).set i x, by have := HI.out; omega, rfl, by simp [HZL.out], fun z hz => HZM.out z (HSW.out z hz), by rw [HSK.out, HSS.out, if_pos HLT.out], hM2.out⟩
              case measure => simp [intOf]; have := HI.out; omega
            · skip
              intro K hK
              have hc := (hM.ow .here).cellNote hjn
              rw [EX.out] at hc
              have hc0 := hc.1
              have hc1 := hc.2.1
              have hc2 := hc.2.2.1
              have hc3 := hc.2.2.2
              go_simp
              clear hc hc0 hc1 hc2 hc3
              try dsimp only
              refine hK.out _ _ (hM.tail) ?_
              clear hK K hS
              have hS := hM.tail
              refine AtT.only (i := 9) (by kernel_rfl) rfl rfl ?_
              intro K hK
              have hc := (hM.ow .here).cellNote hin
              rw [EY.out] at hc
              have hc0 := hc.1
              have hc1 := hc.2.1
              have hc2 := hc.2.2.1
              have hc3 := hc.2.2.2
              go_simp
              clear hc hc0 hc1 hc2 hc3
              try dsimp only
              refine hK.out _ _ (hM.tail) ?_
              clear hK K hS
              have hS := hM.tail
              refine AtT.tk 14 ?_ 51 ?_ hS ?_
              rotate_left
              · (intro wS hSw; (try dsimp only at hSw); go_simp; (try rw [if_neg (by omega)]); try with_reducible rfl)
              simp only [Act.put, sA]
              refine AtT.only (i := 15) (by kernel_rfl) rfl rfl ?_
              intro K hK
              have hc := (hM.ow .here).cellNote hjn
              have hc0 := hc.1
              have hc1 := hc.2.1
              have hc2 := hc.2.2.1
              have hc3 := hc.2.2.2
              have hfe := (hM.ow .here).free
              go_simp
              clear hc hc0 hc1 hc2 hc3 hfe
              replace hM := hM.putNote hjn y HWY.out .here
              try dsimp only
              refine hK.out _ _ (hM.tail) ?_
              clear hK K hS
              have hS := hM.tail
              refine AtT.tk 16 ?_ 52 ?_ hS ?_
              rotate_left
              · (intro wS hSw; (try dsimp only at hSw); go_simp; (try rw [if_neg (by omega)]); try with_reducible rfl)
              simp only [Act.put, sA]
              refine AtT.last (by kernel_rfl) rfl (by kernel_rfl) ?_
              intro K hK
              clear hS
              have hc := (hM.ow .here).cellNote hin
              have hc0 := hc.1
              have hc1 := hc.2.1
              have hc2 := hc.2.2.1
              have hc3 := hc.2.2.2
              have hfe := (hM.ow .here).free
              go_simp
              refine hK.out _ _ ?_
              clear hK K
              have hM2 := Lib.hid (hM.putNote hin x HWX.out .here)
              clear hM hc hc0 hc1 hc2 hc3 hfe
              go_wp2
              go_roundw
              case rel => exact ⟨i, (zs.set j y).set i x, by have := HI.out; omega, rfl, by simp [HZL.out], fun z hz => HZM.out z (HSW.out z hz), by rw [HSK.out, HSS.out, if_pos HLT.out], hM2.out⟩
              case measure => simp [intOf]; have := HI.out; omega
    · obtain rfl : k = n := by omega
      go_wp2
      go_end0
      exact ⟨rfl, by rw [HY.out]; exact hM⟩
end Go.Proofs.YtjnbdgldpmmamaaGreat
