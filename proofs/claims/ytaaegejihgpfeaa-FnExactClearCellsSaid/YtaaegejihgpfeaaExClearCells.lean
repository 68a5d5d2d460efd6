import Derived.Test.YtaaegejihgpfeaaClear2
namespace Go.Proofs.Ytaaegejihgpfeaa
set_option linter.unusedSimpArgs false
set_option linter.unusedVariables false
open Go.RowKit

set_option maxRecDepth 100000 in
set_option maxHeartbeats 8000000 in
theorem FnExactClearCells_walk (W0 H0 : Int) (a0 : Option Addr) (n0 c0 : Nat) (xs0 : List Int) (a1 : Option Addr) (n1 c1 : Nat) (xs1 : List Int) (w : World) (I0 : Ints w a0 n0 c0 xs0) (I1 : Ints w a1 n1 c1 xs1) :
    Calls Try.prog 6 #[.agg #[.int .i64 W0, .int .i64 H0, .slice a0 n0 c0], .slice a1 n1 c1] w fun e w' => e = .returned (.bool true) ∧ Below w.heap.size w w' := by
  have hr0 := I0.room
  have hr1 := I1.room
  by_cases hl1 : (1048576 : Int) < n1
  · go_enter Try.func6, Try.ntmps6
    go_wp2
    go_ret
    exact ⟨rfl, by (repeat' (first | exact Below.refl _ _ | with_reducible refine Below.setCell ?_ (by first | omega | (simp; done) | (simp; omega)) _ | with_reducible refine Below.alloc ?_ (by first | omega | (simp; done) | (simp; omega)) _ | with_reducible refine Below.drew ?_ | with_reducible refine bdrewN ?_ _))⟩
  have hn1 : (n1 : Int) ≤ 1048576 := by omega
  obtain ⟨z, hz'⟩ : ∃ z, szF n0 1048576 = z := ⟨_, rfl⟩
  have HZ := Lib.hid hz'; clear hz'
  by_cases hz : z < 0
  · go_enter Try.func6, Try.ntmps6
    go_wp2_with fail
    refine (szTerrain_any _ _ _ _ _ 1048576 _ hr0 (by omega)).mono ?_
    rw [HZ.out]
    rintro e w1 ⟨rfl, hb1⟩
    go_wp2
    go_ret
    exact ⟨rfl, by (repeat' (first | exact Below.refl _ _ | with_reducible refine Below.setCell ?_ (by first | omega | (simp; done) | (simp; omega)) _ | with_reducible refine Below.alloc ?_ (by first | omega | (simp; done) | (simp; omega)) _ | with_reducible refine Below.drew ?_ | with_reducible refine bdrewN ?_ _ | with_reducible refine Below.trans ?_ (Below.mono hb1 (by first | omega | (simp; done) | (simp; omega)))))⟩
  have hzr : z ≤ 1048576 ∧ (n0 : Int) ≤ 1048576 := by
    have h1 := HZ.out
    unfold szF at h1
    split at h1 <;> omega
  obtain ⟨hz1, hn0⟩ := hzr
  have hw : Far w w := Far.refl w
  replace I0 := I0.alloc (.cells #[.int .i64 W0, .int .i64 H0, .slice a0 n0 c0] 24)
  replace I1 := I1.alloc (.cells #[.int .i64 W0, .int .i64 H0, .slice a0 n0 c0] 24)
  replace hw := hw.alloc (.cells #[.int .i64 W0, .int .i64 H0, .slice a0 n0 c0] 24)
  have R0 : Row (w.alloc (.cells #[.int .i64 W0, .int .i64 H0, .slice a0 n0 c0] 24)) w.heap.size #[.int .i64 W0, .int .i64 H0, .slice a0 n0 c0] := Row.new _ _ rfl _ _
  have hE := Far.refl (w.alloc (.cells #[.int .i64 W0, .int .i64 H0, .slice a0 n0 c0] 24))
  go_enter Try.func6, Try.ntmps6
  go_wp2_with fail
  refine (szTerrain_any _ _ _ _ _ 1048576 _ hr0 (by omega)).mono ?_
  rw [HZ.out]
  rintro e w1 ⟨rfl, hb1⟩
  replace hE := hE.ext hb1
  have s1 := hb1.size
  try simp at s1
  clear hb1
  have r0 := R0.ext hE.below
  have kr0 := r0.cell
  have lr0 := r0.lt
  go_wp2_with fail
  clear kr0 lr0
  clear r0
  refine (toTerrain_any _ _ _ _ _ xs0 _ (I0.ext hE.below)).mono ?_
  rintro e w2 ⟨as0, cs0, rfl, Os0, hb1⟩
  replace hE := hE.ext hb1
  have s2 := hb1.size
  try simp at s2
  clear hb1
  have r0 := R0.ext hE.below
  have kr0 := r0.cell
  have lr0 := r0.lt
  go_wp2_with fail
  clear kr0 lr0
  refine (toIntS_any _ _ _ xs1 _ (I1.ext hE.below)).mono ?_
  rintro e w3 ⟨as1, cs1, rfl, Os1, hb1⟩
  replace hE := hE.ext hb1
  replace Os0 := Os0.ext hb1
  have s3 := hb1.size
  try simp at s3
  clear hb1
  go_wp2_with fail
  obtain ⟨⟨⟨Wr0, Hr0, zs0⟩, v1⟩, hq0⟩ : ∃ r, clrR W0 H0 xs0 xs1 = r := ⟨_, rfl⟩
  have HQ0 := Lib.hid hq0; clear hq0
  refine (specClear_any _ _ _ _ _ xs0 _ _ _ xs1 _ Os0.ints Os1.ints).mono ?_
  rw [HQ0.out]
  rintro e w4 ⟨aw0, nw0, cw0, rfl, Ow0, hb1⟩
  replace hE := hE.ext hb1
  replace Os0 := Os0.ext hb1
  replace Os1 := Os1.ext hb1
  have s4 := hb1.size
  try simp at s4
  clear hb1
  clear Os0 Os1
  try dsimp only
  replace hE := hE.alloc (.cells #[.int .i64 Wr0, .int .i64 Hr0, .slice aw0 nw0 cw0] 26)
  replace Ow0 := Ow0.alloc (.cells #[.int .i64 Wr0, .int .i64 Hr0, .slice aw0 nw0 cw0] 26)
  have Rw0 : Row (w4.alloc (.cells #[.int .i64 Wr0, .int .i64 Hr0, .slice aw0 nw0 cw0] 26)) w4.heap.size #[.int .i64 Wr0, .int .i64 Hr0, .slice aw0 nw0 cw0] := Row.new _ _ rfl _ _
  have hF := Far.refl (w4.alloc (.cells #[.int .i64 Wr0, .int .i64 Hr0, .slice aw0 nw0 cw0] 26))
  have QF : (w.alloc (.cells #[.int .i64 W0, .int .i64 H0, .slice a0 n0 c0] 24)).heap.size ≤ (w4.alloc (.cells #[.int .i64 Wr0, .int .i64 Hr0, .slice aw0 nw0 cw0] 26)).heap.size := hE.below.size
  have HQF := Lib.hid QF; clear QF
  have r0 := R0.ext hE.below
  have kr0 := r0.cell
  have lr0 := r0.lt
  go_wp2_with fail
  clear kr0 lr0
  clear r0
  have HLx0 := Lib.hid (show (w4.alloc (.cells #[.int .i64 Wr0, .int .i64 Hr0, .slice aw0 nw0 cw0] 26)).heap.size ≤ (w4.alloc (.cells #[.int .i64 Wr0, .int .i64 Hr0, .slice aw0 nw0 cw0] 26)).heap.size from hF.below.size)
  refine (toTerrain_any _ _ _ _ _ xs0 _ (I0.ext hE.below)).mono ?_
  rintro e w5 ⟨ax0, cx0, rfl, Ox0, hb1⟩
  replace hE := hE.ext hb1
  replace hF := hF.ext hb1
  have s5 := hb1.size
  try simp at s5
  clear hb1
  have HTx0 := Lib.hid Ox0.till
  have HWx0 : w5.heap.size = w5.heap.size := rfl
  clear HWx0
  replace hE := hE.alloc (.cells #[.int .i64 W0, .int .i64 H0, .slice ax0 n0 cx0] 26)
  replace hF := hF.alloc (.cells #[.int .i64 W0, .int .i64 H0, .slice ax0 n0 cx0] 26)
  replace Ox0 := Ox0.alloc (.cells #[.int .i64 W0, .int .i64 H0, .slice ax0 n0 cx0] 26)
  have Rx0 : Row (w5.alloc (.cells #[.int .i64 W0, .int .i64 H0, .slice ax0 n0 cx0] 26)) w5.heap.size #[.int .i64 W0, .int .i64 H0, .slice ax0 n0 cx0] := Row.new _ _ rfl _ _
  have r0 := R0.ext hE.below
  have kr0 := r0.cell
  have lr0 := r0.lt
  go_wp2_with fail
  clear kr0 lr0
  clear r0
  have HLx1 := Lib.hid (show (w4.alloc (.cells #[.int .i64 Wr0, .int .i64 Hr0, .slice aw0 nw0 cw0] 26)).heap.size ≤ (w5.alloc (.cells #[.int .i64 W0, .int .i64 H0, .slice ax0 n0 cx0] 26)).heap.size from hF.below.size)
  refine (toIntS_any _ _ _ xs1 _ (I1.ext hE.below)).mono ?_
  rintro e w6 ⟨ax1, cx1, rfl, Ox1, hb1⟩
  replace hE := hE.ext hb1
  replace hF := hF.ext hb1
  replace Ox0 := Ox0.ext hb1
  replace Rx0 := Rx0.ext hb1
  have s6 := hb1.size
  try simp at s6
  clear hb1
  have HTx1 := Lib.hid Ox1.till
  have HWx1 : w6.heap.size = w6.heap.size := rfl
  clear HWx1
  have kRx0 := Rx0.cell
  have lRx0 := Rx0.lt
  go_wp2_with fail
  clear kRx0 lRx0
  refine (implClear_any _ _ _ _ _ xs0 _ _ _ xs1 _ Ox0.ints Ox1.ints).mono ?_
  rw [HQ0.out]
  rintro e w7 ⟨ag0, ng0, cg0, rfl, Og0, hb1⟩
  replace hE := hE.ext hb1
  replace hF := hF.ext hb1
  replace Ox0 := Ox0.ext hb1
  replace Rx0 := Rx0.ext hb1
  replace Ox1 := Ox1.ext hb1
  have s7 := hb1.size
  try simp at s7
  clear hb1
  have lg0 : ∀ k, blockOf ag0 k → w6.heap.size ≤ k := by simpa using Og0.from
  have HLg0 := Lib.hid lg0; clear lg0
  have HTg0 := Lib.hid Og0.till
  have hng0 := Og0.room
  try dsimp only
  replace hE := hE.alloc (.cells #[.int .i64 Wr0, .int .i64 Hr0, .slice ag0 ng0 cg0] 26)
  replace hF := hF.alloc (.cells #[.int .i64 Wr0, .int .i64 Hr0, .slice ag0 ng0 cg0] 26)
  replace Ox0 := Ox0.alloc (.cells #[.int .i64 Wr0, .int .i64 Hr0, .slice ag0 ng0 cg0] 26)
  replace Rx0 := Rx0.alloc (.cells #[.int .i64 Wr0, .int .i64 Hr0, .slice ag0 ng0 cg0] 26)
  replace Ox1 := Ox1.alloc (.cells #[.int .i64 Wr0, .int .i64 Hr0, .slice ag0 ng0 cg0] 26)
  replace Og0 := Og0.alloc (.cells #[.int .i64 Wr0, .int .i64 Hr0, .slice ag0 ng0 cg0] 26)
  have Rg0 : Row (w7.alloc (.cells #[.int .i64 Wr0, .int .i64 Hr0, .slice ag0 ng0 cg0] 26)) w7.heap.size #[.int .i64 Wr0, .int .i64 Hr0, .slice ag0 ng0 cg0] := Row.new _ _ rfl _ _
  have hbb1 : (v1 != v1) = false := by cases v1 <;> rfl
  have rw0 := Rw0.ext hF.below
  have kRg0 := Rg0.cell
  have lRg0 := Rg0.lt
  have krw0 := rw0.cell
  have lrw0 := rw0.lt
  go_wp2_with fail
  clear kRg0 lRg0 krw0 lrw0
  clear rw0
  refine (eqTerrain_any _ _ _ _ _ zs0 _ _ _ _ _ zs0 _ Og0.ints (Ow0.ints.ext hF.below)).mono ?_
  rw [eqG_refl]
  rintro e w8 ⟨rfl, hb1⟩
  replace hE := hE.ext hb1
  replace hF := hF.ext hb1
  replace Ox0 := Ox0.ext hb1
  replace Rx0 := Rx0.ext hb1
  replace Ox1 := Ox1.ext hb1
  replace Og0 := Og0.ext hb1
  replace Rg0 := Rg0.ext hb1
  have s8 := hb1.size
  try simp at s8
  clear hb1
  have r0 := R0.ext hE.below
  have kr0 := r0.cell
  have lr0 := r0.lt
  have kRx0 := Rx0.cell
  have lRx0 := Rx0.lt
  go_wp2_with fail
  clear kr0 lr0 kRx0 lRx0
  clear r0
  replace hE := hE.drew
  replace hF := hF.drew
  replace Ox0 := Ox0.drew
  replace Rx0 := Rx0.drew
  replace Ox1 := Ox1.drew
  replace Og0 := Og0.drew
  replace Rg0 := Rg0.drew
  have hS : (fun w1 : World => (∀ o, w1.cell? ⟨w.heap.size, o, none⟩ = (#[.int .i64 W0, .int .i64 H0, .slice a0 n0 c0] : Array Value)[o]?) ∧ (∀ o, w1.cell? ⟨w5.heap.size, o, none⟩ = (#[.int .i64 W0, .int .i64 H0, .slice ax0 n0 cx0] : Array Value)[o]?)) w8.drew := ⟨(R0.ext hE.below).cell, Rx0.cell⟩
  refine AtT.start (S := (fun w1 : World => (∀ o, w1.cell? ⟨w.heap.size, o, none⟩ = (#[.int .i64 W0, .int .i64 H0, .slice a0 n0 c0] : Array Value)[o]?) ∧ (∀ o, w1.cell? ⟨w5.heap.size, o, none⟩ = (#[.int .i64 W0, .int .i64 H0, .slice ax0 n0 cx0] : Array Value)[o]?))) 4 (by kernel_rfl) ?_
  refine AtT.take (i := 0) (v := ?_) rfl (by kernel_rfl) (by kernel_rfl) (by kernel_rfl) (by kernel_rfl) (fun _ _ _ h => h) (Or.inl ⟨by rfl, ?_⟩) (by assumption) ?_
  rotate_left
  · (intro w hSw; (try dsimp only at hSw); go_simp; try with_reducible rfl)
  simp only [Act.put, List.setIfInBounds_toArray, List.set_cons_zero, List.set_cons_succ]
  refine AtT.take (i := 1) (v := ?_) rfl (by kernel_rfl) (by kernel_rfl) (by kernel_rfl) (by kernel_rfl) (fun _ _ _ h => h) (Or.inl ⟨by rfl, ?_⟩) (by assumption) ?_
  rotate_left
  · (intro w hSw; (try dsimp only at hSw); go_simp; try with_reducible rfl)
  simp only [Act.put, List.setIfInBounds_toArray, List.set_cons_zero, List.set_cons_succ]
  refine AtT.only (i := 2) (by kernel_rfl) rfl rfl ?_
  intro K hK
  go_simp
  refine (toTerrain_any _ _ _ _ _ xs0 _ (I0.ext hE.below)).mono ?_
  rintro e w9 ⟨at9, ct9, rfl, Ot, hb1⟩
  replace hE := hE.ext hb1
  replace hF := hF.ext hb1
  replace Ox0 := Ox0.ext hb1
  replace Rx0 := Rx0.ext hb1
  replace Ox1 := Ox1.ext hb1
  replace Og0 := Og0.ext hb1
  replace Rg0 := Rg0.ext hb1
  clear hS hb1
  have hS : (fun w1 : World => (∀ o, w1.cell? ⟨w.heap.size, o, none⟩ = (#[.int .i64 W0, .int .i64 H0, .slice a0 n0 c0] : Array Value)[o]?) ∧ (∀ o, w1.cell? ⟨w5.heap.size, o, none⟩ = (#[.int .i64 W0, .int .i64 H0, .slice ax0 n0 cx0] : Array Value)[o]?)) w9 := ⟨(R0.ext hE.below).cell, Rx0.cell⟩
  dsimp only
  refine hK.out _ _ hS ?_
  clear hK K
  refine AtT.only (i := 3) (by kernel_rfl) rfl rfl ?_
  intro K hK
  go_simp
  refine (eqTerrain_any _ _ _ _ _ xs0 _ _ _ _ _ xs0 _ Ox0.ints Ot.ints).mono ?_
  rw [eqG_refl]
  rintro e w10 ⟨rfl, hb1⟩
  replace hE := hE.ext hb1
  replace hF := hF.ext hb1
  replace Ox0 := Ox0.ext hb1
  replace Rx0 := Rx0.ext hb1
  replace Ox1 := Ox1.ext hb1
  replace Og0 := Og0.ext hb1
  replace Rg0 := Rg0.ext hb1
  clear hS hb1
  have hS : (fun w1 : World => (∀ o, w1.cell? ⟨w.heap.size, o, none⟩ = (#[.int .i64 W0, .int .i64 H0, .slice a0 n0 c0] : Array Value)[o]?) ∧ (∀ o, w1.cell? ⟨w5.heap.size, o, none⟩ = (#[.int .i64 W0, .int .i64 H0, .slice ax0 n0 cx0] : Array Value)[o]?)) w10 := ⟨(R0.ext hE.below).cell, Rx0.cell⟩
  dsimp only
  refine hK.out _ _ hS ?_
  clear hK K
  refine AtT.last (by kernel_rfl) rfl (by kernel_rfl) ?_
  intro K hK
  go_simp
  refine hK.out _ _ ?_
  clear hK K
  clear hS Ot
  go_wp2_with fail
  refine (toIntS_any _ _ _ xs1 _ (I1.ext hE.below)).mono ?_
  rintro e w11 ⟨at1, ct1, rfl, Ot1, hb1⟩
  replace hE := hE.ext hb1
  replace hF := hF.ext hb1
  replace Ox0 := Ox0.ext hb1
  replace Rx0 := Rx0.ext hb1
  replace Ox1 := Ox1.ext hb1
  replace Og0 := Og0.ext hb1
  replace Rg0 := Rg0.ext hb1
  have s11 := hb1.size
  try simp at s11
  clear hb1
  go_wp2_with fail
  refine (eqIntS_any _ _ _ xs1 _ _ _ xs1 _ Ox1.ints Ot1.ints).mono ?_
  rw [beq_self_eq_true]
  rintro e w12 ⟨rfl, hb1⟩
  replace hE := hE.ext hb1
  replace hF := hF.ext hb1
  replace Ox0 := Ox0.ext hb1
  replace Rx0 := Rx0.ext hb1
  replace Ox1 := Ox1.ext hb1
  replace Og0 := Og0.ext hb1
  replace Rg0 := Rg0.ext hb1
  have s12 := hb1.size
  try simp at s12
  clear hb1
  clear Ot1
  have kRx0 := Rx0.cell
  have lRx0 := Rx0.lt
  go_wp2_with fail
  clear kRx0 lRx0
  refine (markTerrain_any _ _ _ _ _ _ _ 1 _ Ox0 (by omega)).mono ?_
  rintro e w13 ⟨rfl, Ox02, hk⟩
  replace hE := hE.keeps hk (fun k h => Nat.le_trans HQF.out (Nat.le_trans HLx0.out (Ox0.from k h)))
  replace hF := hF.keeps hk (fun k h => Nat.le_trans HLx0.out (Ox0.from k h))
  have lx : ∀ k, blockOf ax1 k → ¬ blockOf ax0 k := fun k h1 h2 => by have t1 := HTx0.out _ h2; have t2 := Ox1.from k h1; (try simp at t2); omega
  replace Ox1 := Ox1.keeps hk lx
  clear lx
  replace Rg0 := Rg0.keeps hk (fun h => by have := HTx0.out _ h; omega)
  replace Og0 := Og0.keeps hk (fun k hg h => by have := HTx0.out _ h; have := HLg0.out _ hg; omega)
  clear hk Ox0 Ox02 Rx0
  go_wp2_with fail
  refine (markIntS_any _ _ _ _ _ _ _ Ox1 (by omega)).mono ?_
  rintro e w14 ⟨rfl, Ox12, hk⟩
  replace hE := hE.keeps hk (fun k h => Nat.le_trans HQF.out (Nat.le_trans HLx1.out (Ox1.from k h)))
  replace hF := hF.keeps hk (fun k h => Nat.le_trans HLx1.out (Ox1.from k h))
  replace Rg0 := Rg0.keeps hk (fun h => by have := HTx1.out _ h; omega)
  replace Og0 := Og0.keeps hk (fun k hg h => by have := HTx1.out _ h; have := HLg0.out _ hg; omega)
  clear hk Ox1 Ox12
  have rw0 := Rw0.ext hF.below
  have kRg0 := Rg0.cell
  have lRg0 := Rg0.lt
  have krw0 := rw0.cell
  have lrw0 := rw0.lt
  go_wp2_with fail
  clear kRg0 lRg0 krw0 lrw0
  clear rw0
  refine (eqTerrain_any _ _ _ _ _ zs0 _ _ _ _ _ zs0 _ Og0.ints (Ow0.ints.ext hF.below)).mono ?_
  rw [eqG_refl]
  rintro e w15 ⟨rfl, hb1⟩
  replace hE := hE.ext hb1
  replace hF := hF.ext hb1
  replace Og0 := Og0.ext hb1
  replace Rg0 := Rg0.ext hb1
  have s15 := hb1.size
  try simp at s15
  clear hb1
  have kRg0 := Rg0.cell
  have lRg0 := Rg0.lt
  go_wp2_with fail
  clear kRg0 lRg0
  refine (markTerrain_any _ _ _ _ _ _ _ 1 _ Og0 (by omega)).mono ?_
  rintro e w16 ⟨rfl, Og02, hk⟩
  have hFg : ∀ k, blockOf ag0 k → (w4.alloc (.cells #[.int .i64 Wr0, .int .i64 Hr0, .slice aw0 nw0 cw0] 26)).heap.size ≤ k := fun k h => by have t1 := HLg0.out _ h; first | omega | (simp; omega)
  replace hE := hE.keeps hk (fun k h => Nat.le_trans HQF.out (hFg k h))
  replace hF := hF.keeps hk hFg
  clear hFg
  replace Rg0 := Rg0.keeps hk (fun h => by have := HTg0.out _ h; omega)
  clear hk Og0
  have kRg0 := Rg0.cell
  have lRg0 := Rg0.lt
  go_wp2_with fail
  clear kRg0 lRg0
  refine (heldTerrain_any _ _ _ _ _ _ 1 _ Og02.ints (by omega)).mono ?_
  rw [heldF_fromI]
  rintro e w17 ⟨rfl, hb1⟩
  replace hE := hE.ext hb1
  replace hF := hF.ext hb1
  replace Rg0 := Rg0.ext hb1
  replace Og02 := Og02.ext hb1
  have s17 := hb1.size
  try simp at s17
  clear hb1
  have hmm : ((1 + (ng0 : Int)) != 1 + ng0) = false := by simp
  have r0 := R0.ext hE.below
  have kr0 := r0.cell
  have lr0 := r0.lt
  go_wp2_with fail
  clear kr0 lr0
  clear r0
  refine (toTerrain_any _ _ _ _ _ xs0 _ (I0.ext hE.below)).mono ?_
  rintro e w18 ⟨ay0, cy0, rfl, Oy0, hb1⟩
  replace hE := hE.ext hb1
  replace hF := hF.ext hb1
  replace Rg0 := Rg0.ext hb1
  replace Og02 := Og02.ext hb1
  have s18 := hb1.size
  try simp at s18
  clear hb1
  have r0 := R0.ext hE.below
  have kr0 := r0.cell
  have lr0 := r0.lt
  go_wp2_with fail
  clear kr0 lr0
  refine (toIntS_any _ _ _ xs1 _ (I1.ext hE.below)).mono ?_
  rintro e w19 ⟨ay1, cy1, rfl, Oy1, hb1⟩
  replace hE := hE.ext hb1
  replace hF := hF.ext hb1
  replace Rg0 := Rg0.ext hb1
  replace Og02 := Og02.ext hb1
  replace Oy0 := Oy0.ext hb1
  have s19 := hb1.size
  try simp at s19
  clear hb1
  go_wp2_with fail
  refine (implClear_any _ _ _ _ _ xs0 _ _ _ xs1 _ Oy0.ints Oy1.ints).mono ?_
  rw [HQ0.out]
  rintro e w20 ⟨ah0, nh0, ch0, rfl, Oh0, hb1⟩
  replace hE := hE.ext hb1
  replace hF := hF.ext hb1
  replace Rg0 := Rg0.ext hb1
  replace Og02 := Og02.ext hb1
  replace Oy0 := Oy0.ext hb1
  replace Oy1 := Oy1.ext hb1
  have s20 := hb1.size
  try simp at s20
  clear hb1
  clear Oy0 Oy1
  try dsimp only
  replace hE := hE.alloc (.cells #[.int .i64 Wr0, .int .i64 Hr0, .slice ah0 nh0 ch0] 26)
  replace hF := hF.alloc (.cells #[.int .i64 Wr0, .int .i64 Hr0, .slice ah0 nh0 ch0] 26)
  replace Rg0 := Rg0.alloc (.cells #[.int .i64 Wr0, .int .i64 Hr0, .slice ah0 nh0 ch0] 26)
  replace Og02 := Og02.alloc (.cells #[.int .i64 Wr0, .int .i64 Hr0, .slice ah0 nh0 ch0] 26)
  replace Oh0 := Oh0.alloc (.cells #[.int .i64 Wr0, .int .i64 Hr0, .slice ah0 nh0 ch0] 26)
  have Rh0 : Row (w20.alloc (.cells #[.int .i64 Wr0, .int .i64 Hr0, .slice ah0 nh0 ch0] 26)) w20.heap.size #[.int .i64 Wr0, .int .i64 Hr0, .slice ah0 nh0 ch0] := Row.new _ _ rfl _ _
  have rw0 := Rw0.ext hF.below
  have kRh0 := Rh0.cell
  have lRh0 := Rh0.lt
  have krw0 := rw0.cell
  have lrw0 := rw0.lt
  go_wp2_with fail
  clear kRh0 lRh0 krw0 lrw0
  clear rw0
  refine (eqTerrain_any _ _ _ _ _ zs0 _ _ _ _ _ zs0 _ Oh0.ints (Ow0.ints.ext hF.below)).mono ?_
  rw [eqG_refl]
  rintro e w21 ⟨rfl, hb1⟩
  replace hE := hE.ext hb1
  replace hF := hF.ext hb1
  replace Rg0 := Rg0.ext hb1
  replace Og02 := Og02.ext hb1
  replace Oh0 := Oh0.ext hb1
  replace Rh0 := Rh0.ext hb1
  have s21 := hb1.size
  try simp at s21
  clear hb1
  have kRg0 := Rg0.cell
  have lRg0 := Rg0.lt
  go_wp2_with fail
  clear kRg0 lRg0
  refine (heldTerrain_any _ _ _ _ _ _ 1 _ Og02.ints (by omega)).mono ?_
  rw [heldF_fromI]
  rintro e w22 ⟨rfl, hb1⟩
  replace hE := hE.ext hb1
  replace hF := hF.ext hb1
  replace Rg0 := Rg0.ext hb1
  replace Og02 := Og02.ext hb1
  replace Oh0 := Oh0.ext hb1
  replace Rh0 := Rh0.ext hb1
  have s22 := hb1.size
  try simp at s22
  clear hb1
  go_wp2
  go_ret
  exact ⟨rfl, hw.below.trans (hE.below.mono hw.below.size)⟩
end Go.Proofs.Ytaaegejihgpfeaa
