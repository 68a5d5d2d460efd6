import Derived.Test.YtaaegejihgpfeaaMir2
import Derived.Test.YtaaegejihgpfeaaMir3
namespace Go.Proofs.Ytaaegejihgpfeaa
open Go.RowKit

set_option maxRecDepth 100000 in
set_option maxHeartbeats 4000000 in
theorem FnExactMirrorTerrain_walk (W0 H0 : Int) (a0 : Option Addr) (n0 c0 : Nat) (xs0 : List Int) (w : World) (I0 : Ints w a0 n0 c0 xs0) :
    Calls Try.prog 3 #[.agg #[.int .i64 W0, .int .i64 H0, .slice a0 n0 c0]] w fun e w' => e = .returned (.bool true) ∧ Below w.heap.size w w' := by
  have hr0 := I0.room
  obtain ⟨z, hz'⟩ : ∃ z, szF n0 1048576 = z := ⟨_, rfl⟩
  have HZ := Lib.hid hz'; clear hz'
  by_cases hz : z < 0
  · go_enter Try.func3, Try.ntmps3
    go_wp2_with fail
    refine (szTerrain_any _ _ _ _ _ 1048576 _ hr0 (by omega)).mono ?_
    rw [HZ.out]
    rintro e w1 ⟨rfl, hb1⟩
    go_wp2
    go_ret
    exact ⟨rfl, by (repeat' (first | exact Below.refl _ _ | with_reducible refine Below.setCell ?_ (by first | omega | (simp; done) | (simp; omega)) _ | with_reducible refine Below.alloc ?_ (by first | omega | (simp; done) | (simp; omega)) _ | with_reducible refine Below.drew ?_ | with_reducible refine bdrewN ?_ _ | with_reducible refine Below.trans ?_ (Below.mono hb1 (by first | omega | (simp; done) | (simp; omega)))))⟩
  have hzr : z ≤ 1048576 ∧ (n0 : Int) ≤ 1048576 := by
    have h1 := HZ.out
    unfold szF at h1
    split at h1 <;> omega
  obtain ⟨hz1, hn0⟩ := hzr
  have hw : Far w w := Far.refl w
  replace I0 := I0.alloc (.cells #[.int .i64 W0, .int .i64 H0, .slice a0 n0 c0] 24)
  replace hw := hw.alloc (.cells #[.int .i64 W0, .int .i64 H0, .slice a0 n0 c0] 24)
  have R0 : Row (w.alloc (.cells #[.int .i64 W0, .int .i64 H0, .slice a0 n0 c0] 24)) w.heap.size #[.int .i64 W0, .int .i64 H0, .slice a0 n0 c0] := Row.new _ _ rfl _ _
  have hE := Far.refl (w.alloc (.cells #[.int .i64 W0, .int .i64 H0, .slice a0 n0 c0] 24))
  go_enter Try.func3, Try.ntmps3
  go_wp2_with fail
  refine (szTerrain_any _ _ _ _ _ 1048576 _ hr0 (by omega)).mono ?_
  rw [HZ.out]
  rintro e w1 ⟨rfl, hb1⟩
  replace hE := hE.ext hb1
  clear hb1
  have r0 := R0.ext hE.below
  have kr0 := r0.cell
  have lr0 := r0.lt
  go_wp2_with fail
  clear kr0 lr0
  -- w0, w1 := spec.MirrorTerrain(toTerrain(aT))
  refine (toTerrain_any _ _ _ _ _ xs0 _ (I0.ext hE.below)).mono ?_
  rintro e w2 ⟨at1, ct1, rfl, Ot, hb1⟩
  replace hE := hE.ext hb1
  clear hb1
  go_wp2_with fail
  obtain ⟨⟨Wr, Hr, zs⟩, hres⟩ : ∃ r, mirR W0 H0 xs0 = r := ⟨_, rfl⟩
  obtain ⟨ok, hok⟩ : ∃ r, goodB 20 W0 H0 xs0 = r := ⟨_, rfl⟩
  have HRES := Lib.hid hres
  have HOK := Lib.hid hok
  clear hres hok
  refine (specMirror_any _ _ _ _ _ xs0 _ Ot.ints).mono ?_
  rw [HRES.out, HOK.out]
  rintro e w3 ⟨aw, nw, cw, rfl, Ow, hb1⟩
  replace hE := hE.ext hb1
  clear hb1 Ot
  try dsimp only
  replace hE := hE.alloc (.cells #[.int .i64 Wr, .int .i64 Hr, .slice aw nw cw] 26)
  replace Ow := Ow.alloc (.cells #[.int .i64 Wr, .int .i64 Hr, .slice aw nw cw] 26)
  have Rw : Row (w3.alloc (.cells #[.int .i64 Wr, .int .i64 Hr, .slice aw nw cw] 26)) w3.heap.size #[.int .i64 Wr, .int .i64 Hr, .slice aw nw cw] := Row.new _ _ rfl _ _
  have hF := Far.refl (w3.alloc (.cells #[.int .i64 Wr, .int .i64 Hr, .slice aw nw cw] 26))
  replace r0 := R0.ext hE.below
  have kr0 := r0.cell
  have lr0 := r0.lt
  go_wp2_with fail
  clear kr0 lr0
  -- x0 := toTerrain(aT)
  have qF : (w.alloc (.cells #[.int .i64 W0, .int .i64 H0, .slice a0 n0 c0] 24)).heap.size ≤ (w3.alloc (.cells #[.int .i64 Wr, .int .i64 Hr, .slice aw nw cw] 26)).heap.size := hE.below.size
  have QF := Lib.hid qF
  clear qF
  refine (toTerrain_any _ _ _ _ _ xs0 _ (I0.ext hE.below)).mono ?_
  rintro e w4 ⟨ax, cx, rfl, Ox, hb1⟩
  replace hE := hE.ext hb1
  replace hF := hF.ext hb1
  have Q4 := Lib.hid hb1.size
  clear hb1
  have HTX := Lib.hid Ox.till
  replace hE := hE.alloc (.cells #[.int .i64 W0, .int .i64 H0, .slice ax n0 cx] 26)
  replace hF := hF.alloc (.cells #[.int .i64 W0, .int .i64 H0, .slice ax n0 cx] 26)
  replace Ox := Ox.alloc (.cells #[.int .i64 W0, .int .i64 H0, .slice ax n0 cx] 26)
  have Rx : Row (w4.alloc (.cells #[.int .i64 W0, .int .i64 H0, .slice ax n0 cx] 26)) w4.heap.size #[.int .i64 W0, .int .i64 H0, .slice ax n0 cx] := Row.new _ _ rfl _ _
  have kRx := Rx.cell
  have lRx := Rx.lt
  go_wp2_with fail
  clear kRx lRx
  -- g0, g1 := impl.MirrorTerrain(x0)
  refine (implMirror_any _ _ _ _ _ xs0 _ Ox.ints).mono ?_
  rw [HRES.out, HOK.out]
  rintro e w5 ⟨ag, ng, cg, rfl, Og, hb1⟩
  replace hE := hE.ext hb1
  replace hF := hF.ext hb1
  replace Rx := Rx.ext hb1
  replace Ox := Ox.ext hb1
  have s5 : w4.heap.size + 1 ≤ w5.heap.size := by simpa using hb1.size
  have hfrom : ∀ k, blockOf ag k → w4.heap.size + 1 ≤ k := by simpa using Og.from
  have HFG := Lib.hid hfrom
  have HTG := Lib.hid Og.till
  have hng := Og.room
  clear hb1 hfrom
  replace hE := hE.alloc (.cells #[.int .i64 Wr, .int .i64 Hr, .slice ag ng cg] 26)
  replace hF := hF.alloc (.cells #[.int .i64 Wr, .int .i64 Hr, .slice ag ng cg] 26)
  replace Rx := Rx.alloc (.cells #[.int .i64 Wr, .int .i64 Hr, .slice ag ng cg] 26)
  replace Ox := Ox.alloc (.cells #[.int .i64 Wr, .int .i64 Hr, .slice ag ng cg] 26)
  replace Og := Og.alloc (.cells #[.int .i64 Wr, .int .i64 Hr, .slice ag ng cg] 26)
  have Rg : Row (w5.alloc (.cells #[.int .i64 Wr, .int .i64 Hr, .slice ag ng cg] 26)) w5.heap.size #[.int .i64 Wr, .int .i64 Hr, .slice ag ng cg] := Row.new _ _ rfl _ _
  have rw := Rw.ext hF.below
  have kRg := Rg.cell
  have lRg := Rg.lt
  have krw := rw.cell
  have lrw := rw.lt
  go_wp2_with fail
  clear kRg lRg krw lrw
  -- eqTerrain(g0, w0)
  refine (eqTerrain_any _ _ _ _ _ zs _ _ _ _ _ zs _ Og.ints (Ow.ints.ext hF.below)).mono ?_
  rw [eqG_refl]
  rintro e w6 ⟨rfl, hb1⟩
  replace hE := hE.ext hb1
  replace hF := hF.ext hb1
  replace Rx := Rx.ext hb1
  replace Ox := Ox.ext hb1
  replace Rg := Rg.ext hb1
  replace Og := Og.ext hb1
  clear hb1
  have hbb : (ok != ok) = false := by cases ok <;> rfl
  replace r0 := R0.ext hE.below
  have kr0 := r0.cell
  have lr0 := r0.lt
  have kRx := Rx.cell
  have lRx := Rx.lt
  go_wp2_with fail
  clear kr0 lr0 kRx lRx
  -- eqTerrain(x0, toTerrain(aT)): a region that draws
  replace hE := hE.drew
  replace hF := hF.drew
  replace Rx := Rx.drew
  replace Ox := Ox.drew
  replace Rg := Rg.drew
  replace Og := Og.drew
  have hS : (fun w1 : World => (∀ o, w1.cell? ⟨w.heap.size, o, none⟩ = (#[.int .i64 W0, .int .i64 H0, .slice a0 n0 c0] : Array Value)[o]?) ∧ (∀ o, w1.cell? ⟨w4.heap.size, o, none⟩ = (#[.int .i64 W0, .int .i64 H0, .slice ax n0 cx] : Array Value)[o]?)) w6.drew := ⟨(R0.ext hE.below).cell, Rx.cell⟩
  refine AtT.start (S := (fun w1 : World => (∀ o, w1.cell? ⟨w.heap.size, o, none⟩ = (#[.int .i64 W0, .int .i64 H0, .slice a0 n0 c0] : Array Value)[o]?) ∧ (∀ o, w1.cell? ⟨w4.heap.size, o, none⟩ = (#[.int .i64 W0, .int .i64 H0, .slice ax n0 cx] : Array Value)[o]?))) 4 (by kernel_rfl) ?_
  refine AtT.take (i := 0) (v := ?_) rfl (by kernel_rfl) (by kernel_rfl) (by kernel_rfl) (by kernel_rfl) (fun _ _ _ h => h) (Or.inl ⟨by rfl, ?_⟩) (by assumption) ?_
  rotate_left
  · (intro w hSw; (try dsimp only at hSw); go_simp; try with_reducible rfl)
  simp only [Act.put, List.setIfInBounds_toArray, List.set_cons_zero, List.set_cons_succ]
  refine AtT.take (i := 1) (v := ?_) rfl (by kernel_rfl) (by kernel_rfl) (by kernel_rfl) (by kernel_rfl) (fun _ _ _ h => h) (Or.inl ⟨by rfl, ?_⟩) (by assumption) ?_
  rotate_left
  · (intro w hSw; (try dsimp only at hSw); go_simp; try with_reducible rfl)
  simp only [Act.put, List.setIfInBounds_toArray, List.set_cons_zero, List.set_cons_succ]
  refine AtT.only (i := 2) (by kernel_rfl) rfl rfl ?_
  intro K hK
  go_simp
  refine (toTerrain_any _ _ _ _ _ xs0 _ (I0.ext hE.below)).mono ?_
  rintro e w7 ⟨at2, ct2, rfl, Ot, hb1⟩
  replace hE := hE.ext hb1
  replace hF := hF.ext hb1
  replace Rx := Rx.ext hb1
  replace Ox := Ox.ext hb1
  replace Rg := Rg.ext hb1
  replace Og := Og.ext hb1
  clear hS hb1
  have hS : (fun w1 : World => (∀ o, w1.cell? ⟨w.heap.size, o, none⟩ = (#[.int .i64 W0, .int .i64 H0, .slice a0 n0 c0] : Array Value)[o]?) ∧ (∀ o, w1.cell? ⟨w4.heap.size, o, none⟩ = (#[.int .i64 W0, .int .i64 H0, .slice ax n0 cx] : Array Value)[o]?)) w7 := ⟨(R0.ext hE.below).cell, Rx.cell⟩
  dsimp only
  refine hK.out _ _ hS ?_
  clear hK K
  refine AtT.only (i := 3) (by kernel_rfl) rfl rfl ?_
  intro K hK
  go_simp
  refine (eqTerrain_any _ _ _ _ _ xs0 _ _ _ _ _ xs0 _ Ox.ints Ot.ints).mono ?_
  rw [eqG_refl]
  rintro e w8 ⟨rfl, hb1⟩
  replace hE := hE.ext hb1
  replace hF := hF.ext hb1
  replace Rx := Rx.ext hb1
  replace Ox := Ox.ext hb1
  replace Rg := Rg.ext hb1
  replace Og := Og.ext hb1
  clear hS hb1
  have hS : (fun w1 : World => (∀ o, w1.cell? ⟨w.heap.size, o, none⟩ = (#[.int .i64 W0, .int .i64 H0, .slice a0 n0 c0] : Array Value)[o]?) ∧ (∀ o, w1.cell? ⟨w4.heap.size, o, none⟩ = (#[.int .i64 W0, .int .i64 H0, .slice ax n0 cx] : Array Value)[o]?)) w8 := ⟨(R0.ext hE.below).cell, Rx.cell⟩
  dsimp only
  refine hK.out _ _ hS ?_
  clear hK K
  refine AtT.last (by kernel_rfl) rfl (by kernel_rfl) ?_
  intro K hK
  go_simp
  refine hK.out _ _ ?_
  clear hK K
  clear hS Ot
  -- k := markTerrain(x0, 1)
  have kRx := Rx.cell
  have lRx := Rx.lt
  go_wp2_with fail
  clear kRx lRx
  refine (markTerrain_any _ _ _ _ _ _ _ 1 _ Ox (by omega)).mono ?_
  rintro e w9 ⟨rfl, -, hk⟩
  replace hE := hE.keeps hk (fun k h => Nat.le_trans QF.out (Ox.from k h))
  replace hF := hF.keeps hk Ox.from
  replace Rg := Rg.keeps hk (fun h => by have := HTX.out _ h; omega)
  replace Og := Og.keeps hk (fun k hg h => by have := HTX.out _ h; have := HFG.out _ hg; omega)
  clear hk Ox Rx
  replace rw := Rw.ext hF.below
  have kRg := Rg.cell
  have lRg := Rg.lt
  have krw := rw.cell
  have lrw := rw.lt
  go_wp2_with fail
  clear kRg lRg krw lrw
  -- eqTerrain(g0, w0)
  refine (eqTerrain_any _ _ _ _ _ zs _ _ _ _ _ zs _ Og.ints (Ow.ints.ext hF.below)).mono ?_
  rw [eqG_refl]
  rintro e w10 ⟨rfl, hb1⟩
  replace hE := hE.ext hb1
  replace hF := hF.ext hb1
  replace Rg := Rg.ext hb1
  replace Og := Og.ext hb1
  clear hb1
  have kRg := Rg.cell
  have lRg := Rg.lt
  go_wp2_with fail
  clear kRg lRg
  -- m := markTerrain(g0, 1)
  refine (markTerrain_any _ _ _ _ _ _ _ 1 _ Og (by omega)).mono ?_
  rintro e w11 ⟨rfl, Og2, hk⟩
  replace hE := hE.keeps hk (fun k h => Nat.le_trans QF.out (Nat.le_trans Q4.out (by have := HFG.out _ h; omega)))
  replace hF := hF.keeps hk (fun k h => Nat.le_trans Q4.out (by have := HFG.out _ h; omega))
  replace Rg := Rg.keeps hk (fun h => by have := HTG.out _ h; omega)
  clear hk Og
  have kRg := Rg.cell
  have lRg := Rg.lt
  go_wp2_with fail
  clear kRg lRg
  -- q := heldTerrain(g0, 1)
  refine (heldTerrain_any _ _ _ _ _ _ 1 _ Og2.ints (by omega)).mono ?_
  rw [heldF_fromI]
  rintro e w12 ⟨rfl, hb1⟩
  replace hE := hE.ext hb1
  replace hF := hF.ext hb1
  replace Rg := Rg.ext hb1
  replace Og2 := Og2.ext hb1
  clear hb1
  have hmm : ((1 + (ng : Int)) != 1 + ng) = false := by simp
  replace r0 := R0.ext hE.below
  have kr0 := r0.cell
  have lr0 := r0.lt
  go_wp2_with fail
  clear kr0 lr0
  -- h0, h1 := impl.MirrorTerrain(toTerrain(aT))
  refine (toTerrain_any _ _ _ _ _ xs0 _ (I0.ext hE.below)).mono ?_
  rintro e w13 ⟨at3, ct3, rfl, Ot, hb1⟩
  replace hE := hE.ext hb1
  replace hF := hF.ext hb1
  replace Rg := Rg.ext hb1
  replace Og2 := Og2.ext hb1
  clear hb1
  go_wp2_with fail
  refine (implMirror_any _ _ _ _ _ xs0 _ Ot.ints).mono ?_
  rw [HRES.out, HOK.out]
  rintro e w14 ⟨ah, nh, ch, rfl, Oh, hb1⟩
  replace hE := hE.ext hb1
  replace hF := hF.ext hb1
  replace Rg := Rg.ext hb1
  replace Og2 := Og2.ext hb1
  clear hb1 Ot
  try dsimp only
  replace hE := hE.alloc (.cells #[.int .i64 Wr, .int .i64 Hr, .slice ah nh ch] 26)
  replace hF := hF.alloc (.cells #[.int .i64 Wr, .int .i64 Hr, .slice ah nh ch] 26)
  replace Rg := Rg.alloc (.cells #[.int .i64 Wr, .int .i64 Hr, .slice ah nh ch] 26)
  replace Og2 := Og2.alloc (.cells #[.int .i64 Wr, .int .i64 Hr, .slice ah nh ch] 26)
  replace Oh := Oh.alloc (.cells #[.int .i64 Wr, .int .i64 Hr, .slice ah nh ch] 26)
  have Rh : Row (w14.alloc (.cells #[.int .i64 Wr, .int .i64 Hr, .slice ah nh ch] 26)) w14.heap.size #[.int .i64 Wr, .int .i64 Hr, .slice ah nh ch] := Row.new _ _ rfl _ _
  replace rw := Rw.ext hF.below
  have kRh := Rh.cell
  have lRh := Rh.lt
  have krw := rw.cell
  have lrw := rw.lt
  go_wp2_with fail
  clear kRh lRh krw lrw
  refine (eqTerrain_any _ _ _ _ _ zs _ _ _ _ _ zs _ Oh.ints (Ow.ints.ext hF.below)).mono ?_
  rw [eqG_refl]
  rintro e w15 ⟨rfl, hb1⟩
  replace hE := hE.ext hb1
  replace hF := hF.ext hb1
  replace Rg := Rg.ext hb1
  replace Og2 := Og2.ext hb1
  clear hb1 Oh Rh
  have kRg := Rg.cell
  have lRg := Rg.lt
  go_wp2_with fail
  clear kRg lRg
  refine (heldTerrain_any _ _ _ _ _ _ 1 _ Og2.ints (by omega)).mono ?_
  rw [heldF_fromI]
  rintro e w16 ⟨rfl, hb1⟩
  replace hE := hE.ext hb1
  clear hb1
  go_wp2
  go_ret
  exact ⟨rfl, hw.below.trans (hE.below.mono hw.below.size)⟩
end Go.Proofs.Ytaaegejihgpfeaa
