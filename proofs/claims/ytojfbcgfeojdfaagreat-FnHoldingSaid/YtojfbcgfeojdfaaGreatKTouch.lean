/-
  The reference's l9Free and l9Touch.
-/
import Derived.Test.YtojfbcgfeojdfaaGreatKLinesS
/-
  The reference's l9Free and l9Touch.
-/
namespace Go.Proofs.YtojfbcgfeojdfaaGreat
set_option linter.unusedSimpArgs false
set_option linter.unusedVariables false
open Go.RowKit

/-- does a cell touch one that burns in a set -/
def touchN (W n : Nat) (xs ss : List Int) (c : Nat) : Bool := (cellsN n (nearN W c)).any fun d => brn xs d.toNat && hasI ss d

set_option maxRecDepth 100000 in
set_option maxHeartbeats 30000000 in
theorem l9Free_any (W H : Int) (a : Option Addr) (n c : Nat) (xs : List Int) (a1 : Option Addr) (n1 c1 : Nat) (ss : List Int) (a2 : Option Addr) (n2 c2 : Nat) (ts : List Int) (k : Nat) (w : World) (h : Ints w a n c xs) (h1 : Ints w a1 n1 c1 ss) (h2 : Ints w a2 n2 c2 ts) (hk : k < n) :
    Calls Tryz.prog 160 #[.agg #[.int .i64 W, .int .i64 H, .slice a n c], .slice a1 n1 c1, .slice a2 n2 c2, .int .i64 k] w (fun e w' => e = .returned (.bool (freeN xs ss ts k)) ∧ Below w.heap.size w w') := by
  have hM := Mem.start w
  obtain ⟨bx, offx, rfl, -, -⟩ := h.at' _ hk
  obtain ⟨v, hv⟩ : ∃ v, xs.getD k 0 = v := ⟨_, rfl⟩
  obtain ⟨y, hy⟩ : ∃ y, hasI ss (k : Int) = y := ⟨_, rfl⟩
  obtain ⟨z, hz⟩ : ∃ z, hasI ts (k : Int) = z := ⟨_, rfl⟩
  have HF := Lib.hid (show freeN xs ss ts k = (decide (0 < v) && !y && !z) by rw [freeN, brn, hv, hy, hz])
  have HV0 := Lib.hid hv; have HY := Lib.hid hy; have HZ := Lib.hid hz
  clear hv hy hz
  have i0 : (0 : Int) ≤ (k : Int) := by omega
  have i1 : (k : Int) < (n : Int) := by omega
  go_enter Tryz.func160, Tryz.ntmps160
  go_upto_region 1 with fail
  apply Mem.atWpA
  · exact memA
  clear hM
  intro wst hM
  (try simp only [World.size_alloc, World.size_setCell, World.heap_drewN, heapDrew, Nat.add_assoc, Nat.reduceAdd, sA, List.cons_append, List.nil_append] at hM)
  have hck := (h.ext hM.below).get hk
  rw [HV0.out] at hck
  obtain ⟨k0, f0, l0⟩ := hM.row .here
  by_cases hvz : 0 < v
  rotate_left
  · have HV := Lib.hid (decide_eq_false hvz)
    go_wp2
    go_ret
    exact ⟨rb (by rw [HF.out, HV.out]; rfl), (by apply Mem.below; (exact memA))⟩
  have HV := Lib.hid (decide_eq_true hvz)
  go_wp2_with fail
  apply Mem.atA
  · exact memA
  clear hM
  intro wst hM
  (try simp only [World.size_alloc, World.size_setCell, World.heap_drewN, heapDrew, Nat.add_assoc, Nat.reduceAdd, sA, List.cons_append, List.nil_append] at hM)
  apply Calls.mono
  · (apply l1Has_any) <;> (first | (show (_ : Prop); with_reducible assumption) | (apply Hid.out; with_reducible assumption) | (apply Mem.intsR hM; (repeat' (first | with_reducible exact In.here | with_reducible apply In.there)); done) | (apply Ints.ext (hb := hM.below); with_reducible assumption) | (apply Rd.ext (hb := hM.below); with_reducible assumption) | (apply Mem.row hM; (repeat' (first | with_reducible exact In.here | with_reducible apply In.there)); done) | (apply Row.ext (hb := hM.below); with_reducible assumption) | exact ⟨by omega, by omega⟩ | omega | (trace_state; fail))
  rw [HY.out]
  rintro e wc1 ⟨rfl, rfl⟩
  cases y
  rotate_left
  · go_wp2
    go_ret
    exact ⟨rb (by rw [HF.out, HV.out]; rfl), (by apply Mem.below; (exact memA))⟩
  go_wp2_with fail
  apply Mem.atA
  · exact memA
  clear hM
  intro wst hM
  (try simp only [World.size_alloc, World.size_setCell, World.heap_drewN, heapDrew, Nat.add_assoc, Nat.reduceAdd, sA, List.cons_append, List.nil_append] at hM)
  apply Calls.mono
  · (apply l1Has_any) <;> (first | (show (_ : Prop); with_reducible assumption) | (apply Hid.out; with_reducible assumption) | (apply Mem.intsR hM; (repeat' (first | with_reducible exact In.here | with_reducible apply In.there)); done) | (apply Ints.ext (hb := hM.below); with_reducible assumption) | (apply Rd.ext (hb := hM.below); with_reducible assumption) | (apply Mem.row hM; (repeat' (first | with_reducible exact In.here | with_reducible apply In.there)); done) | (apply Row.ext (hb := hM.below); with_reducible assumption) | exact ⟨by omega, by omega⟩ | omega | (trace_state; fail))
  rw [HZ.out]
  rintro e wc2 ⟨rfl, rfl⟩
  go_wp2
  go_ret
  exact ⟨rb (by rw [HF.out, HV.out]; rfl), (by apply Mem.below; (exact memA))⟩

set_option maxRecDepth 100000 in
set_option maxHeartbeats 30000000 in
theorem l9Touch_any (W Hn : Nat) (a : Option Addr) (n c : Nat) (xs : List Int) (k : Nat) (a1 : Option Addr) (n1 c1 : Nat) (ss : List Int) (w : World) (h : Ints w a n c xs) (h1 : Ints w a1 n1 c1 ss) (hn25 : n ≤ 25) (hW : 1 ≤ W ∧ W ≤ 5) (hk : k < n) (hxs : ∀ x ∈ xs, 0 ≤ x) :
    Calls Tryz.prog 157 #[.agg #[.int .i64 W, .int .i64 Hn, .slice a n c], .int .i64 k, .slice a1 n1 c1] w (fun e w' => e = .returned (.bool (touchN W n xs ss k)) ∧ Below w.heap.size w w') := by
  have hM := Mem.start w
  have HL := Lib.hid h.len
  have HXS := Lib.hid hxs
  clear hxs
  obtain ⟨ds, hds⟩ : ∃ ds, cellsN n (nearN W k) = ds := ⟨_, rfl⟩
  have HF := Lib.hid (show touchN W n xs ss k = ds.any fun d => brn xs d.toNat && hasI ss d by rw [touchN, hds])
  have hdn : ∀ d ∈ ds, ∃ m : Nat, d = m ∧ m < n := by
    intro d hd
    rw [← hds] at hd
    obtain ⟨m, e, h1, -⟩ := cellsN_mem.1 hd
    exact ⟨m, e, h1⟩
  have HDN := Lib.hid hdn
  have HDS := Lib.hid hds
  clear hds hdn
  go_enter Tryz.func157, Tryz.ntmps157
  go_wp2_with fail
  apply Mem.atA
  · exact memA
  clear hM
  intro wst hM
  (try simp only [World.size_alloc, World.size_setCell, World.heap_drewN, heapDrew, Nat.add_assoc, Nat.reduceAdd, sA, List.cons_append, List.nil_append] at hM)
  apply Calls.mono
  · (apply l2Near_any) <;> (first | (show (_ : Prop); with_reducible assumption) | (apply Hid.out; with_reducible assumption) | (apply Mem.intsR hM; (repeat' (first | with_reducible exact In.here | with_reducible apply In.there)); done) | (apply Ints.ext (hb := hM.below); with_reducible assumption) | (apply Rd.ext (hb := hM.below); with_reducible assumption) | (apply Mem.row hM; (repeat' (first | with_reducible exact In.here | with_reducible apply In.there)); done) | (apply Row.ext (hb := hM.below); with_reducible assumption) | exact ⟨by omega, by omega⟩ | omega | (trace_state; fail))
  rw [HDS.out]
  rintro e wc3 ⟨a', m, c', rfl, hm⟩
  replace hM := hM.join hm
  clear hm
  (try simp only [World.size_alloc, World.size_setCell, World.heap_drewN, heapDrew, Nat.add_assoc, Nat.reduceAdd, sA, List.cons_append, List.nil_append] at hM)
  have hml := (hM.ints .here).len
  have hmr := (hM.ints .here).room
  have HML := Lib.hid hml; clear hml
  go_wp2_with fail
  go_loopw [8] (fun i wr => ∃ j : Nat, j ≤ m ∧ i = .int .i64 j ∧ (ds.take j).any (fun d => brn xs d.toNat && hasI ss d) = false ∧ Mem w.heap.size w wr [intE a' m c' ds, rowE w.heap.size 26 #[.int .i64 W, .int .i64 Hn, .slice a n c]]) (fun i _ => m - (intOf i).toNat)
  case atStart => exact ⟨0, Nat.zero_le _, rfl, by simp, by (exact memA)⟩
  case round =>
    clear hM
    obtain ⟨j, hj, rfl, hany, hM⟩ := hrel
    have HA := Lib.hid hany; clear hany
    by_cases hlt : j < m
    · obtain ⟨g, rfl, -⟩ := (hM.ints .here).head (by omega)
      have hjl : j < ds.length := by rw [HML.out]; exact hlt
      have hts := any_take_succ (p := fun d => brn xs d.toNat && hasI ss d) hjl
      have htr := fun (e : brn xs (ds.getD j 0).toNat && hasI ss (ds.getD j 0)) => (List.any_eq_true (p := fun d => brn xs d.toNat && hasI ss d)).2 ⟨_, getD_mem hjl, e⟩
      obtain ⟨d, hd, hdn⟩ := HDN.out _ (getD_mem hjl)
      have hcd := (hM.ints .here).cellAt hlt
      rw [hd] at hts htr hcd
      rw [Int.toNat_natCast] at hts htr
      obtain ⟨bx, offx, rfl, -, -⟩ := h.at' _ hdn
      have hx0 := HXS.out _ (getD_mem (xs := xs) (k := d) (by rw [HL.out]; exact hdn))
      obtain ⟨v, hv⟩ : ∃ v, xs.getD d 0 = v := ⟨_, rfl⟩
      obtain ⟨y, hy⟩ : ∃ y, hasI ss (d : Int) = y := ⟨_, rfl⟩
      rw [brn, hv, hy] at hts htr
      rw [hv] at hx0
      have HTS := Lib.hid hts; have HTR := Lib.hid htr; have HD := Lib.hid hd; have HV := Lib.hid hv; have HY := Lib.hid hy
      clear hts htr hd hv hy hjl hcd
      have i0 : (0 : Int) ≤ (j : Int) := by omega
      have i1 : (j : Int) < (m : Int) := by omega
      have m0 : (0 : Int) ≤ (d : Int) := by omega
      have m1 : (d : Int) < (n : Int) := by omega
      go_wp2_with fail
      apply Mem.atWpA
      · exact memA
      clear hM
      intro wst hM
      (try simp only [World.size_alloc, World.size_setCell, World.heap_drewN, heapDrew, Nat.add_assoc, Nat.reduceAdd, sA, List.cons_append, List.nil_append] at hM)
      by_cases hvz : 0 < v
      rotate_left
      · have hve : decide (0 < v) = false := decide_eq_false hvz
        have HVZ := Lib.hid hve
        clear hvz
        refine AtT.startA hM hM 16 (by kernel_rfl) ?_
        clear hM
        intro wd hM
        have hS := hM
        refine AtT.tk 0 ?_ 18 ?_ hS ?_
        rotate_left
        · (intro wS hSw; (try dsimp only at hSw); go_simp; (try rw [if_neg (by omega)]); try with_reducible rfl)
        simp only [Act.put, sA]
        refine AtT.tk 1 ?_ 19 ?_ hS ?_
        rotate_left
        · (intro wS hSw; (try dsimp only at hSw); have kr0 := (Mem.row hSw (.there .here)).cell; have hck := (hSw.ints .here).cellAt hlt; rw [HD.out] at hck; have hcx := (h.ext hSw.below).get hdn; rw [HV.out] at hcx; go_simp; (try rw [if_neg (by omega)]); try with_reducible rfl)
        simp only [Act.put, sA]
        refine AtT.tk 2 ?_ 20 ?_ hS ?_
        rotate_left
        · (intro wS hSw; (try dsimp only at hSw); go_simp; (try rw [if_neg (by omega)]); try with_reducible rfl)
        simp only [Act.put, sA]
        refine AtT.tk 3 ?_ 21 ?_ hS ?_
        rotate_left
        · (intro wS hSw; (try dsimp only at hSw); go_simp; (try rw [if_neg (by omega)]); try with_reducible rfl)
        simp only [Act.put, sA]
        refine AtT.tk 4 ?_ 22 ?_ hS ?_
        rotate_left
        · (intro wS hSw; (try dsimp only at hSw); have kr0 := (Mem.row hSw (.there .here)).cell; have hck := (hSw.ints .here).cellAt hlt; rw [HD.out] at hck; have hcx := (h.ext hSw.below).get hdn; rw [HV.out] at hcx; go_simp; (try rw [if_neg (by omega)]); try with_reducible rfl)
        simp only [Act.put, sA]
        refine AtT.tk 5 ?_ 23 ?_ hS ?_
        rotate_left
        · (intro wS hSw; (try dsimp only at hSw); have kr0 := (Mem.row hSw (.there .here)).cell; have hck := (hSw.ints .here).cellAt hlt; rw [HD.out] at hck; have hcx := (h.ext hSw.below).get hdn; rw [HV.out] at hcx; go_simp; (try rw [if_neg (by omega)]); try with_reducible rfl)
        simp only [Act.put, sA]
        refine AtT.tk 6 ?_ 24 ?_ hS ?_
        rotate_left
        · (intro wS hSw; (try dsimp only at hSw); have kr0 := (Mem.row hSw (.there .here)).cell; have hck := (hSw.ints .here).cellAt hlt; rw [HD.out] at hck; have hcx := (h.ext hSw.below).get hdn; rw [HV.out] at hcx; go_simp; (try rw [if_neg (by omega)]); try with_reducible rfl)
        simp only [Act.put, sA]
        refine AtT.tk 7 ?_ 25 ?_ hS ?_
        rotate_left
        · (intro wS hSw; (try dsimp only at hSw); have kr0 := (Mem.row hSw (.there .here)).cell; have hck := (hSw.ints .here).cellAt hlt; rw [HD.out] at hck; have hcx := (h.ext hSw.below).get hdn; rw [HV.out] at hcx; go_simp; (try rw [if_neg (by omega)]); try with_reducible rfl)
        simp only [Act.put, sA]
        refine AtT.tk 8 ?_ 26 ?_ hS ?_
        rotate_left
        · (intro wS hSw; (try dsimp only at hSw); go_simp; (try rw [if_neg (by omega)]); try with_reducible rfl)
        simp only [Act.put, sA]
        refine AtT.tk 9 ?_ 27 ?_ hS ?_
        rotate_left
        · (intro wS hSw; (try dsimp only at hSw); go_simp; (try rw [if_neg (by omega)]); try with_reducible rfl)
        simp only [Act.put, sA]
        refine AtT.tn 10 28 hS ?_
        simp only [Act.put, sA]
        refine AtT.tn 11 29 hS ?_
        simp only [Act.put, sA]
        refine AtT.tn 12 30 hS ?_
        simp only [Act.put, sA]
        refine AtT.tn 13 31 hS ?_
        simp only [Act.put, sA]
        refine AtT.tn 14 32 hS ?_
        simp only [Act.put, sA]
        refine AtT.tn 15 33 hS ?_
        simp only [Act.put, sA]
        refine AtT.last (by kernel_rfl) rfl (by kernel_rfl) ?_
        intro K hK
        clear hS
        go_simp
        refine hK.out _ _ ?_
        clear hK K
        go_wp2
        go_roundw
        case rel => exact ⟨j + 1, by omega, by go_num, by rw [HTS.out, HA.out, HVZ.out]; rfl, by (exact memA)⟩
        case measure => simp [intOf]; omega
      · have hve : decide (0 < v) = true := decide_eq_true hvz
        have HVZ := Lib.hid hve
        clear hvz
        refine AtT.startA hM hM 16 (by kernel_rfl) ?_
        clear hM
        intro wd hM
        have hS := hM
        refine AtT.tk 0 ?_ 18 ?_ hS ?_
        rotate_left
        · (intro wS hSw; (try dsimp only at hSw); go_simp; (try rw [if_neg (by omega)]); try with_reducible rfl)
        simp only [Act.put, sA]
        refine AtT.tk 1 ?_ 19 ?_ hS ?_
        rotate_left
        · (intro wS hSw; (try dsimp only at hSw); have kr0 := (Mem.row hSw (.there .here)).cell; have hck := (hSw.ints .here).cellAt hlt; rw [HD.out] at hck; have hcx := (h.ext hSw.below).get hdn; rw [HV.out] at hcx; go_simp; (try rw [if_neg (by omega)]); try with_reducible rfl)
        simp only [Act.put, sA]
        refine AtT.tk 2 ?_ 20 ?_ hS ?_
        rotate_left
        · (intro wS hSw; (try dsimp only at hSw); go_simp; (try rw [if_neg (by omega)]); try with_reducible rfl)
        simp only [Act.put, sA]
        refine AtT.tk 3 ?_ 21 ?_ hS ?_
        rotate_left
        · (intro wS hSw; (try dsimp only at hSw); go_simp; (try rw [if_neg (by omega)]); try with_reducible rfl)
        simp only [Act.put, sA]
        refine AtT.tk 4 ?_ 22 ?_ hS ?_
        rotate_left
        · (intro wS hSw; (try dsimp only at hSw); have kr0 := (Mem.row hSw (.there .here)).cell; have hck := (hSw.ints .here).cellAt hlt; rw [HD.out] at hck; have hcx := (h.ext hSw.below).get hdn; rw [HV.out] at hcx; go_simp; (try rw [if_neg (by omega)]); try with_reducible rfl)
        simp only [Act.put, sA]
        refine AtT.tk 5 ?_ 23 ?_ hS ?_
        rotate_left
        · (intro wS hSw; (try dsimp only at hSw); have kr0 := (Mem.row hSw (.there .here)).cell; have hck := (hSw.ints .here).cellAt hlt; rw [HD.out] at hck; have hcx := (h.ext hSw.below).get hdn; rw [HV.out] at hcx; go_simp; (try rw [if_neg (by omega)]); try with_reducible rfl)
        simp only [Act.put, sA]
        refine AtT.tk 6 ?_ 24 ?_ hS ?_
        rotate_left
        · (intro wS hSw; (try dsimp only at hSw); have kr0 := (Mem.row hSw (.there .here)).cell; have hck := (hSw.ints .here).cellAt hlt; rw [HD.out] at hck; have hcx := (h.ext hSw.below).get hdn; rw [HV.out] at hcx; go_simp; (try rw [if_neg (by omega)]); try with_reducible rfl)
        simp only [Act.put, sA]
        refine AtT.tk 7 ?_ 25 ?_ hS ?_
        rotate_left
        · (intro wS hSw; (try dsimp only at hSw); have kr0 := (Mem.row hSw (.there .here)).cell; have hck := (hSw.ints .here).cellAt hlt; rw [HD.out] at hck; have hcx := (h.ext hSw.below).get hdn; rw [HV.out] at hcx; go_simp; (try rw [if_neg (by omega)]); try with_reducible rfl)
        simp only [Act.put, sA]
        refine AtT.tk 8 ?_ 26 ?_ hS ?_
        rotate_left
        · (intro wS hSw; (try dsimp only at hSw); go_simp; (try rw [if_neg (by omega)]); try with_reducible rfl)
        simp only [Act.put, sA]
        refine AtT.tk 9 ?_ 27 ?_ hS ?_
        rotate_left
        · (intro wS hSw; (try dsimp only at hSw); go_simp; (try rw [if_neg (by omega)]); try with_reducible rfl)
        simp only [Act.put, sA]
        refine AtT.tk 10 ?_ 28 ?_ hS ?_
        rotate_left
        · (intro wS hSw; (try dsimp only at hSw); go_simp; (try rw [if_neg (by omega)]); try with_reducible rfl)
        simp only [Act.put, sA]
        refine AtT.tk 11 ?_ 29 ?_ hS ?_
        rotate_left
        · (intro wS hSw; (try dsimp only at hSw); go_simp; (try rw [if_neg (by omega)]); try with_reducible rfl)
        simp only [Act.put, sA]
        refine AtT.tk 12 ?_ 30 ?_ hS ?_
        rotate_left
        · (intro wS hSw; (try dsimp only at hSw); go_simp; (try rw [if_neg (by omega)]); try with_reducible rfl)
        simp only [Act.put, sA]
        refine AtT.tk 13 ?_ 31 ?_ hS ?_
        rotate_left
        · (intro wS hSw; (try dsimp only at hSw); have kr0 := (Mem.row hSw (.there .here)).cell; have hck := (hSw.ints .here).cellAt hlt; rw [HD.out] at hck; have hcx := (h.ext hSw.below).get hdn; rw [HV.out] at hcx; go_simp; (try rw [if_neg (by omega)]); try with_reducible rfl)
        simp only [Act.put, sA]
        refine AtT.tk 14 ?_ 32 ?_ hS ?_
        rotate_left
        · (intro wS hSw; (try dsimp only at hSw); have kr0 := (Mem.row hSw (.there .here)).cell; have hck := (hSw.ints .here).cellAt hlt; rw [HD.out] at hck; have hcx := (h.ext hSw.below).get hdn; rw [HV.out] at hcx; go_simp; (try rw [if_neg (by omega)]); try with_reducible rfl)
        simp only [Act.put, sA]
        refine AtT.only (i := 15) (by kernel_rfl) rfl rfl ?_
        intro K hK
        go_simp
        refine (l1Has_any a1 n1 c1 ss _ _ (h1.ext hM.below)).mono ?_
        rw [HY.out]
        rintro e w3 ⟨rfl, rfl⟩
        try dsimp only
        refine hK.out _ _ (hM) ?_
        clear hK K hS
        have hS := hM
        refine AtT.last (by kernel_rfl) rfl (by kernel_rfl) ?_
        intro K hK
        clear hS
        go_simp
        refine hK.out _ _ ?_
        clear hK K
        cases y
        · go_wp2
          go_roundw
          case rel => exact ⟨j + 1, by omega, by go_num, by rw [HTS.out, HA.out, HVZ.out]; rfl, by (exact memA)⟩
          case measure => simp [intOf]; omega
        · go_wp2
          go_ret
          exact ⟨rb (by rw [HF.out]; exact (HTR.out (by rw [HVZ.out]; rfl)).symm), (by apply Mem.below; (exact memA))⟩
    · obtain rfl : j = m := by omega
      have hany := HA.out
      rw [List.take_of_length_le (by rw [HML.out]; exact Nat.le_refl _)] at hany
      have HB := Lib.hid hany; clear hany
      go_wp2
      go_ret
      exact ⟨rb (by rw [HF.out, HB.out]), (by apply Mem.below; (exact memA))⟩
end Go.Proofs.YtojfbcgfeojdfaaGreat
