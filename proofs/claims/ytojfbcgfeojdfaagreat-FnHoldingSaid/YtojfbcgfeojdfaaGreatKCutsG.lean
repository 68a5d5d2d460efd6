/-
  Cuts: the specification's test.
-/
import Derived.Test.YtojfbcgfeojdfaaGreatKCutsI
import Derived.Test.YtojfbcgfeojdfaaGreatKRegA
/-
  Cuts: the specification's test.
-/
namespace Go.Proofs.YtojfbcgfeojdfaaGreat
set_option linter.unusedSimpArgs false
set_option linter.unusedVariables false
open Go.RowKit

set_option maxRecDepth 100000 in
set_option maxHeartbeats 30000000 in
theorem l2CellG_any (W H : Int) (a : Option Addr) (n c : Nat) (xs : List Int) (x : Int) (w : World) (h : Ints w a n c xs) :
    Calls Tryz.prog 82 #[.agg #[.int .i64 W, .int .i64 H, .slice a n c], .int .i64 x] w (fun e w' => e = .returned (.bool (goodB 20 W H xs && inB x 0 ((n : Int) - 1))) ∧ Below w.heap.size w w') := by
  have hM := Mem.start w
  have HL := Lib.hid h.len
  have hrm := h.room
  cases hg : goodB 20 W H xs
  · skip
    go_enter Tryz.func82, Tryz.ntmps82
    go_wp2_with fail
    apply Mem.atA
    · exact memA
    clear hM
    intro wst hM
    (try simp only [World.size_alloc, World.size_setCell, World.heap_drewN, heapDrew, Nat.add_assoc, Nat.reduceAdd, sA, List.cons_append, List.nil_append] at hM)
    apply Calls.mono
    · (apply l2Good_any W H a n c xs) <;> (first | (show (_ : Prop); with_reducible assumption) | (apply Hid.out; with_reducible assumption) | (apply Mem.intsR hM; (repeat' (first | with_reducible exact In.here | with_reducible apply In.there)); done) | (apply Ints.ext (hb := hM.below); with_reducible assumption) | (apply Rd.ext (hb := hM.below); with_reducible assumption) | (apply Mem.row hM; (repeat' (first | with_reducible exact In.here | with_reducible apply In.there)); done) | (apply Row.ext (hb := hM.below); with_reducible assumption) | exact ⟨by omega, by omega⟩ | omega | (trace_state; fail))
    rw [hg]
    rintro e wc1 ⟨rfl, hb⟩
    replace hM := hM.ext hb
    clear hb
    go_wp2
    go_ret
    exact ⟨rb rfl, (by apply Mem.below; (exact memA))⟩
  have hwn : IntKind.i64.wrap ((n : Int) - 1) = (n : Int) - 1 := wrap_in (by omega)
  have HG := Lib.hid hg; clear hg
  go_enter Tryz.func82, Tryz.ntmps82
  go_wp2_with fail
  apply Mem.atA
  · exact memA
  clear hM
  intro wst hM
  (try simp only [World.size_alloc, World.size_setCell, World.heap_drewN, heapDrew, Nat.add_assoc, Nat.reduceAdd, sA, List.cons_append, List.nil_append] at hM)
  apply Calls.mono
  · (apply l2Good_any W H a n c xs) <;> (first | (show (_ : Prop); with_reducible assumption) | (apply Hid.out; with_reducible assumption) | (apply Mem.intsR hM; (repeat' (first | with_reducible exact In.here | with_reducible apply In.there)); done) | (apply Ints.ext (hb := hM.below); with_reducible assumption) | (apply Rd.ext (hb := hM.below); with_reducible assumption) | (apply Mem.row hM; (repeat' (first | with_reducible exact In.here | with_reducible apply In.there)); done) | (apply Row.ext (hb := hM.below); with_reducible assumption) | exact ⟨by omega, by omega⟩ | omega | (trace_state; fail))
  rw [HG.out]
  rintro e wc2 ⟨rfl, hb⟩
  replace hM := hM.ext hb
  clear hb
  obtain ⟨k0, f0, l0⟩ := hM.row .here
  go_wp2_with fail
  clear k0 f0 l0
  apply Mem.atA
  · exact memA
  clear hM
  intro wst hM
  (try simp only [World.size_alloc, World.size_setCell, World.heap_drewN, heapDrew, Nat.add_assoc, Nat.reduceAdd, sA, List.cons_append, List.nil_append] at hM)
  apply Calls.mono
  · (apply l1In_any) <;> (first | (show (_ : Prop); with_reducible assumption) | (apply Hid.out; with_reducible assumption) | (apply Mem.intsR hM; (repeat' (first | with_reducible exact In.here | with_reducible apply In.there)); done) | (apply Ints.ext (hb := hM.below); with_reducible assumption) | (apply Rd.ext (hb := hM.below); with_reducible assumption) | (apply Mem.row hM; (repeat' (first | with_reducible exact In.here | with_reducible apply In.there)); done) | (apply Row.ext (hb := hM.below); with_reducible assumption) | exact ⟨by omega, by omega⟩ | omega | (trace_state; fail))
  rintro e wc3 ⟨rfl, rfl⟩
  go_wp2
  go_ret
  exact ⟨rb (by rw [Bool.true_and]), (by apply Mem.below; (exact memA))⟩

set_option maxRecDepth 100000 in
set_option maxHeartbeats 8000000 in
set_option maxRecDepth 100000 in
set_option maxHeartbeats 30000000 in
theorem l25Good_any (W H : Int) (a : Option Addr) (n c : Nat) (xs : List Int) (a1 : Option Addr) (n1 c1 : Nat) (cu : List CutI) (w : World) (h : Ints w a n c xs) (h1 : Rd FCut w a1 n1 c1 cu) :
    Calls Tryz.prog 35 #[.agg #[.int .i64 W, .int .i64 H, .slice a n c], .slice a1 n1 c1] w (fun e w' => e = .returned (.bool (cutsB W H xs cu)) ∧ Below w.heap.size w w') := by
  have hM := Mem.start w
  have hrm := h1.nroom
  have hr0 := h.room
  have HL := Lib.hid h1.len
  have HXL := Lib.hid h.len
  have HBAD := Lib.hid (fun k (hk : k < n1) => cuts_bad (W := W) (H := H) (xs := xs) (l := cu) (k := k) (by rw [h1.len]; exact hk))
  have HNG := Lib.hid (fun (hg : goodB 20 W H xs = false) => show cutsB W H xs cu = false by rw [cutsB, hg]; rfl)
  have HOKV := Lib.hid (cutOK_v h.len cu)
  have HEND := Lib.hid (fun (ht : cutTo xs cu n1 = true) => show cutsB W H xs cu = (goodB 20 W H xs && decide ((n1 : Int) ≤ 8)) by
    rw [cutsB, h1.len, ht, Bool.and_true]
    congr 1
    by_cases e : n1 ≤ 8
    · rw [decide_eq_true e, decide_eq_true (by omega)]
    · rw [decide_eq_false e, decide_eq_false (by omega)])
  go_enter Tryz.func35, Tryz.ntmps35
  go_upto_region 1 with fail
  apply Mem.atWpA
  · exact memA
  clear hM
  intro wst hM
  (try simp only [World.size_alloc, World.size_setCell, World.heap_drewN, heapDrew, Nat.add_assoc, Nat.reduceAdd, sA, List.cons_append, List.nil_append] at hM)
  go_wp2_with fail
  go_loopw [5] (fun s5 wr => ∃ k : Nat, k ≤ n1 ∧ s5 = .int .i64 k ∧ cutTo xs cu k = true ∧ Mem w.heap.size w wr [rowE w.heap.size 26 #[.int .i64 W, .int .i64 H, .slice a n c]]) (fun s5 _ => n1 - (intOf s5).toNat)
  case atStart => exact ⟨0, Nat.zero_le _, rfl, rfl, hM⟩
  case round =>
    clear hM
    obtain ⟨k, hk, rfl, hto, hM⟩ := hrel
    have HTO := Lib.hid hto; clear hto
    by_cases hlt : k < n1
    · obtain ⟨bl, offl, rfl, -, -⟩ := h1.at' _ hlt
      obtain ⟨v, hv⟩ : ∃ v, cu.getD k CutI.zero = v := ⟨_, rfl⟩
      have HOK : Hid (cutOK xs cu k = (cutV n xs v && (if k = 0 then true else decide ((cu.getD (k - 1) CutI.zero).cell < v.cell)))) := Lib.hid (by rw [HOKV.out, hv])
      obtain ⟨vc, vt⟩ := v
      dsimp only at HOK
      have HV := Lib.hid hv
      clear hv
      have i0 : (0 : Int) ≤ (k : Int) := by omega
      have i1 : (k : Int) < (n1 : Int) := by omega
      go_wp2_with fail
      apply Mem.atWp
      · exact memA
      clear hM
      intro hM
      cases ha : (goodB 20 W H xs && inB vc 0 ((n : Int) - 1))
      · have HR := Lib.hid (show cutsB W H xs cu = false by
          cases hg : goodB 20 W H xs
          · exact HNG.out hg
          · rw [hg, Bool.true_and] at ha
            exact HBAD.out k hlt (by rw [HOK.out, cutV]; dsimp only; rw [ha]; rfl))
        have HA := Lib.hid ha; clear ha
        as_aux_lemma =>
          refine AtT.startA hM hM 46 (by kernel_rfl) ?_
          clear hM
          intro wd hM
          have hS := hM
          refine AtT.tp 0 ?_ 12 [29, 17, 16, 8, 6] ?_ hS ?_
          rotate_left
          · (intro wS hSw; (try dsimp only at hSw); have kr0 := (Mem.row hSw .here).cell; have hc0 := ((h1.ext hSw.below).cellCut hlt).2.1; have hc1 := ((h1.ext hSw.below).cellCut hlt).2.2; rw [HV.out] at hc0 hc1; dsimp only at hc0 hc1; go_simp; (try rw [if_neg (by omega)]); try with_reducible rfl)
          simp only [Act.put, sA]
          refine AtT.tp 1 ?_ 13 [29, 17, 16, 8, 6, 5, 4, 3] ?_ hS ?_
          rotate_left
          · (intro wS hSw; (try dsimp only at hSw); go_simp; (try rw [if_neg (by omega)]); try with_reducible rfl)
          simp only [Act.put, sA]
          refine AtT.tp 2 ?_ 14 [29, 17, 16, 8, 6, 5, 4, 3] ?_ hS ?_
          rotate_left
          · (intro wS hSw; (try dsimp only at hSw); go_simp; (try rw [if_neg (by omega)]); try with_reducible rfl)
          simp only [Act.put, sA]
          refine AtT.tp 3 ?_ 15 [29, 17, 16, 8, 6, 5, 4] ?_ hS ?_
          rotate_left
          · (intro wS hSw; (try dsimp only at hSw); have kr0 := (Mem.row hSw .here).cell; have hc0 := ((h1.ext hSw.below).cellCut hlt).2.1; have hc1 := ((h1.ext hSw.below).cellCut hlt).2.2; rw [HV.out] at hc0 hc1; dsimp only at hc0 hc1; go_simp; (try rw [if_neg (by omega)]); try with_reducible rfl)
          simp only [Act.put, sA]
          refine AtT.tp 4 ?_ 16 [29, 17, 16, 8, 6, 5] ?_ hS ?_
          rotate_left
          · (intro wS hSw; (try dsimp only at hSw); go_simp; (try rw [if_neg (by omega)]); try with_reducible rfl)
          simp only [Act.put, sA]
          refine AtT.tp 5 ?_ 17 [29, 17, 16, 8, 6] ?_ hS ?_
          rotate_left
          · (intro wS hSw; (try dsimp only at hSw); have kr0 := (Mem.row hSw .here).cell; have hc0 := ((h1.ext hSw.below).cellCut hlt).2.1; have hc1 := ((h1.ext hSw.below).cellCut hlt).2.2; rw [HV.out] at hc0 hc1; dsimp only at hc0 hc1; go_simp; (try rw [if_neg (by omega)]); try with_reducible rfl)
          simp only [Act.put, sA]
          refine AtT.only (i := 6) (by kernel_rfl) rfl rfl ?_
          intro K hK
          go_simp
          refine (l2CellG_any W H a n c xs vc _ (h.ext hM.below)).mono ?_
          rw [HA.out]
          rintro e w3 ⟨rfl, hb⟩
          replace hM := hM.ext hb
          clear hb
          try dsimp only
          refine hK.out _ _ (hM) ?_
          clear hK K hS
          have hS := hM
          refine AtT.tp 7 ?_ 19 [29, 17, 16, 8] ?_ hS ?_
          rotate_left
          · (intro wS hSw; (try dsimp only at hSw); go_simp; (try rw [if_neg (by omega)]); try with_reducible rfl)
          simp only [Act.put, sA]
          refine AtT.tp 8 ?_ 20 [29, 17, 16] ?_ hS ?_
          rotate_left
          · (intro wS hSw; (try dsimp only at hSw); go_simp; (try rw [if_neg (by omega)]); try with_reducible rfl)
          simp only [Act.put, sA]
          refine AtT.tq 9 21 [29, 17, 14, 13, 12, 11] hS ?_
          simp only [Act.put, sA]
          refine AtT.tq 10 22 [29, 17, 14, 13, 12, 11] hS ?_
          simp only [Act.put, sA]
          refine AtT.tq 11 23 [29, 17, 14, 13, 12] hS ?_
          simp only [Act.put, sA]
          refine AtT.tq 12 24 [29, 17, 14, 13] hS ?_
          simp only [Act.put, sA]
          refine AtT.tq 13 25 [29, 17, 14] hS ?_
          simp only [Act.put, sA]
          refine AtT.tq 14 26 [29, 17] hS ?_
          simp only [Act.put, sA]
          refine AtT.tq 15 27 [29, 17, 16] hS ?_
          simp only [Act.put, sA]
          refine AtT.tp 16 ?_ 28 [29, 17] ?_ hS ?_
          rotate_left
          · (intro wS hSw; (try dsimp only at hSw); go_simp; (try rw [if_neg (by omega)]); try with_reducible rfl)
          simp only [Act.put, sA]
          refine AtT.tp 17 ?_ 29 [29] ?_ hS ?_
          rotate_left
          · (intro wS hSw; (try dsimp only at hSw); go_simp; (try rw [if_neg (by omega)]); try with_reducible rfl)
          simp only [Act.put, sA]
          refine AtT.tq 18 30 [29, 28, 27, 26, 25, 19] hS ?_
          simp only [Act.put, sA]
          refine AtT.tq 19 31 [29, 28, 27, 26, 25] hS ?_
          simp only [Act.put, sA]
          refine AtT.tq 20 32 [29, 28, 27, 26, 25, 24, 23, 22] hS ?_
          simp only [Act.put, sA]
          refine AtT.tq 21 33 [29, 28, 27, 26, 25, 24, 23, 22] hS ?_
          simp only [Act.put, sA]
          refine AtT.tq 22 34 [29, 28, 27, 26, 25, 24, 23] hS ?_
          simp only [Act.put, sA]
          refine AtT.tq 23 35 [29, 28, 27, 26, 25, 24] hS ?_
          simp only [Act.put, sA]
          refine AtT.tq 24 36 [29, 28, 27, 26, 25] hS ?_
          simp only [Act.put, sA]
          refine AtT.tq 25 37 [29, 28, 27, 26] hS ?_
          simp only [Act.put, sA]
          refine AtT.tq 26 38 [29, 28, 27] hS ?_
          simp only [Act.put, sA]
          refine AtT.tq 27 39 [29, 28] hS ?_
          simp only [Act.put, sA]
          refine AtT.tp 28 ?_ 40 [29] ?_ hS ?_
          rotate_left
          · (intro wS hSw; (try dsimp only at hSw); go_simp; (try rw [if_neg (by omega)]); try with_reducible rfl)
          simp only [Act.put, sA]
          refine AtT.tp 29 ?_ 41 [] ?_ hS ?_
          rotate_left
          · (intro wS hSw; (try dsimp only at hSw); go_simp; (try rw [if_neg (by omega)]); try with_reducible rfl)
          simp only [Act.put, sA]
          refine AtT.tq 30 42 [45, 32, 31] hS ?_
          simp only [Act.put, sA]
          refine AtT.tq 31 43 [45, 32] hS ?_
          simp only [Act.put, sA]
          refine AtT.tq 32 44 [45] hS ?_
          simp only [Act.put, sA]
          refine AtT.tq 33 45 [45, 44, 38, 37, 36] hS ?_
          simp only [Act.put, sA]
          refine AtT.tq 34 46 [45, 44, 38, 37, 36, 35] hS ?_
          simp only [Act.put, sA]
          refine AtT.tq 35 47 [45, 44, 38, 37, 36] hS ?_
          simp only [Act.put, sA]
          refine AtT.tq 36 48 [45, 44, 38, 37] hS ?_
          simp only [Act.put, sA]
          refine AtT.tq 37 49 [45, 44, 38] hS ?_
          simp only [Act.put, sA]
          refine AtT.tq 38 50 [45, 44] hS ?_
          simp only [Act.put, sA]
          refine AtT.tq 39 51 [45, 44, 43, 42, 41] hS ?_
          simp only [Act.put, sA]
          refine AtT.tq 40 52 [45, 44, 43, 42, 41] hS ?_
          simp only [Act.put, sA]
          refine AtT.tq 41 53 [45, 44, 43, 42] hS ?_
          simp only [Act.put, sA]
          refine AtT.tq 42 54 [45, 44, 43] hS ?_
          simp only [Act.put, sA]
          refine AtT.tq 43 55 [45, 44] hS ?_
          simp only [Act.put, sA]
          refine AtT.tq 44 56 [45] hS ?_
          simp only [Act.put, sA]
          refine AtT.tq 45 57 [] hS ?_
          simp only [Act.put, sA]
          refine AtT.last (by kernel_rfl) rfl (by kernel_rfl) ?_
          intro K hK
          clear hS
          go_simp
          refine hK.out _ _ ?_
          clear hK K
          go_wp2
          go_ret
          exact ⟨rb HR.out.symm, hM.below⟩
      obtain ⟨hg, hci⟩ := Bool.and_eq_true_iff.1 ha
      have hin := inB_true hci
      have HNN := Lib.hid (goodB_nn hg)
      have HA := Lib.hid ha; have HG := Lib.hid hg; have HCI := Lib.hid hci
      obtain ⟨j, rfl⟩ := Int.eq_ofNat_of_zero_le hin.1
      have hjn : j < n := by omega
      clear ha hg hci hin
      have q0 : (0 : Int) ≤ (j : Int) := by omega
      have q1 : (j : Int) < (n : Int) := by omega
      obtain ⟨ba, oa, rfl, -, -⟩ := h.at' _ hjn
      obtain ⟨x, hx⟩ : ∃ x, xs.getD j 0 = x := ⟨_, rfl⟩
      have hcv : cutV n xs ⟨(j : Int), vt⟩ = (inB vt 0 9999 && !(x == 0)) := by
        rw [cutV]; dsimp only; rw [HCI.out, Int.toNat_natCast, hx, Bool.true_and]
      have HOK0 : Hid (cutOK xs cu k = ((inB vt 0 9999 && !(x == 0)) && (if k = 0 then true else decide ((cu.getD (k - 1) CutI.zero).cell < (j : Int))))) := Lib.hid (by rw [HOK.out, hcv])
      have HXJ := Lib.hid hx
      clear hx hcv
      cases hb : inB vt 0 9999
      · have HR := Lib.hid (HBAD.out k hlt (by rw [HOK0.out, hb]; rfl))
        have HB := Lib.hid hb; clear hb
        as_aux_lemma =>
          refine AtT.startA hM hM 46 (by kernel_rfl) ?_
          clear hM
          intro wd hM
          have hS := hM
          refine AtT.tp 0 ?_ 12 [29, 17, 16, 8, 6] ?_ hS ?_
          rotate_left
          · (intro wS hSw; (try dsimp only at hSw); have kr0 := (Mem.row hSw .here).cell; have hc0 := ((h1.ext hSw.below).cellCut hlt).2.1; have hc1 := ((h1.ext hSw.below).cellCut hlt).2.2; rw [HV.out] at hc0 hc1; dsimp only at hc0 hc1; go_simp; (try rw [if_neg (by omega)]); try with_reducible rfl)
          simp only [Act.put, sA]
          refine AtT.tp 1 ?_ 13 [29, 17, 16, 8, 6, 5, 4, 3] ?_ hS ?_
          rotate_left
          · (intro wS hSw; (try dsimp only at hSw); go_simp; (try rw [if_neg (by omega)]); try with_reducible rfl)
          simp only [Act.put, sA]
          refine AtT.tp 2 ?_ 14 [29, 17, 16, 8, 6, 5, 4, 3] ?_ hS ?_
          rotate_left
          · (intro wS hSw; (try dsimp only at hSw); go_simp; (try rw [if_neg (by omega)]); try with_reducible rfl)
          simp only [Act.put, sA]
          refine AtT.tp 3 ?_ 15 [29, 17, 16, 8, 6, 5, 4] ?_ hS ?_
          rotate_left
          · (intro wS hSw; (try dsimp only at hSw); have kr0 := (Mem.row hSw .here).cell; have hc0 := ((h1.ext hSw.below).cellCut hlt).2.1; have hc1 := ((h1.ext hSw.below).cellCut hlt).2.2; rw [HV.out] at hc0 hc1; dsimp only at hc0 hc1; go_simp; (try rw [if_neg (by omega)]); try with_reducible rfl)
          simp only [Act.put, sA]
          refine AtT.tp 4 ?_ 16 [29, 17, 16, 8, 6, 5] ?_ hS ?_
          rotate_left
          · (intro wS hSw; (try dsimp only at hSw); go_simp; (try rw [if_neg (by omega)]); try with_reducible rfl)
          simp only [Act.put, sA]
          refine AtT.tp 5 ?_ 17 [29, 17, 16, 8, 6] ?_ hS ?_
          rotate_left
          · (intro wS hSw; (try dsimp only at hSw); have kr0 := (Mem.row hSw .here).cell; have hc0 := ((h1.ext hSw.below).cellCut hlt).2.1; have hc1 := ((h1.ext hSw.below).cellCut hlt).2.2; rw [HV.out] at hc0 hc1; dsimp only at hc0 hc1; go_simp; (try rw [if_neg (by omega)]); try with_reducible rfl)
          simp only [Act.put, sA]
          refine AtT.only (i := 6) (by kernel_rfl) rfl rfl ?_
          intro K hK
          go_simp
          refine (l2CellG_any W H _ n c xs j _ (h.ext hM.below)).mono ?_
          rw [HA.out]
          rintro e w3 ⟨rfl, hb⟩
          replace hM := hM.ext hb
          clear hb
          try dsimp only
          refine hK.out _ _ (hM) ?_
          clear hK K hS
          have hS := hM
          refine AtT.tp 7 ?_ 19 [29, 17, 16, 8] ?_ hS ?_
          rotate_left
          · (intro wS hSw; (try dsimp only at hSw); go_simp; (try rw [if_neg (by omega)]); try with_reducible rfl)
          simp only [Act.put, sA]
          refine AtT.tp 8 ?_ 20 [29, 17, 16] ?_ hS ?_
          rotate_left
          · (intro wS hSw; (try dsimp only at hSw); go_simp; (try rw [if_neg (by omega)]); try with_reducible rfl)
          simp only [Act.put, sA]
          refine AtT.tp 9 ?_ 21 [29, 17, 14, 13, 12, 11] ?_ hS ?_
          rotate_left
          · (intro wS hSw; (try dsimp only at hSw); go_simp; (try rw [if_neg (by omega)]); try with_reducible rfl)
          simp only [Act.put, sA]
          refine AtT.tp 10 ?_ 22 [29, 17, 14, 13, 12, 11] ?_ hS ?_
          rotate_left
          · (intro wS hSw; (try dsimp only at hSw); go_simp; (try rw [if_neg (by omega)]); try with_reducible rfl)
          simp only [Act.put, sA]
          refine AtT.tp 11 ?_ 23 [29, 17, 14, 13, 12] ?_ hS ?_
          rotate_left
          · (intro wS hSw; (try dsimp only at hSw); have kr0 := (Mem.row hSw .here).cell; have hc0 := ((h1.ext hSw.below).cellCut hlt).2.1; have hc1 := ((h1.ext hSw.below).cellCut hlt).2.2; rw [HV.out] at hc0 hc1; dsimp only at hc0 hc1; go_simp; (try rw [if_neg (by omega)]); try with_reducible rfl)
          simp only [Act.put, sA]
          refine AtT.tp 12 ?_ 24 [29, 17, 14, 13] ?_ hS ?_
          rotate_left
          · (intro wS hSw; (try dsimp only at hSw); go_simp; (try rw [if_neg (by omega)]); try with_reducible rfl)
          simp only [Act.put, sA]
          refine AtT.tp 13 ?_ 25 [29, 17, 14] ?_ hS ?_
          rotate_left
          · (intro wS hSw; (try dsimp only at hSw); have kr0 := (Mem.row hSw .here).cell; have hc0 := ((h1.ext hSw.below).cellCut hlt).2.1; have hc1 := ((h1.ext hSw.below).cellCut hlt).2.2; rw [HV.out] at hc0 hc1; dsimp only at hc0 hc1; go_simp; (try rw [if_neg (by omega)]); try with_reducible rfl)
          simp only [Act.put, sA]
          refine AtT.only (i := 14) (by kernel_rfl) rfl rfl ?_
          intro K hK
          go_simp
          refine (phTickS_any _ _).mono ?_
          rw [HB.out]
          rintro e w4 ⟨rfl, rfl⟩
          try dsimp only
          refine hK.out _ _ (hM) ?_
          clear hK K hS
          have hS := hM
          refine AtT.tp 15 ?_ 27 [29, 17, 16] ?_ hS ?_
          rotate_left
          · (intro wS hSw; (try dsimp only at hSw); go_simp; (try rw [if_neg (by omega)]); try with_reducible rfl)
          simp only [Act.put, sA]
          refine AtT.tp 16 ?_ 28 [29, 17] ?_ hS ?_
          rotate_left
          · (intro wS hSw; (try dsimp only at hSw); go_simp; (try rw [if_neg (by omega)]); try with_reducible rfl)
          simp only [Act.put, sA]
          refine AtT.tp 17 ?_ 29 [29] ?_ hS ?_
          rotate_left
          · (intro wS hSw; (try dsimp only at hSw); go_simp; (try rw [if_neg (by omega)]); try with_reducible rfl)
          simp only [Act.put, sA]
          refine AtT.tq 18 30 [29, 28, 27, 26, 25, 19] hS ?_
          simp only [Act.put, sA]
          refine AtT.tq 19 31 [29, 28, 27, 26, 25] hS ?_
          simp only [Act.put, sA]
          refine AtT.tq 20 32 [29, 28, 27, 26, 25, 24, 23, 22] hS ?_
          simp only [Act.put, sA]
          refine AtT.tq 21 33 [29, 28, 27, 26, 25, 24, 23, 22] hS ?_
          simp only [Act.put, sA]
          refine AtT.tq 22 34 [29, 28, 27, 26, 25, 24, 23] hS ?_
          simp only [Act.put, sA]
          refine AtT.tq 23 35 [29, 28, 27, 26, 25, 24] hS ?_
          simp only [Act.put, sA]
          refine AtT.tq 24 36 [29, 28, 27, 26, 25] hS ?_
          simp only [Act.put, sA]
          refine AtT.tq 25 37 [29, 28, 27, 26] hS ?_
          simp only [Act.put, sA]
          refine AtT.tq 26 38 [29, 28, 27] hS ?_
          simp only [Act.put, sA]
          refine AtT.tq 27 39 [29, 28] hS ?_
          simp only [Act.put, sA]
          refine AtT.tp 28 ?_ 40 [29] ?_ hS ?_
          rotate_left
          · (intro wS hSw; (try dsimp only at hSw); go_simp; (try rw [if_neg (by omega)]); try with_reducible rfl)
          simp only [Act.put, sA]
          refine AtT.tp 29 ?_ 41 [] ?_ hS ?_
          rotate_left
          · (intro wS hSw; (try dsimp only at hSw); go_simp; (try rw [if_neg (by omega)]); try with_reducible rfl)
          simp only [Act.put, sA]
          refine AtT.tq 30 42 [45, 32, 31] hS ?_
          simp only [Act.put, sA]
          refine AtT.tq 31 43 [45, 32] hS ?_
          simp only [Act.put, sA]
          refine AtT.tq 32 44 [45] hS ?_
          simp only [Act.put, sA]
          refine AtT.tq 33 45 [45, 44, 38, 37, 36] hS ?_
          simp only [Act.put, sA]
          refine AtT.tq 34 46 [45, 44, 38, 37, 36, 35] hS ?_
          simp only [Act.put, sA]
          refine AtT.tq 35 47 [45, 44, 38, 37, 36] hS ?_
          simp only [Act.put, sA]
          refine AtT.tq 36 48 [45, 44, 38, 37] hS ?_
          simp only [Act.put, sA]
          refine AtT.tq 37 49 [45, 44, 38] hS ?_
          simp only [Act.put, sA]
          refine AtT.tq 38 50 [45, 44] hS ?_
          simp only [Act.put, sA]
          refine AtT.tq 39 51 [45, 44, 43, 42, 41] hS ?_
          simp only [Act.put, sA]
          refine AtT.tq 40 52 [45, 44, 43, 42, 41] hS ?_
          simp only [Act.put, sA]
          refine AtT.tq 41 53 [45, 44, 43, 42] hS ?_
          simp only [Act.put, sA]
          refine AtT.tq 42 54 [45, 44, 43] hS ?_
          simp only [Act.put, sA]
          refine AtT.tq 43 55 [45, 44] hS ?_
          simp only [Act.put, sA]
          refine AtT.tq 44 56 [45] hS ?_
          simp only [Act.put, sA]
          refine AtT.tq 45 57 [] hS ?_
          simp only [Act.put, sA]
          refine AtT.last (by kernel_rfl) rfl (by kernel_rfl) ?_
          intro K hK
          clear hS
          go_simp
          refine hK.out _ _ ?_
          clear hK K
          go_wp2
          go_ret
          exact ⟨rb HR.out.symm, hM.below⟩
      have HB := Lib.hid hb
      by_cases hx0 : x = 0
      · have HR := Lib.hid (HBAD.out k hlt (by rw [HOK0.out, hx0]; simp))
        subst hx0
        clear hb
        as_aux_lemma =>
          refine AtT.startA hM hM 46 (by kernel_rfl) ?_
          clear hM
          intro wd hM
          have hS := hM
          refine AtT.tp 0 ?_ 12 [29, 17, 16, 8, 6] ?_ hS ?_
          rotate_left
          · (intro wS hSw; (try dsimp only at hSw); have kr0 := (Mem.row hSw .here).cell; have hc0 := ((h1.ext hSw.below).cellCut hlt).2.1; have hc1 := ((h1.ext hSw.below).cellCut hlt).2.2; rw [HV.out] at hc0 hc1; dsimp only at hc0 hc1; have hbk := (h.ext hSw.below).get hjn; rw [HXJ.out] at hbk; go_simp; (try rw [if_neg (by omega)]); try with_reducible rfl)
          simp only [Act.put, sA]
          refine AtT.tp 1 ?_ 13 [29, 17, 16, 8, 6, 5, 4, 3] ?_ hS ?_
          rotate_left
          · (intro wS hSw; (try dsimp only at hSw); go_simp; (try rw [if_neg (by omega)]); try with_reducible rfl)
          simp only [Act.put, sA]
          refine AtT.tp 2 ?_ 14 [29, 17, 16, 8, 6, 5, 4, 3] ?_ hS ?_
          rotate_left
          · (intro wS hSw; (try dsimp only at hSw); go_simp; (try rw [if_neg (by omega)]); try with_reducible rfl)
          simp only [Act.put, sA]
          refine AtT.tp 3 ?_ 15 [29, 17, 16, 8, 6, 5, 4] ?_ hS ?_
          rotate_left
          · (intro wS hSw; (try dsimp only at hSw); have kr0 := (Mem.row hSw .here).cell; have hc0 := ((h1.ext hSw.below).cellCut hlt).2.1; have hc1 := ((h1.ext hSw.below).cellCut hlt).2.2; rw [HV.out] at hc0 hc1; dsimp only at hc0 hc1; have hbk := (h.ext hSw.below).get hjn; rw [HXJ.out] at hbk; go_simp; (try rw [if_neg (by omega)]); try with_reducible rfl)
          simp only [Act.put, sA]
          refine AtT.tp 4 ?_ 16 [29, 17, 16, 8, 6, 5] ?_ hS ?_
          rotate_left
          · (intro wS hSw; (try dsimp only at hSw); go_simp; (try rw [if_neg (by omega)]); try with_reducible rfl)
          simp only [Act.put, sA]
          refine AtT.tp 5 ?_ 17 [29, 17, 16, 8, 6] ?_ hS ?_
          rotate_left
          · (intro wS hSw; (try dsimp only at hSw); have kr0 := (Mem.row hSw .here).cell; have hc0 := ((h1.ext hSw.below).cellCut hlt).2.1; have hc1 := ((h1.ext hSw.below).cellCut hlt).2.2; rw [HV.out] at hc0 hc1; dsimp only at hc0 hc1; have hbk := (h.ext hSw.below).get hjn; rw [HXJ.out] at hbk; go_simp; (try rw [if_neg (by omega)]); try with_reducible rfl)
          simp only [Act.put, sA]
          refine AtT.only (i := 6) (by kernel_rfl) rfl rfl ?_
          intro K hK
          go_simp
          refine (l2CellG_any W H _ n c xs j _ (h.ext hM.below)).mono ?_
          rw [HA.out]
          rintro e w3 ⟨rfl, hb⟩
          replace hM := hM.ext hb
          clear hb
          try dsimp only
          refine hK.out _ _ (hM) ?_
          clear hK K hS
          have hS := hM
          refine AtT.tp 7 ?_ 19 [29, 17, 16, 8] ?_ hS ?_
          rotate_left
          · (intro wS hSw; (try dsimp only at hSw); go_simp; (try rw [if_neg (by omega)]); try with_reducible rfl)
          simp only [Act.put, sA]
          refine AtT.tp 8 ?_ 20 [29, 17, 16] ?_ hS ?_
          rotate_left
          · (intro wS hSw; (try dsimp only at hSw); go_simp; (try rw [if_neg (by omega)]); try with_reducible rfl)
          simp only [Act.put, sA]
          refine AtT.tp 9 ?_ 21 [29, 17, 14, 13, 12, 11] ?_ hS ?_
          rotate_left
          · (intro wS hSw; (try dsimp only at hSw); go_simp; (try rw [if_neg (by omega)]); try with_reducible rfl)
          simp only [Act.put, sA]
          refine AtT.tp 10 ?_ 22 [29, 17, 14, 13, 12, 11] ?_ hS ?_
          rotate_left
          · (intro wS hSw; (try dsimp only at hSw); go_simp; (try rw [if_neg (by omega)]); try with_reducible rfl)
          simp only [Act.put, sA]
          refine AtT.tp 11 ?_ 23 [29, 17, 14, 13, 12] ?_ hS ?_
          rotate_left
          · (intro wS hSw; (try dsimp only at hSw); have kr0 := (Mem.row hSw .here).cell; have hc0 := ((h1.ext hSw.below).cellCut hlt).2.1; have hc1 := ((h1.ext hSw.below).cellCut hlt).2.2; rw [HV.out] at hc0 hc1; dsimp only at hc0 hc1; have hbk := (h.ext hSw.below).get hjn; rw [HXJ.out] at hbk; go_simp; (try rw [if_neg (by omega)]); try with_reducible rfl)
          simp only [Act.put, sA]
          refine AtT.tp 12 ?_ 24 [29, 17, 14, 13] ?_ hS ?_
          rotate_left
          · (intro wS hSw; (try dsimp only at hSw); go_simp; (try rw [if_neg (by omega)]); try with_reducible rfl)
          simp only [Act.put, sA]
          refine AtT.tp 13 ?_ 25 [29, 17, 14] ?_ hS ?_
          rotate_left
          · (intro wS hSw; (try dsimp only at hSw); have kr0 := (Mem.row hSw .here).cell; have hc0 := ((h1.ext hSw.below).cellCut hlt).2.1; have hc1 := ((h1.ext hSw.below).cellCut hlt).2.2; rw [HV.out] at hc0 hc1; dsimp only at hc0 hc1; have hbk := (h.ext hSw.below).get hjn; rw [HXJ.out] at hbk; go_simp; (try rw [if_neg (by omega)]); try with_reducible rfl)
          simp only [Act.put, sA]
          refine AtT.only (i := 14) (by kernel_rfl) rfl rfl ?_
          intro K hK
          go_simp
          refine (phTickS_any _ _).mono ?_
          rw [HB.out]
          rintro e w4 ⟨rfl, rfl⟩
          try dsimp only
          refine hK.out _ _ (hM) ?_
          clear hK K hS
          have hS := hM
          refine AtT.tp 15 ?_ 27 [29, 17, 16] ?_ hS ?_
          rotate_left
          · (intro wS hSw; (try dsimp only at hSw); go_simp; (try rw [if_neg (by omega)]); try with_reducible rfl)
          simp only [Act.put, sA]
          refine AtT.tp 16 ?_ 28 [29, 17] ?_ hS ?_
          rotate_left
          · (intro wS hSw; (try dsimp only at hSw); go_simp; (try rw [if_neg (by omega)]); try with_reducible rfl)
          simp only [Act.put, sA]
          refine AtT.tp 17 ?_ 29 [29] ?_ hS ?_
          rotate_left
          · (intro wS hSw; (try dsimp only at hSw); go_simp; (try rw [if_neg (by omega)]); try with_reducible rfl)
          simp only [Act.put, sA]
          refine AtT.tp 18 ?_ 30 [29, 28, 27, 26, 25, 19] ?_ hS ?_
          rotate_left
          · (intro wS hSw; (try dsimp only at hSw); go_simp; (try rw [if_neg (by omega)]); try with_reducible rfl)
          simp only [Act.put, sA]
          refine AtT.tp 19 ?_ 31 [29, 28, 27, 26, 25] ?_ hS ?_
          rotate_left
          · (intro wS hSw; (try dsimp only at hSw); have kr0 := (Mem.row hSw .here).cell; have hc0 := ((h1.ext hSw.below).cellCut hlt).2.1; have hc1 := ((h1.ext hSw.below).cellCut hlt).2.2; rw [HV.out] at hc0 hc1; dsimp only at hc0 hc1; have hbk := (h.ext hSw.below).get hjn; rw [HXJ.out] at hbk; go_simp; (try rw [if_neg (by omega)]); try with_reducible rfl)
          simp only [Act.put, sA]
          refine AtT.tp 20 ?_ 32 [29, 28, 27, 26, 25, 24, 23, 22] ?_ hS ?_
          rotate_left
          · (intro wS hSw; (try dsimp only at hSw); go_simp; (try rw [if_neg (by omega)]); try with_reducible rfl)
          simp only [Act.put, sA]
          refine AtT.tp 21 ?_ 33 [29, 28, 27, 26, 25, 24, 23, 22] ?_ hS ?_
          rotate_left
          · (intro wS hSw; (try dsimp only at hSw); go_simp; (try rw [if_neg (by omega)]); try with_reducible rfl)
          simp only [Act.put, sA]
          refine AtT.tp 22 ?_ 34 [29, 28, 27, 26, 25, 24, 23] ?_ hS ?_
          rotate_left
          · (intro wS hSw; (try dsimp only at hSw); have kr0 := (Mem.row hSw .here).cell; have hc0 := ((h1.ext hSw.below).cellCut hlt).2.1; have hc1 := ((h1.ext hSw.below).cellCut hlt).2.2; rw [HV.out] at hc0 hc1; dsimp only at hc0 hc1; have hbk := (h.ext hSw.below).get hjn; rw [HXJ.out] at hbk; go_simp; (try rw [if_neg (by omega)]); try with_reducible rfl)
          simp only [Act.put, sA]
          refine AtT.tp 23 ?_ 35 [29, 28, 27, 26, 25, 24] ?_ hS ?_
          rotate_left
          · (intro wS hSw; (try dsimp only at hSw); go_simp; (try rw [if_neg (by omega)]); try with_reducible rfl)
          simp only [Act.put, sA]
          refine AtT.tp 24 ?_ 36 [29, 28, 27, 26, 25] ?_ hS ?_
          rotate_left
          · (intro wS hSw; (try dsimp only at hSw); have kr0 := (Mem.row hSw .here).cell; have hc0 := ((h1.ext hSw.below).cellCut hlt).2.1; have hc1 := ((h1.ext hSw.below).cellCut hlt).2.2; rw [HV.out] at hc0 hc1; dsimp only at hc0 hc1; have hbk := (h.ext hSw.below).get hjn; rw [HXJ.out] at hbk; go_simp; (try rw [if_neg (by omega)]); try with_reducible rfl)
          simp only [Act.put, sA]
          refine AtT.tp 25 ?_ 37 [29, 28, 27, 26] ?_ hS ?_
          rotate_left
          · (intro wS hSw; (try dsimp only at hSw); have kr0 := (Mem.row hSw .here).cell; have hc0 := ((h1.ext hSw.below).cellCut hlt).2.1; have hc1 := ((h1.ext hSw.below).cellCut hlt).2.2; rw [HV.out] at hc0 hc1; dsimp only at hc0 hc1; have hbk := (h.ext hSw.below).get hjn; rw [HXJ.out] at hbk; go_simp; (try rw [if_neg (by omega)]); try with_reducible rfl)
          simp only [Act.put, sA]
          refine AtT.tp 26 ?_ 38 [29, 28, 27] ?_ hS ?_
          rotate_left
          · (intro wS hSw; (try dsimp only at hSw); have kr0 := (Mem.row hSw .here).cell; have hc0 := ((h1.ext hSw.below).cellCut hlt).2.1; have hc1 := ((h1.ext hSw.below).cellCut hlt).2.2; rw [HV.out] at hc0 hc1; dsimp only at hc0 hc1; have hbk := (h.ext hSw.below).get hjn; rw [HXJ.out] at hbk; go_simp; (try rw [if_neg (by omega)]); try with_reducible rfl)
          simp only [Act.put, sA]
          refine AtT.tp 27 ?_ 39 [29, 28] ?_ hS ?_
          rotate_left
          · (intro wS hSw; (try dsimp only at hSw); go_simp; (try rw [if_neg (by omega)]); try with_reducible rfl)
          simp only [Act.put, sA]
          refine AtT.tp 28 ?_ 40 [29] ?_ hS ?_
          rotate_left
          · (intro wS hSw; (try dsimp only at hSw); go_simp; (try rw [if_neg (by omega)]); try with_reducible rfl)
          simp only [Act.put, sA]
          refine AtT.tp 29 ?_ 41 [] ?_ hS ?_
          rotate_left
          · (intro wS hSw; (try dsimp only at hSw); go_simp; (try rw [if_neg (by omega)]); try with_reducible rfl)
          simp only [Act.put, sA]
          refine AtT.tq 30 42 [45, 32, 31] hS ?_
          simp only [Act.put, sA]
          refine AtT.tq 31 43 [45, 32] hS ?_
          simp only [Act.put, sA]
          refine AtT.tq 32 44 [45] hS ?_
          simp only [Act.put, sA]
          refine AtT.tq 33 45 [45, 44, 38, 37, 36] hS ?_
          simp only [Act.put, sA]
          refine AtT.tq 34 46 [45, 44, 38, 37, 36, 35] hS ?_
          simp only [Act.put, sA]
          refine AtT.tq 35 47 [45, 44, 38, 37, 36] hS ?_
          simp only [Act.put, sA]
          refine AtT.tq 36 48 [45, 44, 38, 37] hS ?_
          simp only [Act.put, sA]
          refine AtT.tq 37 49 [45, 44, 38] hS ?_
          simp only [Act.put, sA]
          refine AtT.tq 38 50 [45, 44] hS ?_
          simp only [Act.put, sA]
          refine AtT.tq 39 51 [45, 44, 43, 42, 41] hS ?_
          simp only [Act.put, sA]
          refine AtT.tq 40 52 [45, 44, 43, 42, 41] hS ?_
          simp only [Act.put, sA]
          refine AtT.tq 41 53 [45, 44, 43, 42] hS ?_
          simp only [Act.put, sA]
          refine AtT.tq 42 54 [45, 44, 43] hS ?_
          simp only [Act.put, sA]
          refine AtT.tq 43 55 [45, 44] hS ?_
          simp only [Act.put, sA]
          refine AtT.tq 44 56 [45] hS ?_
          simp only [Act.put, sA]
          refine AtT.tq 45 57 [] hS ?_
          simp only [Act.put, sA]
          refine AtT.last (by kernel_rfl) rfl (by kernel_rfl) ?_
          intro K hK
          clear hS
          go_simp
          refine hK.out _ _ ?_
          clear hK K
          go_wp2
          go_ret
          exact ⟨rb HR.out.symm, hM.below⟩
      have hxe : (x == 0) = false := by simpa using hx0
      have HOK1 : Hid (cutOK xs cu k = (if k = 0 then true else decide ((cu.getD (k - 1) CutI.zero).cell < (j : Int)))) := Lib.hid (by rw [HOK0.out, hb, hxe]; rfl)
      clear hb
      by_cases hk0 : k = 0
      · subst hk0
        have e0 : ((0 : Nat) : Int) = 0 := rfl
        have HR := Lib.hid (show cutTo xs cu (0 + 1) = true by rw [cutTo_succ, HTO.out, HOK1.out, if_pos rfl]; rfl)
        as_aux_lemma =>
          refine AtT.startA hM hM 46 (by kernel_rfl) ?_
          clear hM
          intro wd hM
          have hS := hM
          refine AtT.tp 0 ?_ 12 [29, 17, 16, 8, 6] ?_ hS ?_
          rotate_left
          · (intro wS hSw; (try dsimp only at hSw); have kr0 := (Mem.row hSw .here).cell; have hc0 := ((h1.ext hSw.below).cellCut hlt).2.1; have hc1 := ((h1.ext hSw.below).cellCut hlt).2.2; rw [HV.out] at hc0 hc1; dsimp only at hc0 hc1; rw [Nat.zero_mul, Nat.add_zero] at hc0 hc1; have hbk := (h.ext hSw.below).get hjn; rw [HXJ.out] at hbk; go_simp; (try rw [if_neg (by omega)]); try with_reducible rfl)
          simp only [Act.put, sA]
          refine AtT.tp 1 ?_ 13 [29, 17, 16, 8, 6, 5, 4, 3] ?_ hS ?_
          rotate_left
          · (intro wS hSw; (try dsimp only at hSw); go_simp; (try rw [if_neg (by omega)]); try with_reducible rfl)
          simp only [Act.put, sA]
          refine AtT.tp 2 ?_ 14 [29, 17, 16, 8, 6, 5, 4, 3] ?_ hS ?_
          rotate_left
          · (intro wS hSw; (try dsimp only at hSw); go_simp; (try rw [if_neg (by omega)]); try with_reducible rfl)
          simp only [Act.put, sA]
          refine AtT.tp 3 ?_ 15 [29, 17, 16, 8, 6, 5, 4] ?_ hS ?_
          rotate_left
          · (intro wS hSw; (try dsimp only at hSw); have kr0 := (Mem.row hSw .here).cell; have hc0 := ((h1.ext hSw.below).cellCut hlt).2.1; have hc1 := ((h1.ext hSw.below).cellCut hlt).2.2; rw [HV.out] at hc0 hc1; dsimp only at hc0 hc1; rw [Nat.zero_mul, Nat.add_zero] at hc0 hc1; have hbk := (h.ext hSw.below).get hjn; rw [HXJ.out] at hbk; go_simp; (try rw [if_neg (by omega)]); try with_reducible rfl)
          simp only [Act.put, sA]
          refine AtT.tp 4 ?_ 16 [29, 17, 16, 8, 6, 5] ?_ hS ?_
          rotate_left
          · (intro wS hSw; (try dsimp only at hSw); go_simp; (try rw [if_neg (by omega)]); try with_reducible rfl)
          simp only [Act.put, sA]
          refine AtT.tp 5 ?_ 17 [29, 17, 16, 8, 6] ?_ hS ?_
          rotate_left
          · (intro wS hSw; (try dsimp only at hSw); have kr0 := (Mem.row hSw .here).cell; have hc0 := ((h1.ext hSw.below).cellCut hlt).2.1; have hc1 := ((h1.ext hSw.below).cellCut hlt).2.2; rw [HV.out] at hc0 hc1; dsimp only at hc0 hc1; rw [Nat.zero_mul, Nat.add_zero] at hc0 hc1; have hbk := (h.ext hSw.below).get hjn; rw [HXJ.out] at hbk; go_simp; (try rw [if_neg (by omega)]); try with_reducible rfl)
          simp only [Act.put, sA]
          refine AtT.only (i := 6) (by kernel_rfl) rfl rfl ?_
          intro K hK
          go_simp
          refine (l2CellG_any W H _ n c xs j _ (h.ext hM.below)).mono ?_
          rw [HA.out]
          rintro e w3 ⟨rfl, hb⟩
          replace hM := hM.ext hb
          clear hb
          try dsimp only
          refine hK.out _ _ (hM) ?_
          clear hK K hS
          have hS := hM
          refine AtT.tp 7 ?_ 19 [29, 17, 16, 8] ?_ hS ?_
          rotate_left
          · (intro wS hSw; (try dsimp only at hSw); go_simp; (try rw [if_neg (by omega)]); try with_reducible rfl)
          simp only [Act.put, sA]
          refine AtT.tp 8 ?_ 20 [29, 17, 16] ?_ hS ?_
          rotate_left
          · (intro wS hSw; (try dsimp only at hSw); go_simp; (try rw [if_neg (by omega)]); try with_reducible rfl)
          simp only [Act.put, sA]
          refine AtT.tp 9 ?_ 21 [29, 17, 14, 13, 12, 11] ?_ hS ?_
          rotate_left
          · (intro wS hSw; (try dsimp only at hSw); go_simp; (try rw [if_neg (by omega)]); try with_reducible rfl)
          simp only [Act.put, sA]
          refine AtT.tp 10 ?_ 22 [29, 17, 14, 13, 12, 11] ?_ hS ?_
          rotate_left
          · (intro wS hSw; (try dsimp only at hSw); go_simp; (try rw [if_neg (by omega)]); try with_reducible rfl)
          simp only [Act.put, sA]
          refine AtT.tp 11 ?_ 23 [29, 17, 14, 13, 12] ?_ hS ?_
          rotate_left
          · (intro wS hSw; (try dsimp only at hSw); have kr0 := (Mem.row hSw .here).cell; have hc0 := ((h1.ext hSw.below).cellCut hlt).2.1; have hc1 := ((h1.ext hSw.below).cellCut hlt).2.2; rw [HV.out] at hc0 hc1; dsimp only at hc0 hc1; rw [Nat.zero_mul, Nat.add_zero] at hc0 hc1; have hbk := (h.ext hSw.below).get hjn; rw [HXJ.out] at hbk; go_simp; (try rw [if_neg (by omega)]); try with_reducible rfl)
          simp only [Act.put, sA]
          refine AtT.tp 12 ?_ 24 [29, 17, 14, 13] ?_ hS ?_
          rotate_left
          · (intro wS hSw; (try dsimp only at hSw); go_simp; (try rw [if_neg (by omega)]); try with_reducible rfl)
          simp only [Act.put, sA]
          refine AtT.tp 13 ?_ 25 [29, 17, 14] ?_ hS ?_
          rotate_left
          · (intro wS hSw; (try dsimp only at hSw); have kr0 := (Mem.row hSw .here).cell; have hc0 := ((h1.ext hSw.below).cellCut hlt).2.1; have hc1 := ((h1.ext hSw.below).cellCut hlt).2.2; rw [HV.out] at hc0 hc1; dsimp only at hc0 hc1; rw [Nat.zero_mul, Nat.add_zero] at hc0 hc1; have hbk := (h.ext hSw.below).get hjn; rw [HXJ.out] at hbk; go_simp; (try rw [if_neg (by omega)]); try with_reducible rfl)
          simp only [Act.put, sA]
          refine AtT.only (i := 14) (by kernel_rfl) rfl rfl ?_
          intro K hK
          go_simp
          refine (phTickS_any _ _).mono ?_
          rw [HB.out]
          rintro e w4 ⟨rfl, rfl⟩
          try dsimp only
          refine hK.out _ _ (hM) ?_
          clear hK K hS
          have hS := hM
          refine AtT.tp 15 ?_ 27 [29, 17, 16] ?_ hS ?_
          rotate_left
          · (intro wS hSw; (try dsimp only at hSw); go_simp; (try rw [if_neg (by omega)]); try with_reducible rfl)
          simp only [Act.put, sA]
          refine AtT.tp 16 ?_ 28 [29, 17] ?_ hS ?_
          rotate_left
          · (intro wS hSw; (try dsimp only at hSw); go_simp; (try rw [if_neg (by omega)]); try with_reducible rfl)
          simp only [Act.put, sA]
          refine AtT.tp 17 ?_ 29 [29] ?_ hS ?_
          rotate_left
          · (intro wS hSw; (try dsimp only at hSw); go_simp; (try rw [if_neg (by omega)]); try with_reducible rfl)
          simp only [Act.put, sA]
          refine AtT.tp 18 ?_ 30 [29, 28, 27, 26, 25, 19] ?_ hS ?_
          rotate_left
          · (intro wS hSw; (try dsimp only at hSw); go_simp; (try rw [if_neg (by omega)]); try with_reducible rfl)
          simp only [Act.put, sA]
          refine AtT.tp 19 ?_ 31 [29, 28, 27, 26, 25] ?_ hS ?_
          rotate_left
          · (intro wS hSw; (try dsimp only at hSw); have kr0 := (Mem.row hSw .here).cell; have hc0 := ((h1.ext hSw.below).cellCut hlt).2.1; have hc1 := ((h1.ext hSw.below).cellCut hlt).2.2; rw [HV.out] at hc0 hc1; dsimp only at hc0 hc1; rw [Nat.zero_mul, Nat.add_zero] at hc0 hc1; have hbk := (h.ext hSw.below).get hjn; rw [HXJ.out] at hbk; go_simp; (try rw [if_neg (by omega)]); try with_reducible rfl)
          simp only [Act.put, sA]
          refine AtT.tp 20 ?_ 32 [29, 28, 27, 26, 25, 24, 23, 22] ?_ hS ?_
          rotate_left
          · (intro wS hSw; (try dsimp only at hSw); go_simp; (try rw [if_neg (by omega)]); try with_reducible rfl)
          simp only [Act.put, sA]
          refine AtT.tp 21 ?_ 33 [29, 28, 27, 26, 25, 24, 23, 22] ?_ hS ?_
          rotate_left
          · (intro wS hSw; (try dsimp only at hSw); go_simp; (try rw [if_neg (by omega)]); try with_reducible rfl)
          simp only [Act.put, sA]
          refine AtT.tp 22 ?_ 34 [29, 28, 27, 26, 25, 24, 23] ?_ hS ?_
          rotate_left
          · (intro wS hSw; (try dsimp only at hSw); have kr0 := (Mem.row hSw .here).cell; have hc0 := ((h1.ext hSw.below).cellCut hlt).2.1; have hc1 := ((h1.ext hSw.below).cellCut hlt).2.2; rw [HV.out] at hc0 hc1; dsimp only at hc0 hc1; rw [Nat.zero_mul, Nat.add_zero] at hc0 hc1; have hbk := (h.ext hSw.below).get hjn; rw [HXJ.out] at hbk; go_simp; (try rw [if_neg (by omega)]); try with_reducible rfl)
          simp only [Act.put, sA]
          refine AtT.tp 23 ?_ 35 [29, 28, 27, 26, 25, 24] ?_ hS ?_
          rotate_left
          · (intro wS hSw; (try dsimp only at hSw); go_simp; (try rw [if_neg (by omega)]); try with_reducible rfl)
          simp only [Act.put, sA]
          refine AtT.tp 24 ?_ 36 [29, 28, 27, 26, 25] ?_ hS ?_
          rotate_left
          · (intro wS hSw; (try dsimp only at hSw); have kr0 := (Mem.row hSw .here).cell; have hc0 := ((h1.ext hSw.below).cellCut hlt).2.1; have hc1 := ((h1.ext hSw.below).cellCut hlt).2.2; rw [HV.out] at hc0 hc1; dsimp only at hc0 hc1; rw [Nat.zero_mul, Nat.add_zero] at hc0 hc1; have hbk := (h.ext hSw.below).get hjn; rw [HXJ.out] at hbk; go_simp; (try rw [if_neg (by omega)]); try with_reducible rfl)
          simp only [Act.put, sA]
          refine AtT.tp 25 ?_ 37 [29, 28, 27, 26] ?_ hS ?_
          rotate_left
          · (intro wS hSw; (try dsimp only at hSw); have kr0 := (Mem.row hSw .here).cell; have hc0 := ((h1.ext hSw.below).cellCut hlt).2.1; have hc1 := ((h1.ext hSw.below).cellCut hlt).2.2; rw [HV.out] at hc0 hc1; dsimp only at hc0 hc1; rw [Nat.zero_mul, Nat.add_zero] at hc0 hc1; have hbk := (h.ext hSw.below).get hjn; rw [HXJ.out] at hbk; go_simp; (try rw [if_neg (by omega)]); try with_reducible rfl)
          simp only [Act.put, sA]
          refine AtT.tp 26 ?_ 38 [29, 28, 27] ?_ hS ?_
          rotate_left
          · (intro wS hSw; (try dsimp only at hSw); have kr0 := (Mem.row hSw .here).cell; have hc0 := ((h1.ext hSw.below).cellCut hlt).2.1; have hc1 := ((h1.ext hSw.below).cellCut hlt).2.2; rw [HV.out] at hc0 hc1; dsimp only at hc0 hc1; rw [Nat.zero_mul, Nat.add_zero] at hc0 hc1; have hbk := (h.ext hSw.below).get hjn; rw [HXJ.out] at hbk; go_simp; (try rw [if_neg (by omega)]); try with_reducible rfl)
          simp only [Act.put, sA]
          refine AtT.tp 27 ?_ 39 [29, 28] ?_ hS ?_
          rotate_left
          · (intro wS hSw; (try dsimp only at hSw); go_simp; (try rw [if_neg (by omega)]); try with_reducible rfl)
          simp only [Act.put, sA]
          refine AtT.tp 28 ?_ 40 [29] ?_ hS ?_
          rotate_left
          · (intro wS hSw; (try dsimp only at hSw); go_simp; (try rw [if_neg (by omega)]); try with_reducible rfl)
          simp only [Act.put, sA]
          refine AtT.tp 29 ?_ 41 [] ?_ hS ?_
          rotate_left
          · (intro wS hSw; (try dsimp only at hSw); go_simp; (try rw [if_neg (by omega)]); try with_reducible rfl)
          simp only [Act.put, sA]
          refine AtT.tp 30 ?_ 42 [45, 32, 31] ?_ hS ?_
          rotate_left
          · (intro wS hSw; (try dsimp only at hSw); go_simp; (try rw [if_neg (by omega)]); try with_reducible rfl)
          simp only [Act.put, sA]
          refine AtT.tp 31 ?_ 43 [45, 32] ?_ hS ?_
          rotate_left
          · (intro wS hSw; (try dsimp only at hSw); go_simp; (try rw [if_neg (by omega)]); try with_reducible rfl)
          simp only [Act.put, sA]
          refine AtT.tp 32 ?_ 44 [45] ?_ hS ?_
          rotate_left
          · (intro wS hSw; (try dsimp only at hSw); go_simp; (try rw [if_neg (by omega)]); try with_reducible rfl)
          simp only [Act.put, sA]
          refine AtT.tq 33 45 [45, 44, 38, 37, 36] hS ?_
          simp only [Act.put, sA]
          refine AtT.tq 34 46 [45, 44, 38, 37, 36, 35] hS ?_
          simp only [Act.put, sA]
          refine AtT.tq 35 47 [45, 44, 38, 37, 36] hS ?_
          simp only [Act.put, sA]
          refine AtT.tq 36 48 [45, 44, 38, 37] hS ?_
          simp only [Act.put, sA]
          refine AtT.tq 37 49 [45, 44, 38] hS ?_
          simp only [Act.put, sA]
          refine AtT.tq 38 50 [45, 44] hS ?_
          simp only [Act.put, sA]
          refine AtT.tq 39 51 [45, 44, 43, 42, 41] hS ?_
          simp only [Act.put, sA]
          refine AtT.tq 40 52 [45, 44, 43, 42, 41] hS ?_
          simp only [Act.put, sA]
          refine AtT.tq 41 53 [45, 44, 43, 42] hS ?_
          simp only [Act.put, sA]
          refine AtT.tq 42 54 [45, 44, 43] hS ?_
          simp only [Act.put, sA]
          refine AtT.tq 43 55 [45, 44] hS ?_
          simp only [Act.put, sA]
          refine AtT.tq 44 56 [45] hS ?_
          simp only [Act.put, sA]
          refine AtT.tp 45 ?_ 57 [] ?_ hS ?_
          rotate_left
          · (intro wS hSw; (try dsimp only at hSw); go_simp; (try rw [if_neg (by omega)]); try with_reducible rfl)
          simp only [Act.put, sA]
          refine AtT.last (by kernel_rfl) rfl (by kernel_rfl) ?_
          intro K hK
          clear hS
          go_simp
          refine hK.out _ _ ?_
          clear hK K
          go_wp2
          go_roundw
          case rel => exact ⟨0 + 1, by omega, by go_num, HR.out, hM⟩
          case measure => simp [intOf]; omega
      obtain ⟨m, rfl⟩ : ∃ m, k = m + 1 := ⟨k - 1, by omega⟩
      have hm : m < n1 := by omega
      have hwj : IntKind.i64.wrap (((m + 1 : Nat) : Int) - 1) = (m : Int) := by rw [wrap_in (by omega)]; omega
      have hwj2 : IntKind.i64.wrap (m : Int) = (m : Int) := wrap_in (by omega)
      have e1 : (0 : Int) < ((m + 1 : Nat) : Int) := by omega
      have j0 : (0 : Int) ≤ (m : Int) := by omega
      have i2 : (0 : Int) ≤ (m : Int) + 1 := by omega
      have i3 : (m : Int) + 1 < (n1 : Int) := by omega
      have j1 : (m : Int) < (n1 : Int) := by omega
      obtain ⟨u, hu⟩ : ∃ u, (cu.getD m CutI.zero).cell = u := ⟨_, rfl⟩
      have HOK2 : Hid (cutOK xs cu (m + 1) = decide (u < (j : Int))) := Lib.hid (by rw [HOK1.out, if_neg hk0, Nat.add_sub_cancel, hu])
      have HU := Lib.hid hu
      clear hu hk0
      have HR1 := Lib.hid (fun (hle : (j : Int) ≤ u) => HBAD.out _ hlt (by rw [HOK2.out]; simpa using hle))
      have HR2 := Lib.hid (fun (hle : ¬ (j : Int) ≤ u) => show cutTo xs cu (m + 1 + 1) = true by rw [cutTo_succ, HTO.out, HOK2.out]; simp; omega)
      as_aux_lemma =>
        refine AtT.startA hM hM 46 (by kernel_rfl) ?_
        clear hM
        intro wd hM
        have hS := hM
        refine AtT.tp 0 ?_ 12 [29, 17, 16, 8, 6] ?_ hS ?_
        rotate_left
        · (intro wS hSw; (try dsimp only at hSw); have kr0 := (Mem.row hSw .here).cell; have hc0 := ((h1.ext hSw.below).cellCut hlt).2.1; have hc1 := ((h1.ext hSw.below).cellCut hlt).2.2; rw [HV.out] at hc0 hc1; dsimp only at hc0 hc1; have hbk := (h.ext hSw.below).get hjn; rw [HXJ.out] at hbk; have hd0 := ((h1.ext hSw.below).cellCut hm).2.1; rw [HU.out] at hd0; go_simp; (try rw [if_neg (by omega)]); try with_reducible rfl)
        simp only [Act.put, sA]
        refine AtT.tp 1 ?_ 13 [29, 17, 16, 8, 6, 5, 4, 3] ?_ hS ?_
        rotate_left
        · (intro wS hSw; (try dsimp only at hSw); go_simp; (try rw [if_neg (by omega)]); try with_reducible rfl)
        simp only [Act.put, sA]
        refine AtT.tp 2 ?_ 14 [29, 17, 16, 8, 6, 5, 4, 3] ?_ hS ?_
        rotate_left
        · (intro wS hSw; (try dsimp only at hSw); go_simp; (try rw [if_neg (by omega)]); try with_reducible rfl)
        simp only [Act.put, sA]
        refine AtT.tp 3 ?_ 15 [29, 17, 16, 8, 6, 5, 4] ?_ hS ?_
        rotate_left
        · (intro wS hSw; (try dsimp only at hSw); have kr0 := (Mem.row hSw .here).cell; have hc0 := ((h1.ext hSw.below).cellCut hlt).2.1; have hc1 := ((h1.ext hSw.below).cellCut hlt).2.2; rw [HV.out] at hc0 hc1; dsimp only at hc0 hc1; have hbk := (h.ext hSw.below).get hjn; rw [HXJ.out] at hbk; have hd0 := ((h1.ext hSw.below).cellCut hm).2.1; rw [HU.out] at hd0; go_simp; (try rw [if_neg (by omega)]); try with_reducible rfl)
        simp only [Act.put, sA]
        refine AtT.tp 4 ?_ 16 [29, 17, 16, 8, 6, 5] ?_ hS ?_
        rotate_left
        · (intro wS hSw; (try dsimp only at hSw); go_simp; (try rw [if_neg (by omega)]); try with_reducible rfl)
        simp only [Act.put, sA]
        refine AtT.tp 5 ?_ 17 [29, 17, 16, 8, 6] ?_ hS ?_
        rotate_left
        · (intro wS hSw; (try dsimp only at hSw); have kr0 := (Mem.row hSw .here).cell; have hc0 := ((h1.ext hSw.below).cellCut hlt).2.1; have hc1 := ((h1.ext hSw.below).cellCut hlt).2.2; rw [HV.out] at hc0 hc1; dsimp only at hc0 hc1; have hbk := (h.ext hSw.below).get hjn; rw [HXJ.out] at hbk; have hd0 := ((h1.ext hSw.below).cellCut hm).2.1; rw [HU.out] at hd0; go_simp; (try rw [if_neg (by omega)]); try with_reducible rfl)
        simp only [Act.put, sA]
        refine AtT.only (i := 6) (by kernel_rfl) rfl rfl ?_
        intro K hK
        go_simp
        refine (l2CellG_any W H _ n c xs j _ (h.ext hM.below)).mono ?_
        rw [HA.out]
        rintro e w3 ⟨rfl, hb⟩
        replace hM := hM.ext hb
        clear hb
        try dsimp only
        refine hK.out _ _ (hM) ?_
        clear hK K hS
        have hS := hM
        refine AtT.tp 7 ?_ 19 [29, 17, 16, 8] ?_ hS ?_
        rotate_left
        · (intro wS hSw; (try dsimp only at hSw); go_simp; (try rw [if_neg (by omega)]); try with_reducible rfl)
        simp only [Act.put, sA]
        refine AtT.tp 8 ?_ 20 [29, 17, 16] ?_ hS ?_
        rotate_left
        · (intro wS hSw; (try dsimp only at hSw); go_simp; (try rw [if_neg (by omega)]); try with_reducible rfl)
        simp only [Act.put, sA]
        refine AtT.tp 9 ?_ 21 [29, 17, 14, 13, 12, 11] ?_ hS ?_
        rotate_left
        · (intro wS hSw; (try dsimp only at hSw); go_simp; (try rw [if_neg (by omega)]); try with_reducible rfl)
        simp only [Act.put, sA]
        refine AtT.tp 10 ?_ 22 [29, 17, 14, 13, 12, 11] ?_ hS ?_
        rotate_left
        · (intro wS hSw; (try dsimp only at hSw); go_simp; (try rw [if_neg (by omega)]); try with_reducible rfl)
        simp only [Act.put, sA]
        refine AtT.tp 11 ?_ 23 [29, 17, 14, 13, 12] ?_ hS ?_
        rotate_left
        · (intro wS hSw; (try dsimp only at hSw); have kr0 := (Mem.row hSw .here).cell; have hc0 := ((h1.ext hSw.below).cellCut hlt).2.1; have hc1 := ((h1.ext hSw.below).cellCut hlt).2.2; rw [HV.out] at hc0 hc1; dsimp only at hc0 hc1; have hbk := (h.ext hSw.below).get hjn; rw [HXJ.out] at hbk; have hd0 := ((h1.ext hSw.below).cellCut hm).2.1; rw [HU.out] at hd0; go_simp; (try rw [if_neg (by omega)]); try with_reducible rfl)
        simp only [Act.put, sA]
        refine AtT.tp 12 ?_ 24 [29, 17, 14, 13] ?_ hS ?_
        rotate_left
        · (intro wS hSw; (try dsimp only at hSw); go_simp; (try rw [if_neg (by omega)]); try with_reducible rfl)
        simp only [Act.put, sA]
        refine AtT.tp 13 ?_ 25 [29, 17, 14] ?_ hS ?_
        rotate_left
        · (intro wS hSw; (try dsimp only at hSw); have kr0 := (Mem.row hSw .here).cell; have hc0 := ((h1.ext hSw.below).cellCut hlt).2.1; have hc1 := ((h1.ext hSw.below).cellCut hlt).2.2; rw [HV.out] at hc0 hc1; dsimp only at hc0 hc1; have hbk := (h.ext hSw.below).get hjn; rw [HXJ.out] at hbk; have hd0 := ((h1.ext hSw.below).cellCut hm).2.1; rw [HU.out] at hd0; go_simp; (try rw [if_neg (by omega)]); try with_reducible rfl)
        simp only [Act.put, sA]
        refine AtT.only (i := 14) (by kernel_rfl) rfl rfl ?_
        intro K hK
        go_simp
        refine (phTickS_any _ _).mono ?_
        rw [HB.out]
        rintro e w4 ⟨rfl, rfl⟩
        try dsimp only
        refine hK.out _ _ (hM) ?_
        clear hK K hS
        have hS := hM
        refine AtT.tp 15 ?_ 27 [29, 17, 16] ?_ hS ?_
        rotate_left
        · (intro wS hSw; (try dsimp only at hSw); go_simp; (try rw [if_neg (by omega)]); try with_reducible rfl)
        simp only [Act.put, sA]
        refine AtT.tp 16 ?_ 28 [29, 17] ?_ hS ?_
        rotate_left
        · (intro wS hSw; (try dsimp only at hSw); go_simp; (try rw [if_neg (by omega)]); try with_reducible rfl)
        simp only [Act.put, sA]
        refine AtT.tp 17 ?_ 29 [29] ?_ hS ?_
        rotate_left
        · (intro wS hSw; (try dsimp only at hSw); go_simp; (try rw [if_neg (by omega)]); try with_reducible rfl)
        simp only [Act.put, sA]
        refine AtT.tp 18 ?_ 30 [29, 28, 27, 26, 25, 19] ?_ hS ?_
        rotate_left
        · (intro wS hSw; (try dsimp only at hSw); go_simp; (try rw [if_neg (by omega)]); try with_reducible rfl)
        simp only [Act.put, sA]
        refine AtT.tp 19 ?_ 31 [29, 28, 27, 26, 25] ?_ hS ?_
        rotate_left
        · (intro wS hSw; (try dsimp only at hSw); have kr0 := (Mem.row hSw .here).cell; have hc0 := ((h1.ext hSw.below).cellCut hlt).2.1; have hc1 := ((h1.ext hSw.below).cellCut hlt).2.2; rw [HV.out] at hc0 hc1; dsimp only at hc0 hc1; have hbk := (h.ext hSw.below).get hjn; rw [HXJ.out] at hbk; have hd0 := ((h1.ext hSw.below).cellCut hm).2.1; rw [HU.out] at hd0; go_simp; (try rw [if_neg (by omega)]); try with_reducible rfl)
        simp only [Act.put, sA]
        refine AtT.tp 20 ?_ 32 [29, 28, 27, 26, 25, 24, 23, 22] ?_ hS ?_
        rotate_left
        · (intro wS hSw; (try dsimp only at hSw); go_simp; (try rw [if_neg (by omega)]); try with_reducible rfl)
        simp only [Act.put, sA]
        refine AtT.tp 21 ?_ 33 [29, 28, 27, 26, 25, 24, 23, 22] ?_ hS ?_
        rotate_left
        · (intro wS hSw; (try dsimp only at hSw); go_simp; (try rw [if_neg (by omega)]); try with_reducible rfl)
        simp only [Act.put, sA]
        refine AtT.tp 22 ?_ 34 [29, 28, 27, 26, 25, 24, 23] ?_ hS ?_
        rotate_left
        · (intro wS hSw; (try dsimp only at hSw); have kr0 := (Mem.row hSw .here).cell; have hc0 := ((h1.ext hSw.below).cellCut hlt).2.1; have hc1 := ((h1.ext hSw.below).cellCut hlt).2.2; rw [HV.out] at hc0 hc1; dsimp only at hc0 hc1; have hbk := (h.ext hSw.below).get hjn; rw [HXJ.out] at hbk; have hd0 := ((h1.ext hSw.below).cellCut hm).2.1; rw [HU.out] at hd0; go_simp; (try rw [if_neg (by omega)]); try with_reducible rfl)
        simp only [Act.put, sA]
        refine AtT.tp 23 ?_ 35 [29, 28, 27, 26, 25, 24] ?_ hS ?_
        rotate_left
        · (intro wS hSw; (try dsimp only at hSw); go_simp; (try rw [if_neg (by omega)]); try with_reducible rfl)
        simp only [Act.put, sA]
        refine AtT.tp 24 ?_ 36 [29, 28, 27, 26, 25] ?_ hS ?_
        rotate_left
        · (intro wS hSw; (try dsimp only at hSw); have kr0 := (Mem.row hSw .here).cell; have hc0 := ((h1.ext hSw.below).cellCut hlt).2.1; have hc1 := ((h1.ext hSw.below).cellCut hlt).2.2; rw [HV.out] at hc0 hc1; dsimp only at hc0 hc1; have hbk := (h.ext hSw.below).get hjn; rw [HXJ.out] at hbk; have hd0 := ((h1.ext hSw.below).cellCut hm).2.1; rw [HU.out] at hd0; go_simp; (try rw [if_neg (by omega)]); try with_reducible rfl)
        simp only [Act.put, sA]
        refine AtT.tp 25 ?_ 37 [29, 28, 27, 26] ?_ hS ?_
        rotate_left
        · (intro wS hSw; (try dsimp only at hSw); have kr0 := (Mem.row hSw .here).cell; have hc0 := ((h1.ext hSw.below).cellCut hlt).2.1; have hc1 := ((h1.ext hSw.below).cellCut hlt).2.2; rw [HV.out] at hc0 hc1; dsimp only at hc0 hc1; have hbk := (h.ext hSw.below).get hjn; rw [HXJ.out] at hbk; have hd0 := ((h1.ext hSw.below).cellCut hm).2.1; rw [HU.out] at hd0; go_simp; (try rw [if_neg (by omega)]); try with_reducible rfl)
        simp only [Act.put, sA]
        refine AtT.tp 26 ?_ 38 [29, 28, 27] ?_ hS ?_
        rotate_left
        · (intro wS hSw; (try dsimp only at hSw); have kr0 := (Mem.row hSw .here).cell; have hc0 := ((h1.ext hSw.below).cellCut hlt).2.1; have hc1 := ((h1.ext hSw.below).cellCut hlt).2.2; rw [HV.out] at hc0 hc1; dsimp only at hc0 hc1; have hbk := (h.ext hSw.below).get hjn; rw [HXJ.out] at hbk; have hd0 := ((h1.ext hSw.below).cellCut hm).2.1; rw [HU.out] at hd0; go_simp; (try rw [if_neg (by omega)]); try with_reducible rfl)
        simp only [Act.put, sA]
        refine AtT.tp 27 ?_ 39 [29, 28] ?_ hS ?_
        rotate_left
        · (intro wS hSw; (try dsimp only at hSw); go_simp; (try rw [if_neg (by omega)]); try with_reducible rfl)
        simp only [Act.put, sA]
        refine AtT.tp 28 ?_ 40 [29] ?_ hS ?_
        rotate_left
        · (intro wS hSw; (try dsimp only at hSw); go_simp; (try rw [if_neg (by omega)]); try with_reducible rfl)
        simp only [Act.put, sA]
        refine AtT.tp 29 ?_ 41 [] ?_ hS ?_
        rotate_left
        · (intro wS hSw; (try dsimp only at hSw); go_simp; (try rw [if_neg (by omega)]); try with_reducible rfl)
        simp only [Act.put, sA]
        refine AtT.tp 30 ?_ 42 [45, 32, 31] ?_ hS ?_
        rotate_left
        · (intro wS hSw; (try dsimp only at hSw); go_simp; (try rw [if_neg (by omega)]); try with_reducible rfl)
        simp only [Act.put, sA]
        refine AtT.tp 31 ?_ 43 [45, 32] ?_ hS ?_
        rotate_left
        · (intro wS hSw; (try dsimp only at hSw); go_simp; (try rw [if_neg (by omega)]); try with_reducible rfl)
        simp only [Act.put, sA]
        refine AtT.tp 32 ?_ 44 [45] ?_ hS ?_
        rotate_left
        · (intro wS hSw; (try dsimp only at hSw); go_simp; (try rw [if_neg (by omega)]); try with_reducible rfl)
        simp only [Act.put, sA]
        refine AtT.tp 33 ?_ 45 [45, 44, 38, 37, 36] ?_ hS ?_
        rotate_left
        · (intro wS hSw; (try dsimp only at hSw); go_simp; (try rw [if_neg (by omega)]); try with_reducible rfl)
        simp only [Act.put, sA]
        refine AtT.tp 34 ?_ 46 [45, 44, 38, 37, 36, 35] ?_ hS ?_
        rotate_left
        · (intro wS hSw; (try dsimp only at hSw); go_simp; (try rw [if_neg (by omega)]); try with_reducible rfl)
        simp only [Act.put, sA]
        refine AtT.tp 35 ?_ 47 [45, 44, 38, 37, 36] ?_ hS ?_
        rotate_left
        · (intro wS hSw; (try dsimp only at hSw); go_simp; (try rw [if_neg (by omega)]); try with_reducible rfl)
        simp only [Act.put, sA]
        refine AtT.tp 36 ?_ 48 [45, 44, 38, 37] ?_ hS ?_
        rotate_left
        · (intro wS hSw; (try dsimp only at hSw); have kr0 := (Mem.row hSw .here).cell; have hc0 := ((h1.ext hSw.below).cellCut hlt).2.1; have hc1 := ((h1.ext hSw.below).cellCut hlt).2.2; rw [HV.out] at hc0 hc1; dsimp only at hc0 hc1; have hbk := (h.ext hSw.below).get hjn; rw [HXJ.out] at hbk; have hd0 := ((h1.ext hSw.below).cellCut hm).2.1; rw [HU.out] at hd0; go_simp; (try rw [if_neg (by omega)]); try with_reducible rfl)
        simp only [Act.put, sA]
        refine AtT.tp 37 ?_ 49 [45, 44, 38] ?_ hS ?_
        rotate_left
        · (intro wS hSw; (try dsimp only at hSw); go_simp; (try rw [if_neg (by omega)]); try with_reducible rfl)
        simp only [Act.put, sA]
        refine AtT.tp 38 ?_ 50 [45, 44] ?_ hS ?_
        rotate_left
        · (intro wS hSw; (try dsimp only at hSw); have kr0 := (Mem.row hSw .here).cell; have hc0 := ((h1.ext hSw.below).cellCut hlt).2.1; have hc1 := ((h1.ext hSw.below).cellCut hlt).2.2; rw [HV.out] at hc0 hc1; dsimp only at hc0 hc1; have hbk := (h.ext hSw.below).get hjn; rw [HXJ.out] at hbk; have hd0 := ((h1.ext hSw.below).cellCut hm).2.1; rw [HU.out] at hd0; go_simp; (try rw [if_neg (by omega)]); try with_reducible rfl)
        simp only [Act.put, sA]
        refine AtT.tp 39 ?_ 51 [45, 44, 43, 42, 41] ?_ hS ?_
        rotate_left
        · (intro wS hSw; (try dsimp only at hSw); go_simp; (try rw [if_neg (by omega)]); try with_reducible rfl)
        simp only [Act.put, sA]
        refine AtT.tp 40 ?_ 52 [45, 44, 43, 42, 41] ?_ hS ?_
        rotate_left
        · (intro wS hSw; (try dsimp only at hSw); go_simp; (try rw [if_neg (by omega)]); try with_reducible rfl)
        simp only [Act.put, sA]
        refine AtT.tp 41 ?_ 53 [45, 44, 43, 42] ?_ hS ?_
        rotate_left
        · (intro wS hSw; (try dsimp only at hSw); have kr0 := (Mem.row hSw .here).cell; have hc0 := ((h1.ext hSw.below).cellCut hlt).2.1; have hc1 := ((h1.ext hSw.below).cellCut hlt).2.2; rw [HV.out] at hc0 hc1; dsimp only at hc0 hc1; have hbk := (h.ext hSw.below).get hjn; rw [HXJ.out] at hbk; have hd0 := ((h1.ext hSw.below).cellCut hm).2.1; rw [HU.out] at hd0; go_simp; (try rw [if_neg (by omega)]); try with_reducible rfl)
        simp only [Act.put, sA]
        refine AtT.tp 42 ?_ 54 [45, 44, 43] ?_ hS ?_
        rotate_left
        · (intro wS hSw; (try dsimp only at hSw); go_simp; (try rw [if_neg (by omega)]); try with_reducible rfl)
        simp only [Act.put, sA]
        refine AtT.tp 43 ?_ 55 [45, 44] ?_ hS ?_
        rotate_left
        · (intro wS hSw; (try dsimp only at hSw); have kr0 := (Mem.row hSw .here).cell; have hc0 := ((h1.ext hSw.below).cellCut hlt).2.1; have hc1 := ((h1.ext hSw.below).cellCut hlt).2.2; rw [HV.out] at hc0 hc1; dsimp only at hc0 hc1; have hbk := (h.ext hSw.below).get hjn; rw [HXJ.out] at hbk; have hd0 := ((h1.ext hSw.below).cellCut hm).2.1; rw [HU.out] at hd0; go_simp; (try rw [if_neg (by omega)]); try with_reducible rfl)
        simp only [Act.put, sA]
        refine AtT.tp 44 ?_ 56 [45] ?_ hS ?_
        rotate_left
        · (intro wS hSw; (try dsimp only at hSw); go_simp; (try rw [if_neg (by omega)]); try with_reducible rfl)
        simp only [Act.put, sA]
        refine AtT.tp 45 ?_ 57 [] ?_ hS ?_
        rotate_left
        · (intro wS hSw; (try dsimp only at hSw); go_simp; (try rw [if_neg (by omega)]); try with_reducible rfl)
        simp only [Act.put, sA]
        refine AtT.last (by kernel_rfl) rfl (by kernel_rfl) ?_
        intro K hK
        clear hS
        go_simp
        refine hK.out _ _ ?_
        clear hK K
        by_cases hle : (j : Int) ≤ u
        · have HR := Lib.hid (HR1.out hle)
          go_wp2
          go_ret
          exact ⟨rb HR.out.symm, hM.below⟩
        · have HR := Lib.hid (HR2.out hle)
          go_wp2
          go_roundw
          case rel => exact ⟨m + 1 + 1, by omega, by go_num, HR.out, hM⟩
          case measure => simp [intOf]; omega
    · obtain rfl : k = n1 := by omega
      have HR := Lib.hid (HEND.out HTO.out)
      obtain ⟨k0, f0, l0⟩ := hM.row .here
      go_wp2_with fail
      clear k0 f0 l0
      apply Mem.atA
      · exact memA
      clear hM
      intro wst hM
      (try simp only [World.size_alloc, World.size_setCell, World.heap_drewN, heapDrew, Nat.add_assoc, Nat.reduceAdd, sA, List.cons_append, List.nil_append] at hM)
      apply Calls.mono
      · (apply l2Good_any W H a n c xs) <;> (first | (show (_ : Prop); with_reducible assumption) | (apply Hid.out; with_reducible assumption) | (apply Mem.intsR hM; (repeat' (first | with_reducible exact In.here | with_reducible apply In.there)); done) | (apply Ints.ext (hb := hM.below); with_reducible assumption) | (apply Rd.ext (hb := hM.below); with_reducible assumption) | (apply Mem.row hM; (repeat' (first | with_reducible exact In.here | with_reducible apply In.there)); done) | (apply Row.ext (hb := hM.below); with_reducible assumption) | exact ⟨by omega, by omega⟩ | omega | (trace_state; fail))
      rintro e wc4 ⟨rfl, hb⟩
      replace hM := hM.ext hb
      clear hb
      cases hg : goodB 20 W H xs
      · go_wp2
        go_ret
        exact ⟨rb (by rw [HR.out, hg]; rfl), (by apply Mem.below; (exact memA))⟩
      · go_wp2
        go_ret
        exact ⟨rb (by rw [HR.out, hg]; rfl), (by apply Mem.below; (exact memA))⟩

end Go.Proofs.YtojfbcgfeojdfaaGreat
