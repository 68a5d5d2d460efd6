/-
  The reference's draw of cuts for a line.
-/
import Derived.Test.YtojfbcgfeojdfaaGreatKDrawCut
import Derived.Deep.CutBlock
/-
  The reference's draw of cuts for a line.
-/
namespace Go.Proofs.YtojfbcgfeojdfaaGreat
set_option linter.unusedSimpArgs false
set_option linter.unusedVariables false
open Go.RowKit

theorem allCT_I {l : List Int} (h : ∀ x ∈ l, I64 x) {k : Nat} (hk : k < l.length) : I64 (l.getD k 0) := by
  refine h _ ?_
  rw [List.getD_eq_getElem?_getD, List.getElem?_eq_getElem hk]
  exact List.getElem_mem _
def putC (c : Int) (t : Int) (r : Nat) : CutI := ⟨c, max 0 (minI t 200 - (r : Int))⟩
theorem putC_ok {c t : Int} {r : Nat} (h : -2 ≤ t ∧ t ≤ 10002) (hr : r ≤ 100) : 0 ≤ (putC c t r).tick ∧ (putC c t r).tick ≤ 10002 := by
  unfold putC minI
  dsimp only
  split <;> omega
theorem putC_wf {c t : Int} {r : Nat} (hc : I64 c) (h : -2 ≤ t ∧ t ≤ 10002) (hr : r ≤ 100) : FCut.wf (putC c t r) := by
  have h2 := putC_ok (c := c) h hr
  refine ⟨hc, ?_⟩
  unfold I64
  omega
set_option maxRecDepth 100000 in
set_option maxHeartbeats 16000000 in
theorem cutsFor_any {g : Nat} {ac : Option Addr} {nc cc : Nat} {l : List UInt8} {A : Nat} {w0 w : World} {R : List Ent} (W H : Int) (a1 : Option Addr) (c1 : Nat) (xs : List Int) (a4 : Option Addr) (n4 c4 : Nat) (ph : List PhaseI) (a2 : Option Addr) (n2 c2 : Nat) (ss : List Int) (start : Int) (a3 : Option Addr) (n3 c3 : Nat) (ts : List Int) (hC : Rd FByt w0 ac nc cc l) (hM : Mem w0.heap.size w0 w [owE FPhase 128 a4 n4 c4 ph, intE a1 xs.length c1 xs, intE a2 n2 c2 ss, intE a3 n3 c3 ts, curE g ac nc cc A, packE R]) (hA : A ≤ 100000) (hxl : 1 ≤ xs.length ∧ xs.length ≤ 26) :
    Calls Tryz.prog 69 #[.pointer (some ⟨g, 0, none⟩), .agg #[.int .i64 W, .int .i64 H, .slice a1 xs.length c1], .slice a4 n4 c4, .slice a2 n2 c2, .int .i64 start, .slice a3 n3 c3] w fun e w' => ∃ (a5 : Option Addr) (c5 : Nat) (cu : List CutI), cu.length ≤ 60 ∧ e = .returned (.slice a5 cu.length c5) ∧ Mem w0.heap.size w0 w' [owE FCut 37 a5 cu.length c5 cu, owE FPhase 128 a4 n4 c4 ph, intE a1 xs.length c1 xs, intE a2 n2 c2 ss, intE a3 n3 c3 ts, curE g ac nc cc (A + 300), packE R] := by
  have HC := Lib.hid hC
  clear hC
  obtain ⟨i0, hi, hz0, hz1, hz2⟩ := info_parts Tryz.info37
  go_enter Tryz.func69, Tryz.ntmps69
  go_wp2_with fail
  apply Mem.atA
  · exact memA
  clear hM
  intro wst hM
  (try simp only [World.size_alloc, World.size_setCell, World.heap_drewN, heapDrew, Nat.add_assoc, Nat.reduceAdd, sA, List.cons_append, List.nil_append] at hM)
  (first | refine (cellsOf_any W H a1 xs.length c1 hxl.2 HC.out hM (.there (.there (.there (.there (.there .here))))) (by omega)).mono ?_)
  rintro e wc2 ⟨al, cl, ls, hl4, hct, rfl, hm⟩
  clear hM
  have hM := hm
  clear hm
  try dsimp only at hM
  clear hct
  obtain ⟨⟨bl, ok⟩, hq⟩ : ∃ r, bestR W H xs ss ts = r := ⟨_, rfl⟩
  have hbl := best_len (W := W) (H := H) (xs := xs) (ss := ss) (ts := ts)
  rw [hq] at hbl
  dsimp only at hbl
  have HQ := Lib.hid hq; clear hq
  obtain ⟨k1, f1, l1⟩ := hM.row (.there .here)
  go_wp2_with fail
  clear k1 f1 l1
  apply Mem.atA
  · exact memA
  clear hM
  intro wst hM
  (try simp only [World.size_alloc, World.size_setCell, World.heap_drewN, heapDrew, Nat.add_assoc, Nat.reduceAdd, sA, List.cons_append, List.nil_append] at hM)
  (first | refine (specBestG_any W H a1 xs.length c1 xs a2 n2 c2 ss a3 n3 c3 ts _ (hM.intsR (.there (.there (.there .here)))) (hM.intsR (.there (.there (.there (.there .here))))) (hM.intsR (.there (.there (.there (.there (.there .here))))))).mono ?_)
  rw [HQ.out]
  rintro e wc3 ⟨gb, m, cb, rfl, hm⟩
  replace hM := hM.join hm
  clear hm
  (try simp only [World.size_alloc, World.size_setCell, World.heap_drewN, heapDrew, Nat.add_assoc, Nat.reduceAdd, sA, List.cons_append, List.nil_append] at hM)
  dsimp only at hM ⊢
  obtain rfl : bl.length = m := (hM.ints .here).len
  clear HQ
  go_upto_region 3 with fail
  go_cut [35] (fun s35 wx => ∃ b : Bool, s35 = .bool b ∧ Mem w0.heap.size w0 wx [intE (some ⟨gb, 0, none⟩) bl.length cb bl, intE al ls.length cl ls, rowE w.heap.size 26 #[.int .i64 W, .int .i64 H, .slice a1 xs.length c1], owE FPhase 128 a4 n4 c4 ph, intE a1 xs.length c1 xs, intE a2 n2 c2 ss, intE a3 n3 c3 ts, curE g ac nc cc (A + 40), packE R])
  case first =>
    cases ok
    · go_wp2_with fail
      go_meet
      exact ⟨false, rfl, hM.curMore (.there (.there (.there (.there (.there (.there (.there .here))))))) (by omega)⟩
    · skip
      go_wp2_with fail
      apply Mem.atA
      · exact memA
      clear hM
      intro wst hM
      (try simp only [World.size_alloc, World.size_setCell, World.heap_drewN, heapDrew, Nat.add_assoc, Nat.reduceAdd, sA, List.cons_append, List.nil_append] at hM)
      (first | refine (one_any 4 HC.out hM (.there (.there (.there (.there (.there (.there (.there .here))))))) (by omega)).mono ?_)
      rintro e wc3 ⟨b, rfl, hm⟩
      clear hM
      have hM := hm
      clear hm
      try dsimp only at hM
      go_wp2_with fail
      go_meet
      exact ⟨!b, rfl, hM.curMore (.there (.there (.there (.there (.there (.there (.there .here))))))) (by omega)⟩
  case rest =>
    clear hM
    obtain ⟨b, rfl, hM⟩ := hcut
    go_upto_if 35 with fail
    go_cut [13] (fun s13 wx => ∃ (al : Option Addr) (cl : Nat) (ls : List Int), s13 = .slice al ls.length cl ∧ ls.length ≤ 6 ∧ Mem w0.heap.size w0 wx [intE al ls.length cl ls, rowE w.heap.size 26 #[.int .i64 W, .int .i64 H, .slice a1 xs.length c1], owE FPhase 128 a4 n4 c4 ph, intE a1 xs.length c1 xs, intE a2 n2 c2 ss, intE a3 n3 c3 ts, curE g ac nc cc (A + 40), packE R])
    case first =>
      cases b
      · go_wp2_with fail
        go_meet
        exact ⟨al, cl, ls, rfl, hl4, hM.tail⟩
      · go_wp2_with fail
        go_meet
        exact ⟨some ⟨gb, 0, none⟩, cb, bl, rfl, by omega, hM.drop1⟩
    case rest =>
      clear hM hl4 hbl
      obtain ⟨al, cl, ls, rfl, hl4, hM⟩ := hcut
      obtain ⟨k1, f1, l1⟩ := hM.row (.there .here)
      go_wp2_with fail
      clear k1 f1 l1
      apply Mem.atA
      · exact memA
      clear hM
      intro wst hM
      (try simp only [World.size_alloc, World.size_setCell, World.heap_drewN, heapDrew, Nat.add_assoc, Nat.reduceAdd, sA, List.cons_append, List.nil_append] at hM)
      (first | refine (latest_any W H a1 xs.length c1 xs a4 n4 c4 ph a2 n2 c2 ss start al ls.length cl ls _ (hM.intsR (.there (.there (.there .here)))) (hM.ow (.there (.there .here))).rd (hM.intsR (.there (.there (.there (.there .here))))) (hM.intsR .here) (by omega)).mono ?_)
      rintro e wc5 ⟨a6, c6, cu, ok, hcu, rfl, hm⟩
      replace hM := hM.join hm
      clear hm
      (try simp only [World.size_alloc, World.size_setCell, World.heap_drewN, heapDrew, Nat.add_assoc, Nat.reduceAdd, sA, List.cons_append, List.nil_append] at hM)
      obtain ⟨hcl, hok⟩ := hcu
      have HOK := Lib.hid hok
      clear hok
      go_wp2_with (at_builtin; apply Mem.atL; (focus ((exact memA); done)); clear hM; intro hM; refine wpList_appRM (F := FCut) (xs := []) (ys := cu) (Mem.toOwR hM) (fun _ => .here) (hM.ow (.there .here)).rd (by show (0 + cu.length) * 2 ≤ _; omega) i0 (.agg #[.int .i64 0, .int .i64 0]) 16 hi hz0 hz1 hz2 rfl (by omega) rfl _ _ _ Tryz.underlying28 rfl rfl rfl ?_)
      intro a7 c7 w7 hM
      try simp only [Nat.zero_add, List.nil_append] at hM
      replace hM := hM.drop1
      go_upto_block 0 with fail
      go_cut [16] (fun s16 wx => ∃ (a' : Option Addr) (c' : Nat) (cu : List CutI), s16 = .slice a' cu.length c' ∧ cu.length ≤ 12 ∧ Hid (okCu cu) ∧ Mem w0.heap.size w0 wx [owE FCut 37 a' cu.length c' cu, intE al ls.length cl ls, rowE w.heap.size 26 #[.int .i64 W, .int .i64 H, .slice a1 xs.length c1], owE FPhase 128 a4 n4 c4 ph, intE a1 xs.length c1 xs, intE a2 n2 c2 ss, intE a3 n3 c3 ts, curE g ac nc cc (A + 60), packE R])
      case first =>
        go_wp2_with fail
        go_loopw [16, 18] (fun s16 s18 wr => ∃ (k : Nat) (a' : Option Addr) (c' : Nat) (cu : List CutI), k ≤ ls.length ∧ s18 = .int .i64 k ∧ s16 = .slice a' cu.length c' ∧ cu.length ≤ 6 + k ∧ Hid (okCu cu) ∧ Mem w0.heap.size w0 wr [owE FCut 37 a' cu.length c' cu, intE al ls.length cl ls, rowE w.heap.size 26 #[.int .i64 W, .int .i64 H, .slice a1 xs.length c1], owE FPhase 128 a4 n4 c4 ph, intE a1 xs.length c1 xs, intE a2 n2 c2 ss, intE a3 n3 c3 ts, curE g ac nc cc (A + 40 + 2 * k), packE R]) (fun _ s18 _ => ls.length - (intOf s18).toNat)
        case atStart => exact ⟨0, a7, c7, cu, Nat.zero_le _, rfl, by simp, by omega, HOK, hM⟩
        case round =>
          clear hM HOK hcl
          obtain ⟨k, a', c', cu, hk, rfl, rfl, hcl, HOK, hM⟩ := hrel
          obtain ⟨A2, hA2⟩ : ∃ A2, A + 40 + 2 * k = A2 := ⟨_, rfl⟩
          rw [hA2] at hM
          have hA3 : A2 ≤ A + 52 := by omega
          have HA2 := Lib.hid hA2
          clear hA2
          by_cases hlt : k < ls.length
          rotate_left
          · go_wp2_with fail
            go_meet
            exact ⟨a', c', cu, rfl, by omega, HOK, hM.curMore (.there (.there (.there (.there (.there (.there (.there .here))))))) (by omega)⟩
          cases ok
          rotate_left
          · go_wp2_with fail
            go_meet
            exact ⟨a', c', cu, rfl, by omega, HOK, hM.curMore (.there (.there (.there (.there (.there (.there (.there .here))))))) (by omega)⟩
          obtain ⟨gl, rfl, -⟩ := (hM.ints (.there .here)).head (by omega)
          obtain ⟨gx, rfl, -⟩ := (hM.ints (.there (.there (.there (.there .here))))).head (by omega)
          have hI := allCT_I (hM.ints (.there .here)).wf hlt
          obtain ⟨c, hc⟩ : ∃ c, ls.getD k 0 = c := ⟨_, rfl⟩
          rw [hc] at hI
          have HV := Lib.hid hc; have HI := Lib.hid hI
          clear hc hI
          obtain ⟨q, hq⟩ : ∃ q, (goodB 20 W H xs && inB c 0 ((xs.length : Int) - 1)) = q := ⟨_, rfl⟩
          have HQ := Lib.hid hq
          have i0' : (0 : Int) ≤ (k : Int) := by omega
          have i1 : (k : Int) < (ls.length : Int) := by omega
          go_wp2_with fail
          apply Mem.atWpA
          · exact memA
          clear hM
          intro wst hM
          (try simp only [World.size_alloc, World.size_setCell, World.heap_drewN, heapDrew, Nat.add_assoc, Nat.reduceAdd, sA, List.cons_append, List.nil_append] at hM)
          cases q
          · clear hq
            refine AtT.startA hM hM 16 (by kernel_rfl) ?_
            clear hM
            intro wd hM
            have hS := hM
            refine AtT.tk 0 ?_ 59 ?_ hS ?_
            rotate_left
            · (intro wS hSw; (try dsimp only at hSw); have kr0 := (Mem.row hSw (.there (.there .here))).cell; have hcx := (hSw.ints (.there .here)).cellAt hlt; rw [HV.out] at hcx; go_simp; (try rw [if_neg (by omega)]); try with_reducible rfl)
            simp only [Act.put, sA]
            refine AtT.tk 1 ?_ 60 ?_ hS ?_
            rotate_left
            · (intro wS hSw; (try dsimp only at hSw); go_simp; (try rw [if_neg (by omega)]); try with_reducible rfl)
            simp only [Act.put, sA]
            refine AtT.tk 2 ?_ 61 ?_ hS ?_
            rotate_left
            · (intro wS hSw; (try dsimp only at hSw); go_simp; (try rw [if_neg (by omega)]); try with_reducible rfl)
            simp only [Act.put, sA]
            refine AtT.tk 3 ?_ 62 ?_ hS ?_
            rotate_left
            · (intro wS hSw; (try dsimp only at hSw); have kr0 := (Mem.row hSw (.there (.there .here))).cell; have hcx := (hSw.ints (.there .here)).cellAt hlt; rw [HV.out] at hcx; go_simp; (try rw [if_neg (by omega)]); try with_reducible rfl)
            simp only [Act.put, sA]
            refine AtT.tk 4 ?_ 63 ?_ hS ?_
            rotate_left
            · (intro wS hSw; (try dsimp only at hSw); have kr0 := (Mem.row hSw (.there (.there .here))).cell; have hcx := (hSw.ints (.there .here)).cellAt hlt; rw [HV.out] at hcx; go_simp; (try rw [if_neg (by omega)]); try with_reducible rfl)
            simp only [Act.put, sA]
            refine AtT.only (i := 5) (by kernel_rfl) rfl rfl ?_
            intro K hK
            go_simp
            refine (l2CellG_any W H (some ⟨gx, 0, none⟩) xs.length c1 xs c _ (hM.intsR (.there (.there (.there (.there .here)))))).mono ?_
            rw [HQ.out]
            rintro e w3 ⟨rfl, hb⟩
            replace hM := hM.ext hb
            clear hb
            try dsimp only
            refine hK.out _ _ (hM) ?_
            clear hK K hS
            have hS := hM
            refine AtT.tk 6 ?_ 65 ?_ hS ?_
            rotate_left
            · (intro wS hSw; (try dsimp only at hSw); go_simp; (try rw [if_neg (by omega)]); try with_reducible rfl)
            simp only [Act.put, sA]
            refine AtT.tn 7 66 hS ?_
            simp only [Act.put, sA]
            refine AtT.tn 8 67 hS ?_
            simp only [Act.put, sA]
            refine AtT.tn 9 68 hS ?_
            simp only [Act.put, sA]
            refine AtT.tn 10 69 hS ?_
            simp only [Act.put, sA]
            refine AtT.tn 11 70 hS ?_
            simp only [Act.put, sA]
            refine AtT.tn 12 71 hS ?_
            simp only [Act.put, sA]
            refine AtT.tn 13 72 hS ?_
            simp only [Act.put, sA]
            refine AtT.tn 14 73 hS ?_
            simp only [Act.put, sA]
            refine AtT.tn 15 74 hS ?_
            simp only [Act.put, sA]
            refine AtT.last (by kernel_rfl) rfl (by kernel_rfl) ?_
            intro K hK
            clear hS
            go_simp
            refine hK.out _ _ ?_
            clear hK K
            go_wp2
            go_roundw
            case rel => exact ⟨k + 1, a', c', cu, by omega, by go_num, rfl, by omega, HOK, (by (exact memA) : Mem _ _ _ [owE FCut 37 a' cu.length c' cu, intE (some ⟨gl, 0, none⟩) ls.length cl ls, rowE w.heap.size 26 #[.int .i64 W, .int .i64 H, .slice (some ⟨gx, 0, none⟩) xs.length c1], owE FPhase 128 a4 n4 c4 ph, intE (some ⟨gx, 0, none⟩) xs.length c1 xs, intE a2 n2 c2 ss, intE a3 n3 c3 ts, curE g ac nc cc A2, packE R]).curMore (.there (.there (.there (.there (.there (.there (.there .here))))))) (by have := HA2.out; omega)⟩
            case measure => simp [intOf]; omega
          rw [Bool.and_eq_true] at hq
          have hin := inB_true hq.2
          obtain ⟨j, rfl⟩ := Int.eq_ofNat_of_zero_le hin.1
          have hjn : j < xs.length := by omega
          clear hq hin
          obtain ⟨v, hv⟩ : ∃ v, xs.getD j 0 = v := ⟨_, rfl⟩
          have HXV := Lib.hid hv
          clear hv
          obtain ⟨q2, hq2⟩ : ∃ q2, decide (0 < v) = q2 := ⟨_, rfl⟩
          have j0 : (0 : Int) ≤ (j : Int) := by omega
          have j1 : (j : Int) < (xs.length : Int) := by omega
          refine AtT.startA hM hM 16 (by kernel_rfl) ?_
          clear hM
          intro wd hM
          have hS := hM
          refine AtT.tk 0 ?_ 59 ?_ hS ?_
          rotate_left
          · (intro wS hSw; (try dsimp only at hSw); have kr0 := (Mem.row hSw (.there (.there .here))).cell; have hcx := (hSw.ints (.there .here)).cellAt hlt; rw [HV.out] at hcx; have hcy := (hSw.ints (.there (.there (.there (.there .here))))).cellAt hjn; rw [HXV.out] at hcy; go_simp; (try rw [if_neg (by omega)]); try with_reducible rfl)
          simp only [Act.put, sA]
          refine AtT.tk 1 ?_ 60 ?_ hS ?_
          rotate_left
          · (intro wS hSw; (try dsimp only at hSw); go_simp; (try rw [if_neg (by omega)]); try with_reducible rfl)
          simp only [Act.put, sA]
          refine AtT.tk 2 ?_ 61 ?_ hS ?_
          rotate_left
          · (intro wS hSw; (try dsimp only at hSw); go_simp; (try rw [if_neg (by omega)]); try with_reducible rfl)
          simp only [Act.put, sA]
          refine AtT.tk 3 ?_ 62 ?_ hS ?_
          rotate_left
          · (intro wS hSw; (try dsimp only at hSw); have kr0 := (Mem.row hSw (.there (.there .here))).cell; have hcx := (hSw.ints (.there .here)).cellAt hlt; rw [HV.out] at hcx; have hcy := (hSw.ints (.there (.there (.there (.there .here))))).cellAt hjn; rw [HXV.out] at hcy; go_simp; (try rw [if_neg (by omega)]); try with_reducible rfl)
          simp only [Act.put, sA]
          refine AtT.tk 4 ?_ 63 ?_ hS ?_
          rotate_left
          · (intro wS hSw; (try dsimp only at hSw); have kr0 := (Mem.row hSw (.there (.there .here))).cell; have hcx := (hSw.ints (.there .here)).cellAt hlt; rw [HV.out] at hcx; have hcy := (hSw.ints (.there (.there (.there (.there .here))))).cellAt hjn; rw [HXV.out] at hcy; go_simp; (try rw [if_neg (by omega)]); try with_reducible rfl)
          simp only [Act.put, sA]
          refine AtT.only (i := 5) (by kernel_rfl) rfl rfl ?_
          intro K hK
          go_simp
          refine (l2CellG_any W H (some ⟨gx, 0, none⟩) xs.length c1 xs j _ (hM.intsR (.there (.there (.there (.there .here)))))).mono ?_
          rw [HQ.out]
          rintro e w3 ⟨rfl, hb⟩
          replace hM := hM.ext hb
          clear hb
          try dsimp only
          refine hK.out _ _ (hM) ?_
          clear hK K hS
          have hS := hM
          refine AtT.tk 6 ?_ 65 ?_ hS ?_
          rotate_left
          · (intro wS hSw; (try dsimp only at hSw); go_simp; (try rw [if_neg (by omega)]); try with_reducible rfl)
          simp only [Act.put, sA]
          refine AtT.tk 7 ?_ 66 ?_ hS ?_
          rotate_left
          · (intro wS hSw; (try dsimp only at hSw); go_simp; (try rw [if_neg (by omega)]); try with_reducible rfl)
          simp only [Act.put, sA]
          refine AtT.tk 8 ?_ 67 ?_ hS ?_
          rotate_left
          · (intro wS hSw; (try dsimp only at hSw); have kr0 := (Mem.row hSw (.there (.there .here))).cell; have hcx := (hSw.ints (.there .here)).cellAt hlt; rw [HV.out] at hcx; have hcy := (hSw.ints (.there (.there (.there (.there .here))))).cellAt hjn; rw [HXV.out] at hcy; go_simp; (try rw [if_neg (by omega)]); try with_reducible rfl)
          simp only [Act.put, sA]
          refine AtT.tk 9 ?_ 68 ?_ hS ?_
          rotate_left
          · (intro wS hSw; (try dsimp only at hSw); go_simp; (try rw [if_neg (by omega)]); try with_reducible rfl)
          simp only [Act.put, sA]
          refine AtT.tk 10 ?_ 69 ?_ hS ?_
          rotate_left
          · (intro wS hSw; (try dsimp only at hSw); go_simp; (try rw [if_neg (by omega)]); try with_reducible rfl)
          simp only [Act.put, sA]
          refine AtT.tk 11 ?_ 70 ?_ hS ?_
          rotate_left
          · (intro wS hSw; (try dsimp only at hSw); have kr0 := (Mem.row hSw (.there (.there .here))).cell; have hcx := (hSw.ints (.there .here)).cellAt hlt; rw [HV.out] at hcx; have hcy := (hSw.ints (.there (.there (.there (.there .here))))).cellAt hjn; rw [HXV.out] at hcy; go_simp; (try rw [if_neg (by omega)]); try with_reducible rfl)
          simp only [Act.put, sA]
          refine AtT.tk 12 ?_ 71 ?_ hS ?_
          rotate_left
          · (intro wS hSw; (try dsimp only at hSw); have kr0 := (Mem.row hSw (.there (.there .here))).cell; have hcx := (hSw.ints (.there .here)).cellAt hlt; rw [HV.out] at hcx; have hcy := (hSw.ints (.there (.there (.there (.there .here))))).cellAt hjn; rw [HXV.out] at hcy; go_simp; (try rw [if_neg (by omega)]); try with_reducible rfl)
          simp only [Act.put, sA]
          refine AtT.tk 13 ?_ 72 ?_ hS ?_
          rotate_left
          · (intro wS hSw; (try dsimp only at hSw); have kr0 := (Mem.row hSw (.there (.there .here))).cell; have hcx := (hSw.ints (.there .here)).cellAt hlt; rw [HV.out] at hcx; have hcy := (hSw.ints (.there (.there (.there (.there .here))))).cellAt hjn; rw [HXV.out] at hcy; go_simp; (try rw [if_neg (by omega)]); try with_reducible rfl)
          simp only [Act.put, sA]
          refine AtT.tk 14 ?_ 73 ?_ hS ?_
          rotate_left
          · (intro wS hSw; (try dsimp only at hSw); have kr0 := (Mem.row hSw (.there (.there .here))).cell; have hcx := (hSw.ints (.there .here)).cellAt hlt; rw [HV.out] at hcx; have hcy := (hSw.ints (.there (.there (.there (.there .here))))).cellAt hjn; rw [HXV.out] at hcy; go_simp; (try rw [if_neg (by omega)]); try with_reducible rfl)
          simp only [Act.put, sA]
          refine AtT.tk 15 ?_ 74 ?_ hS ?_
          rotate_left
          · (intro wS hSw; (try dsimp only at hSw); go_simp; (try rw [if_neg (by omega)]); try with_reducible rfl)
          simp only [Act.put, sA]
          refine AtT.last (by kernel_rfl) rfl (by kernel_rfl) ?_
          intro K hK
          clear hS
          go_simp
          refine hK.out _ _ ?_
          clear hK K
          cases q2
          · go_wp2
            go_roundw
            case rel => exact ⟨k + 1, a', c', cu, by omega, by go_num, rfl, by omega, HOK, (by (exact memA) : Mem _ _ _ [owE FCut 37 a' cu.length c' cu, intE (some ⟨gl, 0, none⟩) ls.length cl ls, rowE w.heap.size 26 #[.int .i64 W, .int .i64 H, .slice (some ⟨gx, 0, none⟩) xs.length c1], owE FPhase 128 a4 n4 c4 ph, intE (some ⟨gx, 0, none⟩) xs.length c1 xs, intE a2 n2 c2 ss, intE a3 n3 c3 ts, curE g ac nc cc A2, packE R]).curMore (.there (.there (.there (.there (.there (.there (.there .here))))))) (by have := HA2.out; omega)⟩
            case measure => simp [intOf]; omega
          go_wp2_with fail
          apply Mem.atWpA
          · exact memA
          clear hM
          intro wst hM
          (try simp only [World.size_alloc, World.size_setCell, World.heap_drewN, heapDrew, Nat.add_assoc, Nat.reduceAdd, sA, List.cons_append, List.nil_append] at hM)
          replace hM := hM.pick (is := [7, 0, 1, 2, 3, 4, 5, 6, 8]) (by decide) rfl
          dsimp only [List.filterMap_cons, List.filterMap_nil, List.getElem?_cons_zero, List.getElem?_cons_succ] at hM
          refine AtT.startA hM.tail.tail hM 10 (by kernel_rfl) ?_
          clear hM
          intro wd hM
          have hS := hM.tail.tail
          refine AtT.tk 0 ?_ 76 ?_ hS ?_
          rotate_left
          · (intro wS hSw; (try dsimp only at hSw); go_simp; (try rw [if_neg (by omega)]); try with_reducible rfl)
          simp only [Act.put, sA]
          refine AtT.tk 1 ?_ 77 ?_ hS ?_
          rotate_left
          · (intro wS hSw; (try dsimp only at hSw); go_simp; (try rw [if_neg (by omega)]); try with_reducible rfl)
          simp only [Act.put, sA]
          refine AtT.tk 2 ?_ 78 ?_ hS ?_
          rotate_left
          · (intro wS hSw; (try dsimp only at hSw); go_simp; (try rw [if_neg (by omega)]); try with_reducible rfl)
          simp only [Act.put, sA]
          refine AtT.tk 3 ?_ 79 ?_ hS ?_
          rotate_left
          · (intro wS hSw; (try dsimp only at hSw); have hcx := (hSw.ints .here).cellAt hlt; rw [HV.out] at hcx; go_simp; (try rw [if_neg (by omega)]); try with_reducible rfl)
          simp only [Act.put, sA]
          refine AtT.tk 4 ?_ 80 ?_ hS ?_
          rotate_left
          · (intro wS hSw; (try dsimp only at hSw); have hcx := (hSw.ints .here).cellAt hlt; rw [HV.out] at hcx; go_simp; (try rw [if_neg (by omega)]); try with_reducible rfl)
          simp only [Act.put, sA]
          refine AtT.tk 5 ?_ 81 ?_ hS ?_
          rotate_left
          · (intro wS hSw; (try dsimp only at hSw); go_simp; (try rw [if_neg (by omega)]); try with_reducible rfl)
          simp only [Act.put, sA]
          refine AtT.only (i := 6) (by kernel_rfl) rfl rfl ?_
          intro K hK
          go_simp
          refine (pick_any 40 HC.out hM .here (by omega)).mono ?_
          rintro e w3 ⟨r, hr, hr2, rfl, hm⟩
          have hr40 := pick_lt hr (by omega)
          clear hM hr
          have hM := hm
          clear hm
          try dsimp only at hM
          try dsimp only
          refine hK.out _ _ (hM.tail.tail) ?_
          clear hK K hS
          have hS := hM.tail.tail
          refine AtT.tk 7 ?_ 83 ?_ hS ?_
          rotate_left
          · (intro wS hSw; (try dsimp only at hSw); go_simp; (try rw [if_neg (by omega)]); try with_reducible rfl)
          simp only [Act.put, sA]
          refine AtT.only (i := 8) (by kernel_rfl) rfl rfl ?_
          intro K hK
          go_simp
          refine hK.out _ _ (by apply Mem.tail; apply Mem.tail; apply Mem.tail; (exact memA)) ?_
          clear hK K hS
          have hMp := hM
          apply Mem.atT
          · exact memA
          clear hM
          intro hM
          (try simp only [World.size_alloc, World.size_setCell, World.heap_drewN, heapDrew, Nat.add_assoc, Nat.reduceAdd, sA, List.cons_append, List.nil_append] at hM)
          have hS := hM.tail.tail.tail
          refine AtT.only (i := 9) (by kernel_rfl) rfl rfl ?_
          intro K hK
          refine step_appRM (F := FCut) hM (fun _ => (.there (.there .here))) (hM.oneRec (⟨(j : Int), (r : Int)⟩ : CutI) .here rfl (cutI HI.out (by omega)) (by decide)) (by show (cu.length + 1) * 2 ≤ _; omega) i0 (.agg #[.int .i64 0, .int .i64 0]) 16 hi hz0 hz1 hz2 rfl (by omega) rfl _ _ _ Tryz.underlying28 rfl rfl rfl ?_
          clear hM
          intro a6 c6 w6 hM
          try dsimp only
          refine hK.out _ _ (hM.tail.tail.tail) ?_
          clear hK K hS
          have hS := hM.tail.tail.tail
          refine AtT.last (by kernel_rfl) rfl (by kernel_rfl) ?_
          intro K hK
          clear hS
          go_simp
          refine hK.out _ _ ?_
          clear hK K
          go_wp2
          go_roundw
          case rel =>
            refine ⟨k + 1, a6, c6, cu ++ [⟨(j : Int), (r : Int)⟩], by omega, by go_num, by rw [cutL], by rw [cutL]; omega, Lib.hid (okCu_snoc HOK.out (by dsimp only; omega)), ?_⟩
            rw [cutL]
            apply Mem.curMore (hA := show A2 + 2 ≤ A + 40 + 2 * (k + 1) by have := HA2.out; omega) (p := (.there (.there (.there (.there (.there (.there (.there .here))))))))
            apply Mem.pick (is := [2, 3, 4, 5, 6, 7, 8, 1, 9])
            · exact memA
            · decide
            · rfl
          case measure => simp [intOf]; omega
      case rest =>
        clear hM HOK hcl
        obtain ⟨a', c', cu, rfl, hcl, HOK, hM⟩ := hcut
        obtain ⟨m, hm⟩ : ∃ m, cu.length = m := ⟨_, rfl⟩
        rw [hm] at hM hcl ⊢
        have HL := Lib.hid hm; clear hm
        go_wp2_with fail
        go_loopw [19] (fun s19 wr => ∃ (k : Nat) (cu : List CutI), k ≤ m ∧ s19 = .int .i64 k ∧ Hid (cu.length = m) ∧ Hid (okCu cu) ∧ Mem w0.heap.size w0 wr [owE FCut 37 a' m c' cu, intE al ls.length cl ls, rowE w.heap.size 26 #[.int .i64 W, .int .i64 H, .slice a1 xs.length c1], owE FPhase 128 a4 n4 c4 ph, intE a1 xs.length c1 xs, intE a2 n2 c2 ss, intE a3 n3 c3 ts, curE g ac nc cc (A + 60 + 4 * k), packE R]) (fun s19 _ => m - (intOf s19).toNat)
        case atStart => exact ⟨0, cu, Nat.zero_le _, rfl, HL, HOK, hM⟩
        case round =>
          clear hM HOK HL
          obtain ⟨k, cu, hk, rfl, HL, HOK, hM⟩ := hrel
          obtain ⟨A2, hA2⟩ : ∃ A2, A + 60 + 4 * k = A2 := ⟨_, rfl⟩
          rw [hA2] at hM
          have hA3 : A2 ≤ A + 108 := by omega
          have HA2 := Lib.hid hA2
          clear hA2
          by_cases hlt : k < m
          · skip
            go_wp2_with fail
            apply Mem.atA
            · exact memA
            clear hM
            intro wst hM
            (try simp only [World.size_alloc, World.size_setCell, World.heap_drewN, heapDrew, Nat.add_assoc, Nat.reduceAdd, sA, List.cons_append, List.nil_append] at hM)
            (first | refine (one_any 2 HC.out hM (.there (.there (.there (.there (.there (.there (.there .here))))))) (by omega)).mono ?_)
            rintro e wc6 ⟨b, rfl, hm⟩
            clear hM
            have hM := hm
            clear hm
            try dsimp only at hM
            cases b
            · go_wp2
              go_roundw
              case rel => exact ⟨k + 1, cu, by omega, by go_num, HL, HOK, hM.curMore (.there (.there (.there (.there (.there (.there (.there .here))))))) (by have := HA2.out; omega)⟩
              case measure => simp [intOf]; omega
            obtain ⟨gc, rfl, -⟩ := (hM.ow .here).head (by omega)
            have hltc : k < cu.length := by rw [HL.out]; exact hlt
            have hvb := okCu_get HOK.out hltc
            have hwf := (hM.ow .here).wf (cu.getD k CutI.zero) (by
              rw [List.getD_eq_getElem?_getD, List.getElem?_eq_getElem hltc]
              exact List.getElem_mem _)
            obtain ⟨v, hv⟩ : ∃ v, cu.getD k CutI.zero = v := ⟨_, rfl⟩
            rw [hv] at hvb hwf
            obtain ⟨vc, vt⟩ := v
            dsimp only at hvb
            have HV := Lib.hid hv; have HW := Lib.hid hwf.1
            clear hv hwf
            have i0' : (0 : Int) ≤ (k : Int) := by omega
            clear hltc
            have i1 : (k : Int) < (m : Int) := by omega
            go_wp2_with fail
            apply Mem.atWpA
            · exact memA
            clear hM
            intro wst hM
            (try simp only [World.size_alloc, World.size_setCell, World.heap_drewN, heapDrew, Nat.add_assoc, Nat.reduceAdd, sA, List.cons_append, List.nil_append] at hM)
            replace hM := hM.pick (is := [7, 0, 1, 2, 3, 4, 5, 6, 8]) (by decide) rfl
            dsimp only [List.filterMap_cons, List.filterMap_nil, List.getElem?_cons_zero, List.getElem?_cons_succ] at hM
            refine AtT.startA hM.tail hM 19 (by kernel_rfl) ?_
            clear hM
            intro wd hM
            have hS := hM.tail
            refine AtT.tk 0 ?_ 94 ?_ hS ?_
            rotate_left
            · (intro wS hSw; (try dsimp only at hSw); go_simp; (try rw [if_neg (by omega)]); try with_reducible rfl)
            simp only [Act.put, sA]
            refine AtT.tk 1 ?_ 95 ?_ hS ?_
            rotate_left
            · (intro wS hSw; (try dsimp only at hSw); go_simp; (try rw [if_neg (by omega)]); try with_reducible rfl)
            simp only [Act.put, sA]
            refine AtT.tk 2 ?_ 96 ?_ hS ?_
            rotate_left
            · (intro wS hSw; (try dsimp only at hSw); go_simp; (try rw [if_neg (by omega)]); try with_reducible rfl)
            simp only [Act.put, sA]
            refine AtT.tk 3 ?_ 97 ?_ hS ?_
            rotate_left
            · (intro wS hSw; (try dsimp only at hSw); go_simp; (try rw [if_neg (by omega)]); try with_reducible rfl)
            simp only [Act.put, sA]
            refine AtT.tk 4 ?_ 98 ?_ hS ?_
            rotate_left
            · (intro wS hSw; (try dsimp only at hSw); have hcx := ((hSw.ow .here).cellCut hlt).1; have hcy := ((hSw.ow .here).cellCut hlt).2; rw [HV.out] at hcx hcy; dsimp only at hcx hcy; go_simp; (try rw [if_neg (by omega)]); try with_reducible rfl)
            simp only [Act.put, sA]
            refine AtT.tk 5 ?_ 99 ?_ hS ?_
            rotate_left
            · (intro wS hSw; (try dsimp only at hSw); go_simp; (try rw [if_neg (by omega)]); try with_reducible rfl)
            simp only [Act.put, sA]
            refine AtT.tk 6 ?_ 100 ?_ hS ?_
            rotate_left
            · (intro wS hSw; (try dsimp only at hSw); have hcx := ((hSw.ow .here).cellCut hlt).1; have hcy := ((hSw.ow .here).cellCut hlt).2; rw [HV.out] at hcx hcy; dsimp only at hcx hcy; go_simp; (try rw [if_neg (by omega)]); try with_reducible rfl)
            simp only [Act.put, sA]
            refine AtT.tk 7 ?_ 101 ?_ hS ?_
            rotate_left
            · (intro wS hSw; (try dsimp only at hSw); go_simp; (try rw [if_neg (by omega)]); try with_reducible rfl)
            simp only [Act.put, sA]
            refine AtT.tk 8 ?_ 102 ?_ hS ?_
            rotate_left
            · (intro wS hSw; (try dsimp only at hSw); go_simp; (try rw [if_neg (by omega)]); try with_reducible rfl)
            simp only [Act.put, sA]
            refine AtT.tk 9 ?_ 103 ?_ hS ?_
            rotate_left
            · (intro wS hSw; (try dsimp only at hSw); have hcx := ((hSw.ow .here).cellCut hlt).1; have hcy := ((hSw.ow .here).cellCut hlt).2; rw [HV.out] at hcx hcy; dsimp only at hcx hcy; go_simp; (try rw [if_neg (by omega)]); try with_reducible rfl)
            simp only [Act.put, sA]
            refine AtT.tk 10 ?_ 104 ?_ hS ?_
            rotate_left
            · (intro wS hSw; (try dsimp only at hSw); go_simp; (try rw [if_neg (by omega)]); try with_reducible rfl)
            simp only [Act.put, sA]
            refine AtT.tk 11 ?_ 105 ?_ hS ?_
            rotate_left
            · (intro wS hSw; (try dsimp only at hSw); have hcx := ((hSw.ow .here).cellCut hlt).1; have hcy := ((hSw.ow .here).cellCut hlt).2; rw [HV.out] at hcx hcy; dsimp only at hcx hcy; go_simp; (try rw [if_neg (by omega)]); try with_reducible rfl)
            simp only [Act.put, sA]
            refine AtT.tk 13 ?_ 107 ?_ hS ?_
            rotate_left
            · (intro wS hSw; (try dsimp only at hSw); go_simp; (try rw [if_neg (by omega)]); try with_reducible rfl)
            simp only [Act.put, sA]
            refine AtT.only (i := 12) (by kernel_rfl) rfl rfl ?_
            intro K hK
            go_simp
            refine (l1Least_any vt 200 _).mono ?_
            rintro e w3 ⟨rfl, rfl⟩
            try dsimp only
            refine hK.out _ _ (hM.tail) ?_
            clear hK K hS
            have hS := hM.tail
            refine AtT.only (i := 14) (by kernel_rfl) rfl rfl ?_
            intro K hK
            go_simp
            refine (pick_any 8 HC.out hM .here (by omega)).mono ?_
            rintro e w4 ⟨r, hr, hr2, rfl, hm⟩
            have hr8 := pick_lt hr (by omega)
            have hw : IntKind.i64.wrap (minI vt 200 - (r : Int)) = minI vt 200 - (r : Int) := wrap_in (by unfold minI; split <;> omega)
            clear hM hr
            have hM := hm
            clear hm
            try dsimp only at hM
            try dsimp only
            refine hK.out _ _ (hM.tail) ?_
            clear hK K hS
            have hS := hM.tail
            refine AtT.tk 15 ?_ 109 ?_ hS ?_
            rotate_left
            · (intro wS hSw; (try dsimp only at hSw); go_simp; (try rw [if_neg (by omega)]); try with_reducible rfl)
            simp only [Act.put, sA]
            refine AtT.only (i := 16) (by kernel_rfl) rfl rfl ?_
            intro K hK
            go_simp
            refine (l1Most_any 0 (minI vt 200 - (r : Int)) _).mono ?_
            rintro e w5 ⟨rfl, rfl⟩
            try dsimp only
            refine hK.out _ _ (hM.tail) ?_
            clear hK K hS
            have hS := hM.tail
            refine AtT.tk 17 ?_ 111 ?_ hS ?_
            rotate_left
            · (intro wS hSw; (try dsimp only at hSw); go_simp; (try rw [if_neg (by omega)]); try with_reducible rfl)
            simp only [Act.put, sA]
            refine AtT.tk 18 ?_ 112 ?_ hS ?_
            rotate_left
            · (intro wS hSw; (try dsimp only at hSw); have hcx := ((hSw.ow .here).cellCut hlt).1; have hcy := ((hSw.ow .here).cellCut hlt).2; rw [HV.out] at hcx hcy; dsimp only at hcx hcy; go_simp; (try rw [if_neg (by omega)]); try with_reducible rfl)
            simp only [Act.put, sA]
            refine AtT.last (by kernel_rfl) rfl (by kernel_rfl) ?_
            intro K hK
            clear hS
            have hO := hM.ow (.there .here)
            obtain ⟨q0, q1⟩ := hO.cellCut hlt
            have hfr := hO.free
            have hti := hO.till _ ⟨_, rfl, rfl⟩
            go_simp
            refine hK.out _ _ ?_
            clear hK K
            clear q0 q1 hfr hti hO
            have hok := putC_ok (c := vc) (r := r) hvb (by omega)
            apply Mem.atEx (hM.putCut (k := k) hlt (putC vc vt r) (putC_wf HW.out hvb (by omega)) (.there .here))
            clear hM
            intro wst hM
            go_wp2
            go_roundw
            case rel =>
              refine ⟨k + 1, cu.set k (putC vc vt r), by omega, by go_num, Lib.hid (by rw [List.length_set]; exact HL.out), Lib.hid (okCu_set HOK.out (by omega)), ?_⟩
              apply Mem.curMore (hA := show A2 + 2 + 2 ≤ A + 60 + 4 * (k + 1) by have := HA2.out; omega) (p := (.there (.there (.there (.there (.there (.there (.there .here))))))))
              apply Mem.pick (is := [1, 2, 3, 4, 5, 6, 7, 0, 8])
              · exact memA
              · decide
              · rfl
            case measure => simp [intOf]; omega
          · obtain rfl : k = m := by omega
            obtain rfl := HL.out
            replace hM := hM.curMore (A' := A + 120) (.there (.there (.there (.there (.there (.there (.there .here))))))) (by omega)
            clear HA2 hA3
            go_wp2_with fail
            apply Mem.atA
            · exact memA
            clear hM
            intro wst hM
            (try simp only [World.size_alloc, World.size_setCell, World.heap_drewN, heapDrew, Nat.add_assoc, Nat.reduceAdd, sA, List.cons_append, List.nil_append] at hM)
            (first | refine (pick_any 24 HC.out hM (.there (.there (.there (.there (.there (.there (.there .here))))))) (by omega)).mono ?_)
            rintro e wc7 ⟨r, hr, hr2, rfl, hm⟩
            clear hM
            have hM := hm
            clear hm
            try dsimp only at hM
            clear hr
            by_cases q0 : r = 0
            · subst q0
              obtain ⟨k2, f2, l2⟩ := hM.row (.there (.there .here))
              go_wp2_with fail
              clear k2 f2 l2
              apply Mem.atA
              · exact memA
              clear hM
              intro wst hM
              (try simp only [World.size_alloc, World.size_setCell, World.heap_drewN, heapDrew, Nat.add_assoc, Nat.reduceAdd, sA, List.cons_append, List.nil_append] at hM)
              (first | refine (cellOf_any W H a1 xs.length c1 hxl.2 HC.out hM (.there (.there (.there (.there (.there (.there (.there .here))))))) (by omega)).mono ?_)
              rintro e wc8 ⟨x, hx, rfl, hm⟩
              clear hM
              have hM := hm
              clear hm
              try dsimp only at hM
              go_wp2_with fail
              apply Mem.atA
              · exact memA
              clear hM
              intro wst hM
              (try simp only [World.size_alloc, World.size_setCell, World.heap_drewN, heapDrew, Nat.add_assoc, Nat.reduceAdd, sA, List.cons_append, List.nil_append] at hM)
              (first | refine (tickD_any HC.out hM (.there (.there (.there (.there (.there (.there (.there .here))))))) (by omega)).mono ?_)
              rintro e wc9 ⟨y, hy, rfl, hm⟩
              clear hM
              have hM := hm
              clear hm
              try dsimp only at hM
              go_wp2_with (at_builtin; apply Mem.atL; (focus ((exact memA); done)); clear hM; intro hM; refine wpList_pushR (F := FCut) (⟨x, y⟩ : CutI) hM (fun _ => .here) rfl (cutI (by unfold I64; omega) (by omega)) (by decide) (by show (cu.length + 1) * 2 ≤ _; omega) i0 (.agg #[.int .i64 0, .int .i64 0]) 16 hi hz0 hz1 hz2 rfl (by omega) rfl _ _ _ Tryz.underlying28 rfl rfl rfl ?_)
              intro a9 c9 w9 hM
              go_wp2
              go_ret
              refine ⟨a9, c9, cu ++ [⟨x, y⟩], by rw [cutL]; omega, by rw [cutL]; rfl, ?_⟩
              rw [cutL]
              apply Mem.curMore (hA := show A + 120 + 2 + 4 + 4 ≤ A + 300 by omega) (p := .there (.there (.there (.there (.there .here)))))
              apply Mem.pick (is := [0, 3, 4, 5, 6, 7, 8])
              · exact memA
              · decide
              · rfl
            by_cases q1 : r = 1
            rotate_left
            · have q0' : ¬ (r : Int) = 0 := by omega
              have q1' : ¬ (r : Int) = 1 := by omega
              go_wp2
              go_ret
              refine ⟨a', c', cu, by omega, rfl, ?_⟩
              apply Mem.curMore (hA := show A + 120 + 2 ≤ A + 300 by omega) (p := .there (.there (.there (.there (.there .here)))))
              apply Mem.pick (is := [0, 3, 4, 5, 6, 7, 8])
              · exact memA
              · decide
              · rfl
            subst q1
            by_cases hpos : 0 < cu.length
            rotate_left
            · have hpn : ¬ (0 : Int) < (cu.length : Int) := by omega
              go_wp2
              go_ret
              refine ⟨a', c', cu, by omega, rfl, ?_⟩
              apply Mem.curMore (hA := show A + 120 + 2 ≤ A + 300 by omega) (p := .there (.there (.there (.there (.there .here)))))
              apply Mem.pick (is := [0, 3, 4, 5, 6, 7, 8])
              · exact memA
              · decide
              · rfl
            obtain ⟨gc, rfl, -⟩ := (hM.ow .here).head hpos
            have hvb := okCu_get HOK.out hpos
            have hwf := (hM.ow .here).wf (cu.getD 0 CutI.zero) (by
              rw [List.getD_eq_getElem?_getD, List.getElem?_eq_getElem hpos]
              exact List.getElem_mem _)
            obtain ⟨v, hv⟩ : ∃ v, cu.getD 0 CutI.zero = v := ⟨_, rfl⟩
            rw [hv] at hvb hwf
            obtain ⟨vc, vt⟩ := v
            dsimp only at hvb
            have HV := Lib.hid hv; have HW := Lib.hid hwf.1
            clear hv hwf
            have hpp : (0 : Int) < (cu.length : Int) := by omega
            have hw1 : IntKind.i64.wrap (vt + 1) = vt + 1 := wrap_in (by omega)
            go_wp2_with fail
            apply Mem.atWpA
            · exact memA
            clear hM
            intro wst hM
            (try simp only [World.size_alloc, World.size_setCell, World.heap_drewN, heapDrew, Nat.add_assoc, Nat.reduceAdd, sA, List.cons_append, List.nil_append] at hM)
            replace hM := hM.pick (is := [7, 0, 1, 2, 3, 4, 5, 6, 8]) (by decide) rfl
            dsimp only [List.filterMap_cons, List.filterMap_nil, List.getElem?_cons_zero, List.getElem?_cons_succ] at hM
            refine AtT.startA hM.tail hM 15 (by kernel_rfl) ?_
            clear hM
            intro wd hM
            have hS := hM.tail
            refine AtT.tk 0 ?_ 131 ?_ hS ?_
            rotate_left
            · (intro wS hSw; (try dsimp only at hSw); go_simp; (try rw [if_neg (by omega)]); try with_reducible rfl)
            simp only [Act.put, sA]
            refine AtT.tk 1 ?_ 132 ?_ hS ?_
            rotate_left
            · (intro wS hSw; (try dsimp only at hSw); go_simp; (try rw [if_neg (by omega)]); try with_reducible rfl)
            simp only [Act.put, sA]
            refine AtT.tk 2 ?_ 133 ?_ hS ?_
            rotate_left
            · (intro wS hSw; (try dsimp only at hSw); have hcx := ((hSw.ow .here).cellCut hpos).1; have hcy := ((hSw.ow .here).cellCut hpos).2; rw [HV.out] at hcx hcy; simp only [Nat.zero_mul, Nat.zero_add] at hcx hcy; go_simp; (try rw [if_neg (by omega)]); try with_reducible rfl)
            simp only [Act.put, sA]
            refine AtT.tk 3 ?_ 134 ?_ hS ?_
            rotate_left
            · (intro wS hSw; (try dsimp only at hSw); go_simp; (try rw [if_neg (by omega)]); try with_reducible rfl)
            simp only [Act.put, sA]
            refine AtT.tk 4 ?_ 135 ?_ hS ?_
            rotate_left
            · (intro wS hSw; (try dsimp only at hSw); have hcx := ((hSw.ow .here).cellCut hpos).1; have hcy := ((hSw.ow .here).cellCut hpos).2; rw [HV.out] at hcx hcy; simp only [Nat.zero_mul, Nat.zero_add] at hcx hcy; go_simp; (try rw [if_neg (by omega)]); try with_reducible rfl)
            simp only [Act.put, sA]
            refine AtT.tk 5 ?_ 136 ?_ hS ?_
            rotate_left
            · (intro wS hSw; (try dsimp only at hSw); go_simp; (try rw [if_neg (by omega)]); try with_reducible rfl)
            simp only [Act.put, sA]
            refine AtT.tk 6 ?_ 137 ?_ hS ?_
            rotate_left
            · (intro wS hSw; (try dsimp only at hSw); go_simp; (try rw [if_neg (by omega)]); try with_reducible rfl)
            simp only [Act.put, sA]
            refine AtT.tk 7 ?_ 138 ?_ hS ?_
            rotate_left
            · (intro wS hSw; (try dsimp only at hSw); have hcx := ((hSw.ow .here).cellCut hpos).1; have hcy := ((hSw.ow .here).cellCut hpos).2; rw [HV.out] at hcx hcy; simp only [Nat.zero_mul, Nat.zero_add] at hcx hcy; go_simp; (try rw [if_neg (by omega)]); try with_reducible rfl)
            simp only [Act.put, sA]
            refine AtT.tk 8 ?_ 139 ?_ hS ?_
            rotate_left
            · (intro wS hSw; (try dsimp only at hSw); go_simp; (try rw [if_neg (by omega)]); try with_reducible rfl)
            simp only [Act.put, sA]
            refine AtT.tk 9 ?_ 140 ?_ hS ?_
            rotate_left
            · (intro wS hSw; (try dsimp only at hSw); have hcx := ((hSw.ow .here).cellCut hpos).1; have hcy := ((hSw.ow .here).cellCut hpos).2; rw [HV.out] at hcx hcy; simp only [Nat.zero_mul, Nat.zero_add] at hcx hcy; go_simp; (try rw [if_neg (by omega)]); try with_reducible rfl)
            simp only [Act.put, sA]
            refine AtT.tk 10 ?_ 141 ?_ hS ?_
            rotate_left
            · (intro wS hSw; (try dsimp only at hSw); go_simp; (try rw [if_neg (by omega)]); try with_reducible rfl)
            simp only [Act.put, sA]
            refine AtT.only (i := 11) (by kernel_rfl) rfl rfl ?_
            intro K hK
            go_simp
            refine hK.out _ _ (by apply Mem.tail; apply Mem.tail; (exact memA)) ?_
            clear hK K hS
            have hMp := hM
            apply Mem.atT
            · exact memA
            clear hM
            intro hM
            (try simp only [World.size_alloc, World.size_setCell, World.heap_drewN, heapDrew, Nat.add_assoc, Nat.reduceAdd, sA, List.cons_append, List.nil_append] at hM)
            have hS := hM.tail.tail
            refine AtT.only (i := 12) (by kernel_rfl) rfl rfl ?_
            intro K hK
            go_simp
            refine (among_any [-1, 9999, 10000, vt + 1] HC.out hM (.there .here) (fun _ => .here) rfl (by decide) (by simp) (by omega) (by decide)).mono ?_
            rintro e w4 ⟨x, hx, rfl, hm⟩
            have hxb : -1 ≤ x ∧ x ≤ 10003 := (by simp only [List.mem_cons, List.mem_nil_iff, or_false] at hx; omega)
            clear hM hx
            have hM := hm
            clear hm
            try dsimp only at hM
            try dsimp only
            refine hK.out _ _ (hM.tail.tail) ?_
            clear hK K hS
            have hS := hM.tail.tail
            refine AtT.tk 13 ?_ 144 ?_ hS ?_
            rotate_left
            · (intro wS hSw; (try dsimp only at hSw); go_simp; (try rw [if_neg (by omega)]); try with_reducible rfl)
            simp only [Act.put, sA]
            refine AtT.tk 14 ?_ 145 ?_ hS ?_
            rotate_left
            · (intro wS hSw; (try dsimp only at hSw); have hcx := ((hSw.ow .here).cellCut hpos).1; have hcy := ((hSw.ow .here).cellCut hpos).2; rw [HV.out] at hcx hcy; simp only [Nat.zero_mul, Nat.zero_add] at hcx hcy; go_simp; (try rw [if_neg (by omega)]); try with_reducible rfl)
            simp only [Act.put, sA]
            refine AtT.last (by kernel_rfl) rfl (by kernel_rfl) ?_
            intro K hK
            clear hS
            have kk0 := (hM.row .here).cell
            have ff0 := (hM.row .here).free
            have ll0 := (hM.row .here).lt
            have hO := hM.ow (.there (.there .here))
            obtain ⟨q0, q1⟩ := hO.cellCut hpos
            simp only [Nat.zero_mul, Nat.zero_add] at q0 q1
            have hfr := hO.free
            have hti := hO.till _ ⟨_, rfl, rfl⟩
            go_simp
            clear kk0 ff0 ll0
            refine hK.out _ _ ?_
            clear hK K
            clear q0 q1 hfr hti hO
            have hp := hM.putCut (k := 0) hpos ⟨vc, x⟩ (cutI HW.out (by omega)) (.there (.there .here))
            simp only [Nat.zero_mul, Nat.zero_add] at hp
            apply Mem.atEx hp
            clear hM hp
            intro wst hM
            go_wp2
            go_ret
            refine ⟨some ⟨gc, 0, none⟩, c', cu.set 0 ⟨vc, x⟩, by rw [List.length_set]; omega, by rw [List.length_set]; rfl, ?_⟩
            rw [List.length_set]
            apply Mem.curMore (hA := show A + 120 + 2 + 2 ≤ A + 300 by omega) (p := .there (.there (.there (.there (.there .here)))))
            apply Mem.pick (is := [2, 5, 6, 7, 8, 1, 9])
            · exact memA
            · decide
            · rfl
end Go.Proofs.YtojfbcgfeojdfaaGreat
