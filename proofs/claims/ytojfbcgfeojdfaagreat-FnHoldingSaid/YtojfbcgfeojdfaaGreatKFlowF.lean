/-
  The reference's l9First and BestLine.
-/
import Derived.Test.YtojfbcgfeojdfaaGreatKFlowL
/-
  The reference's l9First and BestLine.
-/
namespace Go.Proofs.YtojfbcgfeojdfaaGreat
set_option linter.unusedSimpArgs false
set_option linter.unusedVariables false
open Go.RowKit

theorem HeadP.out2 {B : Nat} {w0 w : World} {F : Ent → List Ent} {R : List Ent} {e : Ent} (h : HeadP F R) (hM : Mem B w0 w [e, packE R]) : Mem B w0 w (F e) := (h B w0 w [] e).2 hM
set_option maxRecDepth 100000 in
set_option maxHeartbeats 8000000 in
theorem l9First_any (W Hn : Nat) (a : Option Addr) (n c : Nat) (xs : List Int) (a1 : Option Addr) (n1 c1 : Nat) (ss : List Int) (a2 : Option Addr) (n2 c2 : Nat) (ts : List Int) (w0 : World) (h : Ints w0 a n c xs) (h1 : Ints w0 a1 n1 c1 ss) (h2 : Ints w0 a2 n2 c2 ts) (hnp : 0 < n) (hn25 : n ≤ 25) (hW : 1 ≤ W ∧ W ≤ 5) (hs : setB n ss = true) (hxs : ∀ x ∈ xs, 0 ≤ x) :
    ∀ (k : Nat) (G : List Ent) (F : Ent → List Ent) (g3 m c3 : Nat) (begun : List Int) (cells : Nat) (w : World), (hk : k ≤ 100) → (hcl : m + k ≤ cells ∧ cells ≤ m + k) → (hset : setB n begun = true) → (hM : Mem w0.heap.size w0 w G) → (p : At G (intE (some ⟨g3, 0, none⟩) m c3 begun) F) →
    Calls Tryz.prog 145 #[.agg #[.int .i64 W, .int .i64 Hn, .slice a n c], .slice a1 n1 c1, .slice a2 n2 c2, .slice (some ⟨g3, 0, none⟩) m c3, .int .i64 cells] w fun e w' => ∃ (g4 m4 c4 : Nat) (out : List Int), e = .returned (.tuple #[.slice (some ⟨g4, 0, none⟩) m4 c4, .bool (extL W n xs ss ts k begun (fromL begun)).isSome]) ∧ (∀ r, extL W n xs ss ts k begun (fromL begun) = some r → out = r) ∧ Mem w0.heap.size w0 w' (F (intE (some ⟨g4, 0, none⟩) m4 c4 out)) := by
  have HXS := Lib.hid hxs
  clear hxs
  intro k
  induction k with
  | zero =>
    intro G F g3 m c3 begun cells w hk hcl hset hM p
    obtain ⟨R, hR⟩ : ∃ R, HeadP F R := p.head
    have HR := Lib.hid hR; clear hR
    rw [← p.self] at hM
    replace hM := HR.out.in hM
    have hme : ((m : Int) == (cells : Int)) = true := by simp; omega
    obtain ⟨q, hq⟩ : ∃ q, lineB W n xs ss ts begun = q := ⟨_, rfl⟩
    have HQ := Lib.hid hq
    have HEX := Lib.hid (show extL W n xs ss ts 0 begun (fromL begun) = if q then some begun else none by rw [extL, hq])
    clear p hq hcl
    go_enter Tryz.func145, Tryz.ntmps145
    go_wp2_with fail
    apply Mem.atA
    · exact memA
    clear hM
    intro wst hM
    (try simp only [World.size_alloc, World.size_setCell, World.heap_drewN, heapDrew, Nat.add_assoc, Nat.reduceAdd, sA, List.cons_append, List.nil_append] at hM)
    (first | refine (l9Line_any W Hn a n c xs a1 n1 c1 ss a2 n2 c2 ts (some ⟨g3, 0, none⟩) m c3 begun _ (h.ext hM.below) (h1.ext hM.below) (h2.ext hM.below) (hM.intsR (.there .here)) hnp hn25 hW hs hset HXS.out).mono ?_)
    rw [HQ.out]
    rintro e wc1 ⟨rfl, hb⟩
    replace hM := hM.ext hb
    clear hb
    replace hM := hM.tail
    go_wp2
    go_ret2
    refine ⟨g3, m, c3, begun, ?_, fun r hr => ?_, ?_⟩
    · rw [HEX.out]; cases q <;> rfl
    · rw [HEX.out] at hr
      cases q
      · cases hr
      · injection hr
    · exact HR.out.out2 hM
  | succ k IH =>
    intro G F g3 m c3 begun cells w hk hcl hset hM p
    obtain ⟨R, hR⟩ : ∃ R, HeadP F R := p.head
    have HR := Lib.hid hR; clear hR
    rw [← p.self] at hM
    replace hM := HR.out.in hM
    have hme : ((m : Int) == (cells : Int)) = false := by simp; omega
    have hlen := (hM.ints .here).len
    have hml := setB_len hset
    have hfl := fromL_le hset
    obtain ⟨f, hf⟩ : ∃ f, fromL begun = f := ⟨_, rfl⟩
    rw [hf] at hfl ⊢
    have HF := Lib.hid hf
    have HSET := Lib.hid hset
    have HIH := Lib.hid IH
    have HLEN := Lib.hid hlen
    clear p hf hset IH
    go_enter Tryz.func145, Tryz.ntmps145
    go_upto_if 30 with fail
    go_cut [12] (fun s12 wx => s12 = .int .i64 f ∧ Mem w0.heap.size w0 wx [rowE w.heap.size 26 #[.int .i64 W, .int .i64 Hn, .slice a n c], intE (some ⟨g3, 0, none⟩) m c3 begun, packE R])
    case first =>
      by_cases hm0 : m = 0
      · subst hm0
        have hf0 : f = 0 := by rw [← HF.out]; unfold fromL; rw [if_pos (by omega)]
        subst hf0
        go_wp2_with fail
        go_meet
        exact ⟨rfl, by (exact memA)⟩
      · have hmm : 0 < m := by omega
        obtain ⟨j, hj⟩ : ∃ j, m = j + 1 := ⟨m - 1, by omega⟩
        obtain ⟨d0, d1⟩ := (setB_iff.1 HSET.out).2 _ (getD_mem (xs := begun) (k := j) (by omega))
        obtain ⟨d, hd⟩ := Int.eq_ofNat_of_zero_le d0
        have hf1 : f = d + 1 := by
          rw [← HF.out]; unfold fromL
          rw [if_neg (by omega), show begun.length - 1 = j by omega, hd, Int.toNat_natCast]
        rw [hd] at d0 d1
        have hce := (hM.ints .here).cellAt (k := j) (by omega)
        have hlg := (hM.ints .here).till _ ⟨_, rfl, rfl⟩
        rw [hd] at hce
        have hw1 : IntKind.i64.wrap ((m : Int) - 1) = (j : Int) := by rw [wrap_in (by omega)]; omega
        have hw2 : IntKind.i64.wrap ((d : Int) + 1) = (f : Int) := by rw [wrap_in (by omega)]; omega
        have j0 : (0 : Int) ≤ (j : Int) := by omega
        have j1 : (j : Int) < (m : Int) := by omega
        have m0 : (0 : Int) < (m : Int) := by omega
        clear hd hj hf1
        go_wp2_with fail
        go_meet
        exact ⟨rfl, by (exact memA)⟩
    case rest =>
      clear hM
      obtain ⟨rfl, hM⟩ := hcut
      go_wp2_with fail
      go_loopw [14] (fun s14 wr => ∃ j : Nat, j ≤ n ∧ f ≤ j ∧ s14 = .int .i64 j ∧ Hid (extTo W n xs ss ts k begun f j = none) ∧ Mem w0.heap.size w0 wr [rowE w.heap.size 26 #[.int .i64 W, .int .i64 Hn, .slice a n c], intE (some ⟨g3, 0, none⟩) m c3 begun, packE R]) (fun s14 _ => n - (intOf s14).toNat)
      case atStart => exact ⟨f, hfl, Nat.le_refl _, rfl, Lib.hid (extTo_zero f (Nat.le_refl _)), hM⟩
      case round =>
        clear hM
        obtain ⟨j, hj, hfj, rfl, HT, hM⟩ := hrel
        by_cases hlt : j < n
        rotate_left
        · obtain rfl : n = j := by omega
          have HEX := Lib.hid (show extL W n xs ss ts (k + 1) begun f = none from HT.out)
          obtain ⟨k0, f0, l0⟩ := hM.row .here
          go_wp2
          go_ret2
          refine ⟨_, 0, 0, [], by rw [HEX.out]; rfl, fun r hr => ?_, ?_⟩
          · rw [HEX.out] at hr
            cases hr
          · apply HR.out.out2
            apply Mem.pick (is := [0, 3])
            · exact (hM.alloc #[] 3).toInts (xs := []) .here rfl (by simp) (by simp)
            · decide
            · rfl
        obtain ⟨fb, hfb⟩ : ∃ fb, freeN xs ss ts j = fb := ⟨_, rfl⟩
        have HS := Lib.hid (extTo_succ HT.out)
        have HFB := Lib.hid hfb; clear hfb
        obtain ⟨k0, f0, l0⟩ := hM.row .here
        go_wp2_with fail
        clear k0 f0 l0
        apply Mem.atA
        · exact memA
        clear hM
        intro wst hM
        (try simp only [World.size_alloc, World.size_setCell, World.heap_drewN, heapDrew, Nat.add_assoc, Nat.reduceAdd, sA, List.cons_append, List.nil_append] at hM)
        (first | refine (l9Free_any W Hn a n c xs a1 n1 c1 ss a2 n2 c2 ts j _ (h.ext hM.below) (h1.ext hM.below) (h2.ext hM.below) hlt).mono ?_)
        rw [HFB.out]
        rintro e wc2 ⟨rfl, hb⟩
        replace hM := hM.ext hb
        clear hb
        cases fb
        · go_wp2
          go_roundw
          case rel => exact ⟨j + 1, by omega, by omega, by go_num, Lib.hid (by rw [HS.out, HFB.out]; simp), hM⟩
          case measure => simp [intOf]; omega
        have hs2 : extTo W n xs ss ts k begun f (j + 1) = extL W n xs ss ts k (begun ++ [(j : Int)]) (j + 1) := by
          rw [HS.out, HFB.out, if_pos (by simp; omega)]
        have HS2 := Lib.hid hs2
        have HB2 := Lib.hid (setB_snoc (x := j) HSET.out hlt (by rw [HF.out]; exact hfj))
        have HFR := Lib.hid (fromL_snoc (begun := begun) (x := j))
        clear HS HFB hs2
        obtain ⟨r, hr⟩ : ∃ r, extL W n xs ss ts k (begun ++ [(j : Int)]) (j + 1) = r := ⟨_, rfl⟩
        have HRR := Lib.hid hr; clear hr
        obtain ⟨k0, f0, l0⟩ := hM.row .here
        go_upto_region 11 with fail
        clear k0 f0 l0
        apply Mem.atWpA
        · exact memA
        clear hM
        intro wst hM
        (try simp only [World.size_alloc, World.size_setCell, World.heap_drewN, heapDrew, Nat.add_assoc, Nat.reduceAdd, sA, List.cons_append, List.nil_append] at hM)
        go_cut [15, 16] (fun s15 s16 wx => ∃ (g4 m4 c4 : Nat) (out : List Int), s15 = .slice (some ⟨g4, 0, none⟩) m4 c4 ∧ s16 = .bool r.isSome ∧ (∀ q, r = some q → out = q) ∧ Mem w0.heap.size w0 wx [intE (some ⟨g4, 0, none⟩) m4 c4 out, rowE w.heap.size 26 #[.int .i64 W, .int .i64 Hn, .slice a n c], intE (some ⟨g3, 0, none⟩) m c3 begun, packE R])
        case first =>
          refine AtT.startA hM hM 14 (by kernel_rfl) ?_
          clear hM
          intro wd hM
          have hS := hM
          refine AtT.tk 0 ?_ 52 ?_ hS ?_
          rotate_left
          · (intro wS hSw; (try dsimp only at hSw); have kr0 := (Mem.row hSw .here).cell; go_simp; (try rw [if_neg (by omega)]); try with_reducible rfl)
          simp only [Act.put, sA]
          refine AtT.tk 1 ?_ 53 ?_ hS ?_
          rotate_left
          · (intro wS hSw; (try dsimp only at hSw); go_simp; (try rw [if_neg (by omega)]); try with_reducible rfl)
          simp only [Act.put, sA]
          refine AtT.tk 2 ?_ 54 ?_ hS ?_
          rotate_left
          · (intro wS hSw; (try dsimp only at hSw); go_simp; (try rw [if_neg (by omega)]); try with_reducible rfl)
          simp only [Act.put, sA]
          refine AtT.tk 3 ?_ 55 ?_ hS ?_
          rotate_left
          · (intro wS hSw; (try dsimp only at hSw); go_simp; (try rw [if_neg (by omega)]); try with_reducible rfl)
          simp only [Act.put, sA]
          refine AtT.tk 5 ?_ 57 ?_ hS ?_
          rotate_left
          · (intro wS hSw; (try dsimp only at hSw); go_simp; (try rw [if_neg (by omega)]); try with_reducible rfl)
          simp only [Act.put, sA]
          refine AtT.tk 8 ?_ 60 ?_ hS ?_
          rotate_left
          · (intro wS hSw; (try dsimp only at hSw); go_simp; (try rw [if_neg (by omega)]); try with_reducible rfl)
          simp only [Act.put, sA]
          refine AtT.two (i := 4) (j := 6) (by kernel_rfl) rfl rfl rfl rfl ?_ ?_
          · skip
            intro K hK
            go_simp
            refine (l1Own_any _ _ _ begun _ (hM.ints (.there .here)).ints).mono ?_
            rintro e w4 ⟨a5, c5, rfl, hO, hb⟩
            replace hM := hM.own hb hO
            clear hb hO
            try dsimp only
            refine hK.out _ _ (hM.tail) ?_
            clear hK K hS
            have hS := hM.tail
            refine AtT.only (i := 6) (by kernel_rfl) rfl rfl ?_
            intro K hK
            go_simp
            refine hK.out _ _ (by apply Mem.tail; apply Mem.tail; (exact memA)) ?_
            clear hK K hS
            have hMp := hM
            apply Mem.atT
            · exact memA
            clear hM
            intro hM
            (try simp only [World.size_alloc, World.size_setCell, World.heap_drewN, heapDrew, Nat.add_assoc, Nat.reduceAdd, sA, List.cons_append, List.nil_append] at hM)
            have hS := hM.tail.tail
            refine AtT.only (i := 7) (by kernel_rfl) rfl rfl ?_
            intro K hK
            refine step_appM hM (fun _ => (.there .here)) (hM.oneI .here (by unfold I64; omega)) (by omega) rfl (.tmp 56) (.tmp 58) 24 Tryz.underlying24 rfl rfl rfl ?_
            clear hM
            intro a6 c6 w6 hM
            obtain ⟨g6, rfl, -⟩ := (hM.ints (.there .here)).head (by omega)
            try dsimp only
            refine hK.out _ _ (hM.tail.tail) ?_
            clear hK K hS
            have hS := hM.tail.tail
            refine AtT.only (i := 9) (by kernel_rfl) rfl rfl ?_
            intro K hK
            go_simp
            refine (HIH.out _ _ g6 (m + 1) c6 (begun ++ [(j : Int)]) cells _ (by omega) (by omega) HB2.out hM (.there .here)).mono ?_
            rw [HFR.out, HRR.out]
            rintro e w9 ⟨g4, m4, c4, out, rfl, hout, hm⟩
            clear hM
            have hM := hm
            clear hm
            try dsimp only at hM
            try dsimp only
            refine hK.out _ _ (hM.tail.tail) ?_
            clear hK K hS
            have hS := hM.tail.tail
            refine AtT.tk 10 ?_ 51 ?_ hS ?_
            rotate_left
            · (intro wS hSw; (try dsimp only at hSw); go_simp; (try rw [if_neg (by omega)]); try with_reducible rfl)
            simp only [Act.put, sA]
            refine AtT.tk 11 ?_ 62 ?_ hS ?_
            rotate_left
            · (intro wS hSw; (try dsimp only at hSw); go_simp; (try rw [if_neg (by omega)]); try with_reducible rfl)
            simp only [Act.put, sA]
            refine AtT.tk 12 ?_ 63 ?_ hS ?_
            rotate_left
            · (intro wS hSw; (try dsimp only at hSw); go_simp; (try rw [if_neg (by omega)]); try with_reducible rfl)
            simp only [Act.put, sA]
            refine AtT.tk 13 ?_ 15 ?_ hS ?_
            rotate_left
            · (intro wS hSw; (try dsimp only at hSw); go_simp; (try rw [if_neg (by omega)]); try with_reducible rfl)
            simp only [Act.put, sA]
            refine AtT.last (by kernel_rfl) rfl (by kernel_rfl) ?_
            intro K hK
            clear hS
            go_simp
            refine hK.out _ _ ?_
            clear hK K
            go_wp2_with fail
            go_meet
            refine ⟨g4, m4, c4, out, rfl, rfl, hout, ?_⟩
            apply Mem.pick (is := [1, 2, 3, 4])
            · exact memA
            · decide
            · rfl
          · skip
            intro K hK
            go_simp
            refine hK.out _ _ (by apply Mem.tail; (exact memA)) ?_
            clear hK K hS
            have hMp := hM
            apply Mem.atT
            · exact memA
            clear hM
            intro hM
            (try simp only [World.size_alloc, World.size_setCell, World.heap_drewN, heapDrew, Nat.add_assoc, Nat.reduceAdd, sA, List.cons_append, List.nil_append] at hM)
            have hS := hM.tail
            refine AtT.only (i := 4) (by kernel_rfl) rfl rfl ?_
            intro K hK
            go_simp
            refine (l1Own_any _ _ _ begun _ (hM.ints (.there (.there .here))).ints).mono ?_
            rintro e w4 ⟨a5, c5, rfl, hO, hb⟩
            replace hM := hM.own hb hO
            clear hb hO
            try dsimp only
            refine hK.out _ _ (hM.tail.tail) ?_
            clear hK K hS
            have hS := hM.tail.tail
            refine AtT.only (i := 7) (by kernel_rfl) rfl rfl ?_
            intro K hK
            refine step_appM hM (fun _ => .here) (hM.oneI (.there .here) (by unfold I64; omega)) (by omega) rfl (.tmp 56) (.tmp 58) 24 Tryz.underlying24 rfl rfl rfl ?_
            clear hM
            intro a6 c6 w6 hM
            obtain ⟨g6, rfl, -⟩ := (hM.ints .here).head (by omega)
            try dsimp only
            refine hK.out _ _ (hM.tail.tail) ?_
            clear hK K hS
            have hS := hM.tail.tail
            refine AtT.only (i := 9) (by kernel_rfl) rfl rfl ?_
            intro K hK
            go_simp
            refine (HIH.out _ _ g6 (m + 1) c6 (begun ++ [(j : Int)]) cells _ (by omega) (by omega) HB2.out hM .here).mono ?_
            rw [HFR.out, HRR.out]
            rintro e w9 ⟨g4, m4, c4, out, rfl, hout, hm⟩
            clear hM
            have hM := hm
            clear hm
            try dsimp only at hM
            try dsimp only
            refine hK.out _ _ (hM.tail.tail) ?_
            clear hK K hS
            have hS := hM.tail.tail
            refine AtT.tk 10 ?_ 51 ?_ hS ?_
            rotate_left
            · (intro wS hSw; (try dsimp only at hSw); go_simp; (try rw [if_neg (by omega)]); try with_reducible rfl)
            simp only [Act.put, sA]
            refine AtT.tk 11 ?_ 62 ?_ hS ?_
            rotate_left
            · (intro wS hSw; (try dsimp only at hSw); go_simp; (try rw [if_neg (by omega)]); try with_reducible rfl)
            simp only [Act.put, sA]
            refine AtT.tk 12 ?_ 63 ?_ hS ?_
            rotate_left
            · (intro wS hSw; (try dsimp only at hSw); go_simp; (try rw [if_neg (by omega)]); try with_reducible rfl)
            simp only [Act.put, sA]
            refine AtT.tk 13 ?_ 15 ?_ hS ?_
            rotate_left
            · (intro wS hSw; (try dsimp only at hSw); go_simp; (try rw [if_neg (by omega)]); try with_reducible rfl)
            simp only [Act.put, sA]
            refine AtT.last (by kernel_rfl) rfl (by kernel_rfl) ?_
            intro K hK
            clear hS
            go_simp
            refine hK.out _ _ ?_
            clear hK K
            go_wp2_with fail
            go_meet
            refine ⟨g4, m4, c4, out, rfl, rfl, hout, ?_⟩
            apply Mem.pick (is := [0, 2, 3, 4])
            · exact memA
            · decide
            · rfl
        case rest =>
          clear hM
          obtain ⟨g4, m4, c4, out, rfl, rfl, hout, hM⟩ := hcut
          cases r with
          | none =>
            go_wp2
            go_roundw
            case rel => exact ⟨j + 1, by omega, by omega, by go_num, Lib.hid (by rw [HS2.out, HRR.out]), hM.tail⟩
            case measure => simp [intOf]; omega
          | some q =>
            obtain rfl : out = q := hout q rfl
            have HEX := Lib.hid (extTo_some (by rw [HS2.out, HRR.out]) hlt)
            clear hout
            go_wp2
            go_ret2
            refine ⟨g4, m4, c4, out, by rw [HEX.out]; rfl, fun r hr => ?_, ?_⟩
            · rw [HEX.out] at hr
              injection hr
            · apply HR.out.out2
              apply Mem.pick (is := [0, 3])
              · exact memA
              · decide
              · rfl
end Go.Proofs.YtojfbcgfeojdfaaGreat
