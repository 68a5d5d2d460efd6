/-
  Arrival times of the program.
-/
import Derived.Test.YtojfbcgfeojdfaaGreatKArrD
import Derived.Test.YtojfbcgfeojdfaaGreatKFloodW
import Derived.Test.YtojfbcgfeojdfaaGreatKRise
import Derived.Test.YtojfbcgfeojdfaaGreatKHoldP
/-
  Arrival times of the program.
-/
namespace Go.Proofs.YtojfbcgfeojdfaaGreat
set_option linter.unusedSimpArgs false
set_option linter.unusedVariables false
open Go.RowKit

theorem wp_makeB {B : Nat} {w0 w : World} {G : List Ent} {o : Oper} {a : Act} {K : Act → World → Prop} {Q : Exit → Act → World → Prop} (hM : Mem B w0 w G) (d : Option Tmp) (hd : o.dst = d) (l c : Operand) (t : TypeId) (hop : o.op = Op.makeSlice t l c)
    (h1 : Tryz.prog.underlying t = some (.slice 4)) (n : Nat) (hl : a.eval l = .int .i64 n) (hc : a.eval c = .int .i64 n) (hn : n ≤ 1000000)
    (hK : ∀ b w', Mem B w0 w' (rowE b 4 (bitsA n fun _ => false) :: G) → K (a.put d (.slice (some ⟨b, 0, none⟩) n n)) w') : Oper.wp Tryz.prog o a w K Q := by
  subst hd
  obtain ⟨i0, h2, hz0, hz1, hz2⟩ := info_parts Tryz.info4
  obtain ⟨w', hrun, r1, r2⟩ := run_make_full (P := Tryz.prog) w w.heap.size t 4 i0 (.bool false) 1 h1 h2 hz0 hz1 .i64 .i64 n (by rw [hz2]; omega) (by unfold maxLen; omega) (Nat.le_refl _)
  unfold Oper.wp
  simp [execOp, hop, hl, hc, hrun, Result.andThen]
  refine hK _ w' ?_
  rcases r1.2 with ⟨e, _⟩ | ⟨g, cap, cur, e, hb, hh, hle, hm, hs, ht⟩
  · cases e
  · cases e
    have ec : cur = bitsA n fun _ => false := by
      have e2 : cur.toList = (madeCells #[Value.bool false] n).toList := by
        rw [← List.take_of_length_le (l := cur.toList) (i := n * 1) (by simp; omega), ht]
        simp [Value.cells]
      rw [← made_bits]
      exact Array.toList_inj.1 e2
    rw [ec] at hh
    exact hM.new ((Below.refl _ _).grown r2 (Nat.le_refl _) (by intro k hk; cases hk)) (rowE _ _ _) ⟨Nat.le_refl _, hh⟩ ⟨hM.size, hh⟩
def RBits (n : Nat) (v : Value) (E : List Ent) : Prop := ∃ b, v = .slice (some ⟨b, 0, none⟩) n n ∧ E = [rowE b 4 (bitsA n fun _ => false)]

/-- the first of the nearest cells so far -/
def BestT (n : Nat) (fx : Nat → Bool) (ts : List Int) (j : Nat) (bi : Int) : Prop :=
  (bi = -1 ∧ ∀ i, i < j → fx i = false → ts.getD i 0 = -1) ∨ ∃ b : Nat, bi = b ∧ b < n ∧ fx b = false ∧ ts.getD b 0 ≠ -1 ∧ ∀ i, i < j → fx i = false → ts.getD i 0 ≠ -1 → ts.getD b 0 ≤ ts.getD i 0
theorem BestT.skip {n : Nat} {fx : Nat → Bool} {ts : List Int} {j : Nat} {bi : Int} (h : BestT n fx ts j bi) (hs : fx j = true ∨ ts.getD j 0 = -1) : BestT n fx ts (j + 1) bi := by
  rcases h with ⟨h1, h2⟩ | ⟨b, h1, h2, h3, h4, h5⟩
  · refine .inl ⟨h1, fun i hi hf => ?_⟩
    by_cases e : i = j
    · subst e
      rcases hs with hs | hs
      · rw [hs] at hf; cases hf
      · exact hs
    · exact h2 i (by omega) hf
  · refine .inr ⟨b, h1, h2, h3, h4, fun i hi hf hn => ?_⟩
    by_cases e : i = j
    · subst e
      rcases hs with hs | hs
      · rw [hs] at hf; cases hf
      · exact absurd hs hn
    · exact h5 i (by omega) hf hn
theorem BestT.first {n : Nat} {fx : Nat → Bool} {ts : List Int} {j : Nat} (h2 : ∀ i, i < j → fx i = false → ts.getD i 0 = -1) (hj : j < n) (hf : fx j = false) (hn : ts.getD j 0 ≠ -1) : BestT n fx ts (j + 1) j := by
  refine .inr ⟨j, rfl, hj, hf, hn, fun i hi hfi hni => ?_⟩
  by_cases e : i = j
  · subst e; exact Int.le_refl _
  · exact absurd (h2 i (by omega) hfi) hni
theorem BestT.less {n : Nat} {fx : Nat → Bool} {ts : List Int} {j b : Nat} (h5 : ∀ i, i < j → fx i = false → ts.getD i 0 ≠ -1 → ts.getD b 0 ≤ ts.getD i 0) (hj : j < n) (hf : fx j = false) (hn : ts.getD j 0 ≠ -1) (hl : ts.getD j 0 < ts.getD b 0) : BestT n fx ts (j + 1) j := by
  refine .inr ⟨j, rfl, hj, hf, hn, fun i hi hfi hni => ?_⟩
  by_cases e : i = j
  · subst e; exact Int.le_refl _
  · have := h5 i (by omega) hfi hni; omega
theorem BestT.more {n : Nat} {fx : Nat → Bool} {ts : List Int} {j b : Nat} (hb : b < n) (hfb : fx b = false) (hnb : ts.getD b 0 ≠ -1) (h5 : ∀ i, i < j → fx i = false → ts.getD i 0 ≠ -1 → ts.getD b 0 ≤ ts.getD i 0) (hl : ¬ ts.getD j 0 < ts.getD b 0) : BestT n fx ts (j + 1) b := by
  refine .inr ⟨b, rfl, hb, hfb, hnb, fun i hi hfi hni => ?_⟩
  by_cases e : i = j
  · subst e; omega
  · exact h5 i (by omega) hfi hni

set_option maxHeartbeats 8000000 in
set_option maxRecDepth 100000 in
set_option maxHeartbeats 30000000 in
theorem arrivals_any (W Hn : Nat) (a : Option Addr) (n c : Nat) (xs : List Int) (a1 : Option Addr) (n1 c1 : Nat) (ph : List PhaseI) (a2 : Option Addr) (n2 c2 : Nat) (ss : List Int) (start : Int) (w : World) (h : Ints w a n c xs) (h1 : Rd FPhase w a1 n1 c1 ph) (h2 : Ints w a2 n2 c2 ss) (hnp : 0 < n) (hn25 : n ≤ 25) (hW : 1 ≤ W ∧ W ≤ 5) (hx : ∀ x ∈ xs, 0 ≤ x ∧ x ≤ 20) (hp : phasesB ph = true) (hst : 0 ≤ start ∧ start ≤ 1000) (hs : setB n ss = true) :
    Calls Tryz.prog 48 #[.agg #[.int .i64 W, .int .i64 Hn, .slice a n c], .slice a1 n1 c1, .slice a2 n2 c2, .int .i64 start] w (fun e w' => ∃ a' m' c', e = .returned (.slice a' m' c') ∧ Mem w.heap.size w w' [intE a' m' c' (arrT W n xs ss ph start)]) := by
  have hM := Mem.start w
  have hmf : ∀ (fn : Fn) (first cap : Array Value) (w : World), (Instr.makeFunc fn first cap).run Tryz.prog w = .ok (.func fn first cap) w := fun _ _ _ _ => rfl
  have HL := Lib.hid h.len
  have HX := Lib.hid hx; have HP := Lib.hid hp
  have HSB := Lib.hid (srcTo_beg (xs := xs) (start := start) hs)
  have hsf := setB_filter (fun x => brn xs x.toNat) hs
  have HMF := Lib.hid (fun k (hk : k < (ss.filter fun x => brn xs x.toNat).length) => set_fact hsf hk)
  have HMS := Lib.hid (show ∀ x ∈ ss, ∃ m : Nat, x = m ∧ m < n from fun x hx => by have := (setB_iff.1 hs).2 x hx; exact ⟨x.toNat, by omega, by omega⟩)
  clear hx hp hs hsf
  obtain ⟨i0, hi, hz0, hz1, hz2⟩ := info_parts Tryz.info3
  go_enter Tryz.func48, Tryz.ntmps48
  go_wp2_with fail
  apply Mem.atWpA
  · exact memA
  clear hM
  intro wst hM
  (try simp only [World.size_alloc, World.size_setCell, World.heap_drewN, heapDrew, Nat.add_assoc, Nat.reduceAdd, sA, List.cons_append, List.nil_append] at hM)
  refine AtT.startA hM hM 9 (by kernel_rfl) ?_
  clear hM
  intro wd hM
  have hS := hM
  refine AtT.tk 0 ?_ 20 ?_ hS ?_
  rotate_left
  · (intro wS hSw; (try dsimp only at hSw); go_simp; (try rw [if_neg (by omega)]); try with_reducible rfl)
  simp only [Act.put, sA]
  refine AtT.tk 1 ?_ 21 ?_ hS ?_
  rotate_left
  · (intro wS hSw; (try dsimp only at hSw); have kr0 := (Mem.row hSw .here).cell; go_simp; (try rw [if_neg (by omega)]); try with_reducible rfl)
  simp only [Act.put, sA]
  refine AtT.tk 2 ?_ 22 ?_ hS ?_
  rotate_left
  · (intro wS hSw; (try dsimp only at hSw); go_simp; (try rw [if_neg (by omega)]); try with_reducible rfl)
  simp only [Act.put, sA]
  refine AtT.tk 4 ?_ 24 ?_ hS ?_
  rotate_left
  · (intro wS hSw; (try dsimp only at hSw); go_simp; (try rw [if_neg (by omega)]); try with_reducible rfl)
  simp only [Act.put, sA]
  refine AtT.tk 5 ?_ 25 ?_ hS ?_
  rotate_left
  · (intro wS hSw; (try dsimp only at hSw); have kr0 := (Mem.row hSw .here).cell; go_simp; (try rw [if_neg (by omega)]); try with_reducible rfl)
  simp only [Act.put, sA]
  refine AtT.tk 6 ?_ 26 ?_ hS ?_
  rotate_left
  · (intro wS hSw; (try dsimp only at hSw); go_simp; (try rw [if_neg (by omega)]); try with_reducible rfl)
  simp only [Act.put, sA]
  refine AtT.makers (fun i pv => if i = 3 then RInts n (List.replicate n 0) else if i = 7 then RBits n else fun _ _ => False) 3 [3, 7, 8] [8] (fun i => if i = 3 then some 23 else if i = 7 then some 27 else if i = 8 then some 9 else none) (fun i => if i = 8 then [3] else []) rfl (by kernel_rfl) hM ⟨?_, ?_, ?_, trivial⟩ ?_
  · skip
    clear hM
    refine SpecAt.intro rfl ?_
    intro ρ hρ w2 G1 hM K Q hK
    clear hρ
    simp only [puts, Nat.reduceEqDiff, if_true, if_false, reduceIte, Act.put, List.setIfInBounds_toArray, List.set_cons_zero, List.set_cons_succ]
    simp only [puts, Nat.reduceEqDiff, if_true, if_false, reduceIte, Act.put, List.setIfInBounds_toArray, List.set_cons_zero, List.set_cons_succ, flat, List.flatMap_cons, List.flatMap_nil, List.nil_append, List.cons_append, List.append_nil] at hK
    simp only [flat, List.flatMap_cons, List.flatMap_nil, List.nil_append, List.cons_append, List.append_nil, Nat.reduceEqDiff, if_true, if_false, reduceIte] at hM
    refine wp_makeI hM (some 23) rfl _ _ 24 rfl i0 Tryz.underlying24 hi hz0 hz1 hz2 n rfl rfl (by omega) (fun b w' hM => ?_)
    simp only [Act.put, sA]
    exact hK.out _ _ _ ⟨_, _, rfl, rfl⟩ hM
  · skip
    clear hM
    refine SpecAt.intro rfl ?_
    intro ρ hρ w2 G1 hM K Q hK
    clear hρ
    simp only [puts, Nat.reduceEqDiff, if_true, if_false, reduceIte, Act.put, List.setIfInBounds_toArray, List.set_cons_zero, List.set_cons_succ]
    simp only [puts, Nat.reduceEqDiff, if_true, if_false, reduceIte, Act.put, List.setIfInBounds_toArray, List.set_cons_zero, List.set_cons_succ, flat, List.flatMap_cons, List.flatMap_nil, List.nil_append, List.cons_append, List.append_nil] at hK
    simp only [flat, List.flatMap_cons, List.flatMap_nil, List.nil_append, List.cons_append, List.append_nil, Nat.reduceEqDiff, if_true, if_false, reduceIte] at hM
    refine wp_makeB hM (some 27) rfl _ _ 120 rfl Tryz.underlying120 n rfl rfl (by omega) (fun b w' hM => ?_)
    simp only [Act.put, sA]
    exact hK.out _ _ _ ⟨_, rfl, rfl⟩ hM
  · skip
    clear hM
    refine SpecAt.pure rfl rfl rfl ?_
    intro ρ hρ
    have h3 : (RInts n (List.replicate n 0)) (ρ 3).1 (ρ 3).2 := hρ 3 (by decide)
    obtain ⟨a9, c9, v3, E3⟩ := h3
    refine ⟨?_, fun wS => ?_⟩
    rotate_left
    · (simp only [puts, Nat.reduceEqDiff, if_true, if_false, reduceIte, Act.put, List.setIfInBounds_toArray, List.set_cons_zero, List.set_cons_succ, v3]; go_simp; (try rw [if_neg (by omega)]); try with_reducible rfl)
  clear hM hS
  intro ρ hρ wm hM
  have hS := hM.sub (List.sublist_append_right _ _)
  have h3 : (RInts n (List.replicate n 0)) (ρ 3).1 (ρ 3).2 := hρ 3 (by decide)
  obtain ⟨a9, c9, v3, E3⟩ := h3
  have h7 : (RBits n) (ρ 7).1 (ρ 7).2 := hρ 7 (by decide)
  obtain ⟨b10, v7, E7⟩ := h7
  have h8 := combo_pure (hρ 8 (by decide)) rfl rfl
  obtain ⟨E8, h8⟩ := h8
  refine pure_known (v' := ?_) h8 wm ?_ ?_
  rotate_left
  · (simp only [puts, Nat.reduceEqDiff, if_true, if_false, reduceIte, Act.put, List.setIfInBounds_toArray, List.set_cons_zero, List.set_cons_succ, v3]; go_simp; (try rw [if_neg (by omega)]); try with_reducible rfl)
  intro v8
  clear hρ
  simp only [sets, puts, Nat.reduceEqDiff, if_true, if_false, reduceIte, Act.put, List.setIfInBounds_toArray, List.set_cons_zero, List.set_cons_succ, v3, v7, v8]
  simp only [flat, List.flatMap_cons, List.flatMap_nil, List.nil_append, List.cons_append, List.append_nil, E3, E7, E8] at hM
  clear v3 E3 v7 E7 v8 E8
  refine AtT.last (by kernel_rfl) rfl (by kernel_rfl) ?_
  intro K hK
  clear hS
  go_simp
  refine hK.out _ _ ?_
  clear hK K
  obtain ⟨g, rfl, -⟩ := (hM.ints .here).head hnp
  go_wp2_with fail
  go_loopw [30] (fun s30 wr => ∃ k : Nat, k ≤ n ∧ s30 = .int .i64 k ∧ Mem w.heap.size w wr [intE (some ⟨g, 0, none⟩) n c9 (negL n k), rowE b10 4 (bitsA n fun _ => false), rowE w.heap.size 26 #[.int .i64 W, .int .i64 Hn, .slice a n c]]) (fun s30 _ => n - (intOf s30).toNat)
  case atStart => exact ⟨0, Nat.zero_le _, rfl, by rw [show negL n 0 = List.replicate n 0 by simp [negL]]; exact hM⟩
  case round =>
    clear hM
    obtain ⟨k, hk, rfl, hM⟩ := hrel
    by_cases hlt : k < n
    · have hfk := (hM.ints .here).freeAt k
      have hdk := (hM.ints .here).cellAt hlt
      have j0 : (0 : Int) ≤ (k : Int) := by omega
      have j1 : (k : Int) < (n : Int) := by omega
      have HN := Lib.hid (negL_set hlt)
      go_wp2
      go_roundw
      case rel => exact ⟨k + 1, by omega, by go_num, by rw [← HN.out]; (exact memA)⟩
      case measure => simp [intOf]; omega
    · obtain rfl : k = n := by omega
      rw [negL_all] at hM
      obtain ⟨k2, f2, l2⟩ := hM.row (.there (.there .here))
      go_wp2_with fail
      clear k2 f2 l2
      apply Mem.atA
      · exact memA
      clear hM
      intro wst hM
      (try simp only [World.size_alloc, World.size_setCell, World.heap_drewN, heapDrew, Nat.add_assoc, Nat.reduceAdd, sA, List.cons_append, List.nil_append] at hM)
      (first | refine ((filterI_any _ _ _ (fun x => brn xs x.toNat) a2 n2 c2 ss _ (h2.ext hM.below) (enters Tryz.func40 (by kernel_rfl) rfl) (fun x hx w' hb => by
          obtain ⟨m, rfl, hm⟩ := HMS.out x hx
          exact burns_any _ _ a k c xs m _ ((h.ext hM.below).ext hb) hm))).mono ?_)
      rintro e wc1 ⟨a7, m7, c7, rfl, hm⟩
      replace hM := hM.join hm
      clear hm
      (try simp only [World.size_alloc, World.size_setCell, World.heap_drewN, heapDrew, Nat.add_assoc, Nat.reduceAdd, sA, List.cons_append, List.nil_append] at hM)
      obtain ⟨fl, hfl⟩ : ∃ fl, (ss.filter fun x => brn xs x.toNat) = fl := ⟨_, rfl⟩
      have hmf' := HMF.out
      have hsb := HSB.out
      rw [hfl] at hM hmf' hsb
      have hml := (hM.ints .here).len
      have hmr := (hM.ints .here).room
      have HML := Lib.hid hml; have HMF2 := Lib.hid hmf'; have HSB2 := Lib.hid hsb
      clear hfl hml hmf' hsb HMF HSB
      go_wp2_with fail
      go_loopw [42] (fun s42 wr => ∃ j : Nat, j ≤ m7 ∧ s42 = .int .i64 j ∧ Mem w.heap.size w wr [intE a7 m7 c7 fl, intE (some ⟨g, 0, none⟩) k c9 (srcTo start (fl.take j) (List.replicate k (-1))), rowE b10 4 (bitsA k fun _ => false), rowE w.heap.size 26 #[.int .i64 W, .int .i64 Hn, .slice a k c]]) (fun s42 _ => m7 - (intOf s42).toNat)
      case atStart => exact ⟨0, Nat.zero_le _, rfl, hM⟩
      case round =>
        clear hM
        obtain ⟨j, hj, rfl, hM⟩ := hrel
        by_cases hlj : j < m7
        · obtain ⟨g7, rfl, -⟩ := (hM.ints .here).head (by omega)
          have hjl : j < fl.length := by rw [HML.out]; exact hlj
          obtain ⟨d, hd, hdn⟩ := HMF2.out j hjl
          have hcd := (hM.ints .here).cellAt hlj
          have hsu := srcTo_succ (start := start) (acc := List.replicate k (-1)) hjl
          rw [hd] at hcd hsu
          rw [Int.toNat_natCast] at hsu
          have HSU := Lib.hid hsu
          clear hsu hd hjl
          have hfk := (hM.ints (.there .here)).freeAt d
          have hdk := (hM.ints (.there .here)).cellAt hdn
          have j0 : (0 : Int) ≤ (j : Int) := by omega
          have j1 : (j : Int) < (m7 : Int) := by omega
          have e0 : (0 : Int) ≤ (d : Int) := by omega
          have e1 : (d : Int) < (k : Int) := by omega
          go_wp2
          go_roundw
          case rel => exact ⟨j + 1, by omega, by go_num, by rw [HSU.out]; (exact memA)⟩
          case measure => simp [intOf]; omega
        · obtain rfl : j = m7 := by omega
          rw [List.take_of_length_le (by rw [HML.out]; exact Nat.le_refl _), HSB2.out] at hM
          go_wp2_with fail
          go_loopg [14] 100 (fun gh _s14 wr => ∃ (fx : Nat → Bool) (ts : List Int), unseen k fx ≤ gh ∧ DijT W k xs ss ph start fx ts ∧ Mem w.heap.size w wr [intE (some ⟨g, 0, none⟩) k c9 ts, rowE b10 4 (bitsA k fx), rowE w.heap.size 26 #[.int .i64 W, .int .i64 Hn, .slice a k c]])
          case atStart => exact ⟨fun _ => false, _, by have := unseen_le k (fun _ => false); omega, DijT.init (beg0_ok hst.1) (beg0_bnd hst.2), hM.tail⟩
          case round =>
            clear hM
            obtain ⟨fx, ts, hgh, hdij, hM⟩ := hrel
            have HDIJ := Lib.hid hdij
            clear hdij
            obtain ⟨G1, hG1⟩ : ∃ G1, gk = G1 := ⟨_, rfl⟩
            rw [hG1] at hgh
            go_wp2_with fail
            go_loopg [14, 53] 100 (fun gh s14 s53 wr => ∃ (q : Nat) (bi : Int), q ≤ k ∧ k - q ≤ gh ∧ s53 = .int .i64 q ∧ s14 = .int .i64 bi ∧ BestT k fx ts q bi ∧ Mem w.heap.size w wr [intE (some ⟨g, 0, none⟩) k c9 ts, rowE b10 4 (bitsA k fx), rowE w.heap.size 26 #[.int .i64 W, .int .i64 Hn, .slice a k c]])
            case atStart => exact ⟨0, -1, Nat.zero_le _, by omega, rfl, rfl, .inl ⟨rfl, fun i hi => by omega⟩, hM⟩
            case round =>
              clear hM
              obtain ⟨q, bi, hq, hgq, rfl, rfl, hbest, hM⟩ := hrel
              by_cases hlq : q < k
              · have hcy := (hM.ints .here).cellAt hlq
                obtain ⟨y, hy⟩ : ∃ y, ts.getD q 0 = y := ⟨_, rfl⟩
                rw [hy] at hcy
                have HY := Lib.hid hy
                obtain ⟨k1, f1, l1⟩ := hM.row (.there .here)
                have hcf := k1 q
                rw [bitsA_get hlq] at hcf
                obtain ⟨fq, hfq⟩ : ∃ b, fx q = b := ⟨_, rfl⟩
                rw [hfq] at hcf
                have HFQ := Lib.hid hfq
                have HB := Lib.hid hbest
                clear hy k1 f1 l1 hfq hbest
                have j0 : (0 : Int) ≤ (q : Int) := by omega
                have j1 : (q : Int) < (k : Int) := by omega
                cases fq
                · by_cases hy1 : y = -1
                  · have hye : (y != -1) = false := by simpa using hy1
                    have HB2 := Lib.hid (HB.out.skip (.inr (by rw [HY.out]; exact hy1)))
                    clear hy1
                    go_wp2
                    go_roundg (gk - 1)
                    case measure => omega
                    case rel => exact ⟨q + 1, bi, by omega, by omega, by go_num, rfl, HB2.out, hM⟩
                  · have hye : (y != -1) = true := by simpa using hy1
                    have HYN := Lib.hid (show ts.getD q 0 ≠ -1 by rw [HY.out]; exact hy1)
                    clear hy1
                    rcases HB.out with ⟨rfl, h2'⟩ | ⟨b, rfl, hbn, hfb, hnb, h5⟩
                    · have HB2 := Lib.hid (BestT.first h2' hlq HFQ.out HYN.out)
                      clear h2'
                      go_wp2
                      go_roundg (gk - 1)
                      case measure => omega
                      case rel => exact ⟨q + 1, (q : Int), by omega, by omega, by go_num, rfl, HB2.out, hM⟩
                    · have hcb := (hM.ints .here).cellAt hbn
                      obtain ⟨z, hz⟩ : ∃ z, ts.getD b 0 = z := ⟨_, rfl⟩
                      rw [hz] at hcb
                      have HZ := Lib.hid hz
                      have hb0 : ¬ ((b : Int) < 0) := by omega
                      have hb1 : (0 : Int) ≤ (b : Int) := by omega
                      have hb2 : (b : Int) < (k : Int) := by omega
                      have HFB := Lib.hid hfb; have HNB := Lib.hid hnb; have H5 := Lib.hid h5
                      clear hz hfb hnb h5
                      by_cases hyz : y < z
                      · have HB2 := Lib.hid (BestT.less H5.out hlq HFQ.out HYN.out (by rw [HY.out, HZ.out]; exact hyz))
                        go_wp2
                        go_roundg (gk - 1)
                        case measure => omega
                        case rel => exact ⟨q + 1, (q : Int), by omega, by omega, by go_num, rfl, HB2.out, hM⟩
                      · have HB2 := Lib.hid (BestT.more hbn HFB.out HNB.out H5.out (by rw [HY.out, HZ.out]; exact hyz))
                        go_wp2
                        go_roundg (gk - 1)
                        case measure => omega
                        case rel => exact ⟨q + 1, (b : Int), by omega, by omega, by go_num, rfl, HB2.out, hM⟩
                · have HB2 := Lib.hid (HB.out.skip (.inl HFQ.out))
                  go_wp2
                  go_roundg (gk - 1)
                  case measure => omega
                  case rel => exact ⟨q + 1, bi, by omega, by omega, by go_num, rfl, HB2.out, hM⟩
              obtain rfl : q = k := by omega
              rcases hbest with ⟨rfl, h2'⟩ | ⟨b, rfl, hbn, hfb, hnb, h5⟩
              · have HD := Lib.hid (HDIJ.out.done HP.out h2')
                clear h2'
                go_wp2
                go_ret
                exact ⟨_, q, c9, rfl, by rw [HD.out]; exact hM.first⟩
              obtain ⟨k1, f1, l1⟩ := hM.row (.there .here)
              have hcf := k1 b
              rw [bitsA_get hbn] at hcf
              have hff := f1 b
              have HU := Lib.hid (unseen_add (n := q) (g := fun i => fx i || i == b) hbn hfb (fun _ => rfl))
              have hrel0 := RelT.init HDIJ.out hbn hfb hnb h5
              obtain ⟨v, hv⟩ : ∃ v, ts.getD b 0 = v := ⟨_, rfl⟩
              rw [hv] at hrel0
              have HREL := Lib.hid hrel0
              have hb0 : ¬ ((b : Int) < 0) := by omega
              have hb1 : (0 : Int) ≤ (b : Int) := by omega
              have hb2 : (b : Int) < (q : Int) := by omega
              clear k1 f1 l1 hfb hnb h5 hrel0 hv hgq
              go_upto_region 22 with fail
              apply Mem.atWpA
              · exact memA
              clear hM
              intro wst hM
              (try simp only [World.size_alloc, World.size_setCell, World.heap_drewN, heapDrew, Nat.add_assoc, Nat.reduceAdd, sA, List.cons_append, List.nil_append] at hM)
              clear hcf hff
              rw [bitsA_set hbn] at hM
              obtain ⟨k2, f2, l2⟩ := hM.row (.there (.there .here))
              go_wp2_with fail
              clear k2 f2 l2
              apply Mem.atA
              · exact memA
              clear hM
              intro wst hM
              (try simp only [World.size_alloc, World.size_setCell, World.heap_drewN, heapDrew, Nat.add_assoc, Nat.reduceAdd, sA, List.cons_append, List.nil_append] at hM)
              apply Calls.mono
              · (apply neighbors_any W Hn a q c xs b) <;> (first | (show (_ : Prop); with_reducible assumption) | (apply Hid.out; with_reducible assumption) | (apply Mem.intsR hM; (repeat' (first | with_reducible exact In.here | with_reducible apply In.there)); done) | (apply Ints.ext (hb := hM.below); with_reducible assumption) | (apply Rd.ext (hb := hM.below); with_reducible assumption) | (apply Mem.row hM; (repeat' (first | with_reducible exact In.here | with_reducible apply In.there)); done) | (apply Row.ext (hb := hM.below); with_reducible assumption) | exact ⟨by omega, by omega⟩ | omega | (trace_state; fail))
              rintro e wc2 ⟨a8, m8, c8, rfl, hm⟩
              replace hM := hM.join hm
              clear hm
              (try simp only [World.size_alloc, World.size_setCell, World.heap_drewN, heapDrew, Nat.add_assoc, Nat.reduceAdd, sA, List.cons_append, List.nil_append] at hM)
              obtain ⟨ds, hds⟩ : ∃ ds, cellsN q (nearN W b) = ds := ⟨_, rfl⟩
              rw [hds] at hM
              have HDN := Lib.hid (show ∀ d ∈ ds, ∃ m : Nat, d = m ∧ m < q ∧ nearN W b m = true from fun d hd => by rw [← hds] at hd; obtain ⟨m, e, h1, h2⟩ := cellsN_mem.1 hd; exact ⟨m, e, h1, h2⟩)
              have HDA := Lib.hid (show ∀ m : Nat, m < q → nearN W b m = true → ∃ j, j < ds.length ∧ ds.getD j 0 = (m : Int) from fun m h1 h2 => by
                have hm : (m : Int) ∈ ds := by rw [← hds]; exact cellsN_mem.2 ⟨m, rfl, h1, h2⟩
                obtain ⟨j, hj, e⟩ := List.getElem_of_mem hm
                exact ⟨j, hj, by simp [List.getD, hj, e]⟩)
              have hml := (hM.ints .here).len
              have hmr := (hM.ints .here).room
              have HML2 := Lib.hid hml
              have hm25 : m8 ≤ 25 := by rw [← hml, ← hds]; exact Nat.le_trans (cellsN_length _ _) hn25
              clear hds hml
              go_wp2_with fail
              go_loopg [91] 100 (fun gh s91 wr => ∃ (ts : List Int) (j : Nat), j ≤ m8 ∧ m8 - j ≤ gh ∧ s91 = .int .i64 j ∧ RelT W q xs ss ph start fx b v (fun i => ∃ i' : Nat, i' < j ∧ ds.getD i' 0 = (i : Int)) ts ∧ Mem w.heap.size w wr [intE a8 m8 c8 ds, intE (some ⟨g, 0, none⟩) q c9 ts, rowE b10 4 (bitsA q fun i => fx i || i == b), rowE w.heap.size 26 #[.int .i64 W, .int .i64 Hn, .slice a q c]])
              case atStart => exact ⟨ts, 0, Nat.zero_le _, by omega, rfl, HREL.out.more (fun i hi e => by obtain ⟨i', h1, _⟩ := e; omega), hM⟩
              case round =>
                clear hM HREL
                obtain ⟨ts, j, hj, hgj, rfl, hrl, hM⟩ := hrel
                by_cases hlj : j < m8
                rotate_left
                · obtain rfl : j = m8 := by omega
                  have HD := Lib.hid (hrl.done (fun i hi hn => by
                    obtain ⟨i', h1, h2⟩ := HDA.out i hi hn
                    exact ⟨i', by rw [← HML2.out]; exact h1, h2⟩))
                  clear hrl
                  have hu := HU.out
                  go_wp2
                  go_roundg (G1 - 1)
                  case measure => omega
                  case rel => exact ⟨_, ts, by omega, HD.out, hM.tail⟩
                obtain ⟨g8, rfl, -⟩ := (hM.ints .here).head (by omega)
                have hjl : j < ds.length := by rw [HML2.out]; exact hlj
                obtain ⟨e, hd, hen, hne⟩ := HDN.out _ (getD_mem hjl)
                have hcd := (hM.ints .here).cellAt hlj
                rw [hd] at hcd
                have HD := Lib.hid hd
                have hbe := near_ne hne
                have hebf : (e == b) = false := by simpa using fun h => hbe h.symm
                have HNE := Lib.hid hne
                have HRL := Lib.hid hrl
                clear hjl hd hne hrl hbe
                obtain ⟨bb, hbb⟩ : ∃ x, brn xs e = x := ⟨_, rfl⟩
                have HBB := Lib.hid hbb
                clear hbb
                have j0 : (0 : Int) ≤ (j : Int) := by omega
                have j1 : (j : Int) < (m8 : Int) := by omega
                have m0 : (0 : Int) ≤ (e : Int) := by omega
                have m1 : (e : Int) < (q : Int) := by omega
                have HMORE := Lib.hid (show edgeI W xs ph ts b e → RelT W q xs ss ph start fx b v (fun i => ∃ i' : Nat, i' < j + 1 ∧ ds.getD i' 0 = (i : Int)) ts from fun he => HRL.out.more (fun i hi h => by
                  obtain ⟨i', h1, h2⟩ := h
                  by_cases e2 : i' = j
                  · subst e2
                    rw [HD.out] at h2
                    obtain rfl : e = i := by omega
                    exact .inr he
                  · exact .inl ⟨i', by omega, h2⟩))
                obtain ⟨k3, f3, l3⟩ := hM.row (.there (.there (.there .here)))
                go_wp2_with fail
                clear k3 f3 l3
                apply Mem.atA
                · exact memA
                clear hM
                intro wst hM
                (try simp only [World.size_alloc, World.size_setCell, World.heap_drewN, heapDrew, Nat.add_assoc, Nat.reduceAdd, sA, List.cons_append, List.nil_append] at hM)
                apply Calls.mono
                · (apply burns_any _ _ a q c xs e) <;> (first | (show (_ : Prop); with_reducible assumption) | (apply Hid.out; with_reducible assumption) | (apply Mem.intsR hM; (repeat' (first | with_reducible exact In.here | with_reducible apply In.there)); done) | (apply Ints.ext (hb := hM.below); with_reducible assumption) | (apply Rd.ext (hb := hM.below); with_reducible assumption) | (apply Mem.row hM; (repeat' (first | with_reducible exact In.here | with_reducible apply In.there)); done) | (apply Row.ext (hb := hM.below); with_reducible assumption) | exact ⟨by omega, by omega⟩ | omega | (trace_state; fail))
                rw [HBB.out]
                rintro e wc3 ⟨rfl, hb⟩
                replace hM := hM.ext hb
                clear hb
                clear hcd
                cases bb
                · have HT := Lib.hid (HMORE.out (fun _ h _ => by rw [HBB.out] at h; cases h))
                  go_wp2
                  go_roundg (gk - 1)
                  case measure => omega
                  case rel => exact ⟨ts, j + 1, by omega, by omega, by go_num, HT.out, hM⟩
                obtain ⟨k2, f2, l2⟩ := hM.row (.there (.there .here))
                have hcf := k2 e
                rw [bitsA_get hen] at hcf
                rw [hebf, Bool.or_false] at hcf
                obtain ⟨fe, hfe⟩ : ∃ x, fx e = x := ⟨_, rfl⟩
                rw [hfe] at hcf
                have HFE := Lib.hid hfe
                clear k2 f2 l2 hfe
                cases fe
                rotate_left
                · have HT := Lib.hid (HMORE.out (HRL.out.old hen HFE.out))
                  go_wp2
                  go_roundg (gk - 1)
                  case measure => omega
                  case rel => exact ⟨ts, j + 1, by omega, by omega, by go_num, HT.out, hM⟩
                have hv0 : 0 ≤ v ∧ v ≤ 4000 := by
                  have h1 := HRL.out.bnd.max hn25 hbn
                  have h2 := HRL.out.beg.is b hbn
                  rw [HRL.out.val] at h1 h2
                  refine ⟨?_, h1⟩
                  rcases h2 with e2 | e2
                  · exact absurd e2 HRL.out.nev
                  · exact e2.1
                have hwk := wkI_bound (W := W) HX.out (a := b) (b := e) (by rw [HL.out]; exact hbn) (by rw [HL.out]; exact hen)
                have hxw : I64 (donI W xs ph b e v) := by
                  have h1 := donI_le (W := W) (l := ph) HX.out (a := b) (b := e) (by rw [HL.out]; exact hbn) (by rw [HL.out]; exact hen) v
                  have h2 := donI_ge (W := W) (xs := xs) (l := ph) b e v
                  unfold I64
                  omega
                obtain ⟨wk, hwk'⟩ : ∃ x, wkI W xs b e = x := ⟨_, rfl⟩
                rw [hwk'] at hwk
                have HWK := Lib.hid hwk'
                obtain ⟨x, hx⟩ : ∃ x, doneT (spd ph) v wk = x := ⟨_, rfl⟩
                have HDX := Lib.hid hx
                have HXX := Lib.hid (show donI W xs ph b e v = x by rw [donI, HWK.out]; exact hx)
                obtain ⟨y, hy⟩ : ∃ y, ts.getD e 0 = y := ⟨_, rfl⟩
                have HY := Lib.hid hy
                have HXI := Lib.hid (show I64 x by rw [← HXX.out]; exact hxw)
                have HVV := Lib.hid HRL.out.val
                clear hwk' hx hy hxw
                go_wp2_with fail
                apply Mem.atWpA
                · exact memA
                clear hM
                intro wst hM
                (try simp only [World.size_alloc, World.size_setCell, World.heap_drewN, heapDrew, Nat.add_assoc, Nat.reduceAdd, sA, List.cons_append, List.nil_append] at hM)
                clear hcf
                refine AtT.startA hM hM 10 (by kernel_rfl) ?_
                clear hM
                intro wd hM
                have hS := hM
                refine AtT.tk 0 ?_ 105 ?_ hS ?_
                rotate_left
                · (intro wS hSw; (try dsimp only at hSw); go_simp; (try rw [if_neg (by omega)]); try with_reducible rfl)
                simp only [Act.put, sA]
                refine AtT.tk 1 ?_ 106 ?_ hS ?_
                rotate_left
                · (intro wS hSw; (try dsimp only at hSw); go_simp; (try rw [if_neg (by omega)]); try with_reducible rfl)
                simp only [Act.put, sA]
                refine AtT.tk 2 ?_ 107 ?_ hS ?_
                rotate_left
                · (intro wS hSw; (try dsimp only at hSw); go_simp; (try rw [if_neg (by omega)]); try with_reducible rfl)
                simp only [Act.put, sA]
                refine AtT.tk 3 ?_ 108 ?_ hS ?_
                rotate_left
                · (intro wS hSw; (try dsimp only at hSw); have kr0 := (Mem.row hSw (.there (.there (.there .here)))).cell; have hca2 := (hSw.ints (.there .here)).cellAt hbn; rw [HVV.out] at hca2; go_simp; (try rw [if_neg (by omega)]); try with_reducible rfl)
                simp only [Act.put, sA]
                refine AtT.tk 4 ?_ 109 ?_ hS ?_
                rotate_left
                · (intro wS hSw; (try dsimp only at hSw); have kr0 := (Mem.row hSw (.there (.there (.there .here)))).cell; have hca2 := (hSw.ints (.there .here)).cellAt hbn; rw [HVV.out] at hca2; go_simp; (try rw [if_neg (by omega)]); try with_reducible rfl)
                simp only [Act.put, sA]
                refine AtT.tk 5 ?_ 110 ?_ hS ?_
                rotate_left
                · (intro wS hSw; (try dsimp only at hSw); have kr0 := (Mem.row hSw (.there (.there (.there .here)))).cell; have hca2 := (hSw.ints (.there .here)).cellAt hbn; rw [HVV.out] at hca2; go_simp; (try rw [if_neg (by omega)]); try with_reducible rfl)
                simp only [Act.put, sA]
                refine AtT.tk 6 ?_ 111 ?_ hS ?_
                rotate_left
                · (intro wS hSw; (try dsimp only at hSw); go_simp; (try rw [if_neg (by omega)]); try with_reducible rfl)
                simp only [Act.put, sA]
                refine AtT.tk 7 ?_ 112 ?_ hS ?_
                rotate_left
                · (intro wS hSw; (try dsimp only at hSw); go_simp; (try rw [if_neg (by omega)]); try with_reducible rfl)
                simp only [Act.put, sA]
                refine AtT.only (i := 8) (by kernel_rfl) rfl rfl ?_
                intro K hK
                go_simp
                apply Calls.mono
                · (apply work_any W Hn _ q c xs b e) <;> (first | (show (_ : Prop); with_reducible assumption) | (apply Hid.out; with_reducible assumption) | (apply Mem.intsR hM; (repeat' (first | with_reducible exact In.here | with_reducible apply In.there)); done) | (apply Ints.ext (hb := hM.below); with_reducible assumption) | (apply Rd.ext (hb := hM.below); with_reducible assumption) | (apply Mem.row hM; (repeat' (first | with_reducible exact In.here | with_reducible apply In.there)); done) | (apply Row.ext (hb := hM.below); with_reducible assumption) | exact ⟨by omega, by omega⟩ | omega | (trace_state; fail))
                rw [HWK.out]
                rintro e' w3 ⟨rfl, hb⟩
                replace hM := hM.ext hb
                clear hb
                try dsimp only
                refine hK.out _ _ (hM) ?_
                clear hK K hS
                have hS := hM
                refine AtT.only (i := 9) (by kernel_rfl) rfl rfl ?_
                intro K hK
                go_simp
                apply Calls.mono
                · (apply done_any) <;> (first | (show (_ : Prop); with_reducible assumption) | (apply Hid.out; with_reducible assumption) | (apply Mem.intsR hM; (repeat' (first | with_reducible exact In.here | with_reducible apply In.there)); done) | (apply Ints.ext (hb := hM.below); with_reducible assumption) | (apply Rd.ext (hb := hM.below); with_reducible assumption) | (apply Mem.row hM; (repeat' (first | with_reducible exact In.here | with_reducible apply In.there)); done) | (apply Row.ext (hb := hM.below); with_reducible assumption) | exact ⟨by omega, by omega⟩ | omega | (trace_state; fail))
                rw [HDX.out]
                rintro e' w3 ⟨rfl, hb⟩
                replace hM := hM.ext hb
                clear hb
                try dsimp only
                refine hK.out _ _ (hM) ?_
                clear hK K hS
                have hS := hM
                refine AtT.last (by kernel_rfl) rfl (by kernel_rfl) ?_
                intro K hK
                clear hS
                go_simp
                refine hK.out _ _ ?_
                clear hK K
                have hcb := (hM.ints (.there .here)).cellAt hen
                rw [HY.out] at hcb
                have hfb := (hM.ints (.there .here)).freeAt e
                by_cases hlx : y = -1 ∨ x < y
                · have hr := HRL.out.set HX.out HL.out hn25 hbn hen HFE.out HBB.out HNE.out (by rw [HXX.out, HY.out]; exact hlx)
                  rw [HXX.out] at hr
                  have HT := Lib.hid (show RelT W q xs ss ph start fx b v (fun i => ∃ i' : Nat, i' < j + 1 ∧ ds.getD i' 0 = (i : Int)) (ts.set e x) from hr.more (fun i hi h => by
                    obtain ⟨i', h1, h2⟩ := h
                    by_cases e2 : i' = j
                    · subst e2
                      rw [HD.out] at h2
                      exact .inl (.inr (by omega))
                    · exact .inl (.inl ⟨i', by omega, h2⟩)))
                  clear hr
                  have hsp : (y == -1) = true ∨ ((y == -1) = false ∧ x < y) := by
                    by_cases e2 : y = -1
                    · exact .inl (by simpa using e2)
                    · exact .inr ⟨by simpa using e2, by omega⟩
                  rcases hsp with hy1 | ⟨hy1, hy2⟩
                  all_goals
                    go_wp2
                    go_roundg (gk - 1)
                    case measure => omega
                    case rel =>
                      have hxi : I64 x := HXI.out
                      refine ⟨ts.set e x, j + 1, by omega, by omega, by go_num, HT.out, ?_⟩
                      (exact memA)
                · have hy1 : (y == -1) = false := by simp; omega
                  have hy2 : ¬ x < y := by omega
                  have HT := Lib.hid (HMORE.out (fun _ _ _ => by rw [HY.out, HVV.out, HXX.out]; omega))
                  clear hlx
                  go_wp2
                  go_roundg (gk - 1)
                  case measure => omega
                  case rel => exact ⟨ts, j + 1, by omega, by omega, by go_num, HT.out, hM⟩
end Go.Proofs.YtojfbcgfeojdfaaGreat
