/-
  Orders: what each gets, the program's.
-/
import Derived.Test.YtfnaenekdenmkaaYSvP
import Derived.Test.YtfnaenekdenmkaaYStoI
import Derived.Test.YtfnaenekdenmkaaYMk
import Derived.Deep.CutBlock
/-
  Orders: what each gets, the program's.
-/
namespace Go.Proofs.Ytfnaenekdenmkaa
set_option linter.unusedSimpArgs false
set_option linter.unusedVariables false
open Go.RowKit

theorem answers_serve (a : Option Addr) (n c : Nat) (os : List OrderI) (i b1 b2 : Nat) (lf : List StockI) (w : World) (h : Rd FOrder w a n c os) (hi : i < n) (hr1 : Row w b1 #[.slice a n c]) (hr2 : Row w b2 #[.int .i64 i]) :
    AnswersStock 121 #[.pointer (some ⟨b1, 0, none⟩), .pointer (some ⟨b2, 0, none⟩)] (isK (os.getD i OrderI.zero).kd) lf w :=
  fun v _ w' hb => serve1_any v a n c os i b1 b2 w' (h.ext hb) hi (hr1.ext hb) (hr2.ext hb)
theorem servK_zero {os : List OrderI} {ss : List StockI} {n : Nat} (h : os.length = n) : List.replicate n 0 = (servK os ss 0).1 := by rw [← h]; rfl

set_option maxRecDepth 100000 in
set_option maxHeartbeats 8000000 in
theorem serve_any (a1 : Option Addr) (n1 c1 : Nat) (os : List OrderI) (a2 : Option Addr) (n2 c2 : Nat) (ss : List StockI) (w : World) (h1 : Rd FOrder w a1 n1 c1 os) (h2 : Rd FStock w a2 n2 c2 ss) (ho : ordersB os = true) (hs : storeB ss = true) :
    Calls Try.prog 71 #[.slice a1 n1 c1, .slice a2 n2 c2] w fun e w' => ∃ a' c' a'' c'', e = .returned (.tuple #[.slice a' n1 c', .slice a'' n2 c'']) ∧ Mem w.heap.size w w' [intE a' n1 c' (gotL os ss), owE FStock 46 a'' n2 c'' (leftL os ss)] := by
  have hM := Mem.start w
  have hmf : ∀ (fn : Fn) (first cap : Array Value) (w : World), (Instr.makeFunc fn first cap).run Try.prog w = .ok (.func fn first cap) w := fun _ _ _ _ => rfl
  have HL := Lib.hid h1.len
  have HL2 := Lib.hid h2.len
  have hn10 : n1 ≤ 10 := by have := ord_len ho; rw [h1.len] at this; exact this
  have hm10 : n2 ≤ 10 := by have := store_len hs; rw [h2.len] at this; exact this
  have HO := Lib.hid ho; have HS := Lib.hid hs
  clear ho hs
  obtain ⟨i0, hi, hz0, hz1, hz2⟩ := info_parts Try.info3
  go_enter Try.func71, Try.ntmps71
  go_upto_region 1 with fail
  apply Mem.atWpA
  · (repeat' (first | with_reducible exact hM | with_reducible exact hMp | with_reducible apply Mem.drew | with_reducible apply Mem.drewN | with_reducible apply Mem.alloc | with_reducible apply Mem.set | with_reducible exact Sto.row | ((with_reducible refine Sto.rowEq2 ?_ ?_); omega; rfl) | ((with_reducible refine Sto.rowEq ?_); omega) | with_reducible apply Sto.int | with_reducible apply Sto.there | with_reducible assumption | (unfold I64; omega) | (with_reducible (have hMx := Mem.undrew hM; exact hMx)) | (with_reducible (have hMx := Mem.undrew hMp; exact hMx))))
  clear hM
  intro wst hM
  (try simp only [World.size_alloc, World.size_setCell, World.heap_drewN, heapDrew, Nat.add_assoc, Nat.reduceAdd, List.setIfInBounds_toArray, List.set_cons_zero, List.set_cons_succ, List.cons_append, List.nil_append] at hM)
  go_cut [6, 7] (fun s6 s7 wx => ∃ (b6 : Nat) (a7 : Option Addr) (c7 : Nat), s6 = .slice (some ⟨b6, 0, none⟩) n1 n1 ∧ s7 = .slice a7 n2 c7 ∧ Mem w.heap.size w wx [intE (some ⟨b6, 0, none⟩) n1 n1 (List.replicate n1 0), owE FStock 46 a7 n2 c7 ss, rowE w.heap.size 26 #[.slice a1 n1 c1]])
  case first =>
    refine AtT.startA hM hM 6 (by kernel_rfl) ?_
    clear hM
    intro wd hM
    have hS := hM
    refine AtT.taked (i := 0) (v := ?_) (some 11) rfl rfl (by kernel_rfl) (by kernel_rfl) (by kernel_rfl) (by kernel_rfl) (fun _ _ _ h => h) (Or.inl ⟨by kernel_rfl, ?_⟩) hS ?_
    rotate_left
    · (intro wS hSw; (try dsimp only at hSw); have kr0 := (Mem.row hSw .here).cell; go_simp; (try rw [if_neg (by omega)]); try with_reducible rfl)
    simp only [Act.put, List.setIfInBounds_toArray, List.set_cons_zero, List.set_cons_succ]
    refine AtT.taked (i := 1) (v := ?_) (some 12) rfl rfl (by kernel_rfl) (by kernel_rfl) (by kernel_rfl) (by kernel_rfl) (fun _ _ _ h => h) (Or.inl ⟨by kernel_rfl, ?_⟩) hS ?_
    rotate_left
    · (intro wS hSw; (try dsimp only at hSw); go_simp; (try rw [if_neg (by omega)]); try with_reducible rfl)
    simp only [Act.put, List.setIfInBounds_toArray, List.set_cons_zero, List.set_cons_succ]
    refine AtT.taked (i := 3) (v := ?_) (some 14) rfl rfl (by kernel_rfl) (by kernel_rfl) (by kernel_rfl) (by kernel_rfl) (fun _ _ _ h => h) (Or.inl ⟨by kernel_rfl, ?_⟩) hS ?_
    rotate_left
    · (intro wS hSw; (try dsimp only at hSw); go_simp; (try rw [if_neg (by omega)]); try with_reducible rfl)
    simp only [Act.put, List.setIfInBounds_toArray, List.set_cons_zero, List.set_cons_succ]
    refine AtT.two (i := 2) (j := 4) (by kernel_rfl) rfl rfl rfl rfl ?_ ?_
    · skip
      intro K hK
      refine step_makeI hM rfl (.tmp 12) (.tmp 12) 41 rfl i0 Try.underlying41 hi hz0 hz1 hz2 n1 rfl rfl (by omega) ?_
      clear hM
      intro b6 w6 hM
      try dsimp only
      refine hK.out _ _ (hM.tail) ?_
      clear hK K hS
      have hS := hM.tail
      refine AtT.only (i := 4) (by kernel_rfl) rfl rfl ?_
      intro K hK
      go_simp
      refine (copyStock_any a2 n2 c2 ss _ (h2.ext hM.below) (by omega)).mono ?_
      rintro e w3 ⟨a7, c7, rfl, hm⟩
      replace hM := hM.join hm
      clear hm
      try dsimp only
      refine hK.out _ _ (hM.tail.tail) ?_
      clear hK K hS
      have hS := hM.tail.tail
      refine AtT.taked (i := 5) (v := ?_) (some 6) rfl rfl (by kernel_rfl) (by kernel_rfl) (by kernel_rfl) (by kernel_rfl) (fun _ _ _ h => h) (Or.inl ⟨by kernel_rfl, ?_⟩) hS ?_
      rotate_left
      · (intro wS hSw; (try dsimp only at hSw); go_simp; (try rw [if_neg (by omega)]); try with_reducible rfl)
      simp only [Act.put, List.setIfInBounds_toArray, List.set_cons_zero, List.set_cons_succ]
      refine AtT.last (by kernel_rfl) rfl (by kernel_rfl) ?_
      intro K hK
      clear hS
      go_simp
      refine hK.out _ _ ?_
      clear hK K
      go_wp2
      go_meet
      exact ⟨b6, a7, c7, rfl, rfl, Mem.pick (is := [1, 0, 2]) hM (by decide) rfl⟩
    · skip
      intro K hK
      go_simp
      refine (copyStock_any a2 n2 c2 ss _ (h2.ext hM.below) (by omega)).mono ?_
      rintro e w3 ⟨a7, c7, rfl, hm⟩
      replace hM := hM.join hm
      clear hm
      try dsimp only
      refine hK.out _ _ (hM.tail) ?_
      clear hK K hS
      have hS := hM.tail
      refine AtT.only (i := 2) (by kernel_rfl) rfl rfl ?_
      intro K hK
      refine step_makeI hM rfl (.tmp 12) (.tmp 12) 41 rfl i0 Try.underlying41 hi hz0 hz1 hz2 n1 rfl rfl (by omega) ?_
      clear hM
      intro b6 w6 hM
      try dsimp only
      refine hK.out _ _ (hM.tail.tail) ?_
      clear hK K hS
      have hS := hM.tail.tail
      refine AtT.taked (i := 5) (v := ?_) (some 6) rfl rfl (by kernel_rfl) (by kernel_rfl) (by kernel_rfl) (by kernel_rfl) (fun _ _ _ h => h) (Or.inl ⟨by kernel_rfl, ?_⟩) hS ?_
      rotate_left
      · (intro wS hSw; (try dsimp only at hSw); go_simp; (try rw [if_neg (by omega)]); try with_reducible rfl)
      simp only [Act.put, List.setIfInBounds_toArray, List.set_cons_zero, List.set_cons_succ]
      refine AtT.last (by kernel_rfl) rfl (by kernel_rfl) ?_
      intro K hK
      clear hS
      go_simp
      refine hK.out _ _ ?_
      clear hK K
      go_wp2
      go_meet
      exact ⟨b6, a7, c7, rfl, rfl, Mem.pick (is := [0, 1, 2]) hM (by decide) rfl⟩
  case rest =>
    clear hM
    obtain ⟨b6, a7, c7, rfl, rfl, hM⟩ := hcut
    rw [servK_zero (ss := ss) HL.out] at hM
    obtain ⟨k2, f2, l2⟩ := hM.row (.there (.there .here))
    go_wp2_with fail
    clear k2 f2 l2
    apply Mem.atA
    · (repeat' (first | with_reducible exact hM | with_reducible exact hMp | with_reducible apply Mem.drew | with_reducible apply Mem.drewN | with_reducible apply Mem.alloc | with_reducible apply Mem.set | with_reducible exact Sto.row | ((with_reducible refine Sto.rowEq2 ?_ ?_); omega; rfl) | ((with_reducible refine Sto.rowEq ?_); omega) | with_reducible apply Sto.int | with_reducible apply Sto.there | with_reducible assumption | (unfold I64; omega) | (with_reducible (have hMx := Mem.undrew hM; exact hMx)) | (with_reducible (have hMx := Mem.undrew hMp; exact hMx))))
    clear hM
    intro wst hM
    (try simp only [World.size_alloc, World.size_setCell, World.heap_drewN, heapDrew, Nat.add_assoc, Nat.reduceAdd, List.setIfInBounds_toArray, List.set_cons_zero, List.set_cons_succ, List.cons_append, List.nil_append] at hM)
    (first | refine (implServing_any a1 n1 c1 os _ (h1.ext hM.below) (by omega)).mono ?_)
    rintro e wc1 ⟨a8, c8, rfl, hm⟩
    replace hM := hM.join hm
    clear hm
    (try simp only [World.size_alloc, World.size_setCell, World.heap_drewN, heapDrew, Nat.add_assoc, Nat.reduceAdd, List.setIfInBounds_toArray, List.set_cons_zero, List.set_cons_succ, List.cons_append, List.nil_append] at hM)
    go_wp2_with fail
    go_loopw [19] (fun s19 wr => ∃ t : Nat, t ≤ n1 ∧ s19 = .int .i64 t ∧ Mem w.heap.size w wr [intE a8 n1 c8 (servL os), intE (some ⟨b6, 0, none⟩) n1 n1 (servK os ss t).1, owE FStock 46 a7 n2 c7 (servK os ss t).2, rowE w.heap.size 26 #[.slice a1 n1 c1]]) (fun s19 _ => n1 - (intOf s19).toNat)
    case atStart => exact ⟨0, Nat.zero_le _, rfl, hM⟩
    case round =>
      clear hM
      obtain ⟨t, ht, rfl, hM⟩ := hrel
      by_cases hlt : t < n1
      · obtain ⟨q, hq, hqn⟩ := servL_mem (os := os) (t := t) (by rw [HL.out]; exact hlt)
        rw [HL.out] at hqn
        have HINJ := Lib.hid (servK_inj (os := os) HS.out t)
        have HSM := Lib.hid (servK_small HO.out HS.out t)
        have hstep : servK os ss (t + 1) = stepS os (servK os ss t) q := by rw [servK, hq]
        have hl1 := servK_len1 os ss t
        have hl2 := servK_len2 os ss t
        rw [HL.out] at hl1
        rw [HL2.out] at hl2
        obtain ⟨x, hx⟩ : ∃ x, servK os ss t = x := ⟨_, rfl⟩
        rw [hx] at hM HINJ HSM hstep hl1 hl2
        clear hx
        obtain ⟨gs, lf⟩ := x
        dsimp only at hM HINJ HSM hl1 hl2
        have HST := Lib.hid hstep; have HG := Lib.hid hl1; have HF := Lib.hid hl2
        clear hstep hl1 hl2
        obtain ⟨g8, rfl, -⟩ := (hM.ints .here).head (by omega)
        have k8 := (hM.ints .here).cellAt hlt
        rw [hq] at k8
        have HQ := Lib.hid hq
        clear hq
        have t0 : (0 : Int) ≤ (t : Int) := by omega
        have t1 : (t : Int) < (n1 : Int) := by omega
        obtain ⟨v, hv⟩ : ∃ v, os.getD q OrderI.zero = v := ⟨_, rfl⟩
        have HV := Lib.hid hv
        go_wp2_with fail
        apply Mem.atA
        · (repeat' (first | with_reducible exact hM | with_reducible exact hMp | with_reducible apply Mem.drew | with_reducible apply Mem.drewN | with_reducible apply Mem.alloc | with_reducible apply Mem.set | with_reducible exact Sto.row | ((with_reducible refine Sto.rowEq2 ?_ ?_); omega; rfl) | ((with_reducible refine Sto.rowEq ?_); omega) | with_reducible apply Sto.int | with_reducible apply Sto.there | with_reducible assumption | (unfold I64; omega) | (with_reducible (have hMx := Mem.undrew hM; exact hMx)) | (with_reducible (have hMx := Mem.undrew hMp; exact hMx))))
        clear hM
        intro wst hM
        (try simp only [World.size_alloc, World.size_setCell, World.heap_drewN, heapDrew, Nat.add_assoc, Nat.reduceAdd, List.setIfInBounds_toArray, List.set_cons_zero, List.set_cons_succ, List.cons_append, List.nil_append] at hM)
        refine (indexStock_any 121 _ (isK (os.getD q OrderI.zero).kd) a7 n2 c7 lf _ (hM.ow (.there (.there (.there .here)))).rd (enters Try.func121 (by kernel_rfl) rfl) (answers_serve a1 n1 c1 os q w.heap.size _ lf _ (h1.ext hM.below) hqn (hM.row (.there (.there (.there (.there .here))))) (hM.row .here))).mono ?_
        rintro e w3 ⟨rfl, hb⟩
        replace hM := hM.ext hb
        clear hb k8
        rw [hv]
        clear hv
        obtain ⟨oi, ok, oc, ou, ot⟩ := v
        dsimp only at HST ⊢
        cases hh : hasK lf ok
        · have hr : idxR (isK ok) lf = -1 := idxR_neg hh
          rw [hr]
          have HST2 := Lib.hid (show servK os ss (t + 1) = (gs, lf) by rw [HST.out, stepS, Int.toNat_natCast, HV.out]; dsimp only; rw [hh]; rfl)
          clear hr hh
          go_wp2
          go_roundw
          case rel => exact ⟨t + 1, by omega, by go_num, by rw [HST2.out]; exact hM.tail⟩
          case measure => simp [intOf]; omega
        · obtain ⟨hp1, hp2⟩ := hasK_pl hh
          have hr : idxR (isK ok) lf = ((plK lf ok : Nat) : Int) := idxR_pos hh
          rw [hr]
          have hst2 : servK os ss (t + 1) = (gs.set q (minO oc (lf.getD (plK lf ok) StockI.zero).ct), lf.set (plK lf ok) ⟨ok, (lf.getD (plK lf ok) StockI.zero).ct - minO oc (lf.getD (plK lf ok) StockI.zero).ct⟩) := by
            rw [HST.out, stepS, Int.toNat_natCast, HV.out]
            dsimp only
            rw [if_pos hh]
          clear hr hh
          generalize plK lf ok = k at hp1 hp2 hst2
          rw [HF.out] at hp1
          have hsm := HSM.out.2 _ (getD_memO (d := StockI.zero) (xs := lf) (k := k) (by rw [HF.out]; exact hp1))
          obtain ⟨y, hy⟩ : ∃ y, lf.getD k StockI.zero = y := ⟨_, rfl⟩
          rw [hy] at hp2 hst2 hsm
          obtain ⟨yk, yc⟩ := y
          dsimp only at hp2 hst2 hsm
          subst hp2
          have HY := Lib.hid hy
          have HST2 := Lib.hid hst2
          have hoc := (orderB_true (ord_get HO.out (k := q) (by rw [HL.out]; exact hqn))).2.2.1
          rw [HV.out] at hoc
          dsimp only at hoc
          obtain ⟨g7, rfl, -⟩ := (hM.ow (.there (.there (.there .here)))).head (by omega)
          clear hy hst2
          have q0 : (0 : Int) ≤ (q : Int) := by omega
          have q1 : (q : Int) < (n1 : Int) := by omega
          have k0 : (0 : Int) ≤ (k : Int) := by omega
          have k1 : (k : Int) < (n2 : Int) := by omega
          obtain ⟨bo, off, rfl, -, -⟩ := h1.at' _ hqn
          go_upto_region 7 with fail
          apply Mem.atWpA
          · (repeat' (first | with_reducible exact hM | with_reducible exact hMp | with_reducible apply Mem.drew | with_reducible apply Mem.drewN | with_reducible apply Mem.alloc | with_reducible apply Mem.set | with_reducible exact Sto.row | ((with_reducible refine Sto.rowEq2 ?_ ?_); omega; rfl) | ((with_reducible refine Sto.rowEq ?_); omega) | with_reducible apply Sto.int | with_reducible apply Sto.there | with_reducible assumption | (unfold I64; omega) | (with_reducible (have hMx := Mem.undrew hM; exact hMx)) | (with_reducible (have hMx := Mem.undrew hMp; exact hMx))))
          clear hM
          intro wst hM
          (try simp only [World.size_alloc, World.size_setCell, World.heap_drewN, heapDrew, Nat.add_assoc, Nat.reduceAdd, List.setIfInBounds_toArray, List.set_cons_zero, List.set_cons_succ, List.cons_append, List.nil_append] at hM)
          refine AtT.startA hM hM 14 (by kernel_rfl) ?_
          clear hM
          intro wd hM
          have hS := hM
          refine AtT.taked (i := 0) (v := ?_) (some 28) rfl rfl (by kernel_rfl) (by kernel_rfl) (by kernel_rfl) (by kernel_rfl) (fun _ _ _ h => h) (Or.inl ⟨by kernel_rfl, ?_⟩) hS ?_
          rotate_left
          · (intro wS hSw; (try dsimp only at hSw); go_simp; (try rw [if_neg (by omega)]); try with_reducible rfl)
          simp only [Act.put, List.setIfInBounds_toArray, List.set_cons_zero, List.set_cons_succ]
          refine AtT.taked (i := 1) (v := ?_) (some 29) rfl rfl (by kernel_rfl) (by kernel_rfl) (by kernel_rfl) (by kernel_rfl) (fun _ _ _ h => h) (Or.inl ⟨by kernel_rfl, ?_⟩) hS ?_
          rotate_left
          · (intro wS hSw; (try dsimp only at hSw); have kr0 := (Mem.row hSw .here).cell; have kr1 := (Mem.row hSw (.there (.there (.there (.there .here))))).cell; have r3 := ((hSw.ow (.there (.there (.there .here)))).cellStock hp1).2; rw [HY.out] at r3; have r4 := ((h1.ext hSw.below).cellOrder hqn).2.2.2.1; rw [HV.out] at r4; dsimp only at r3 r4; go_simp; (try rw [if_neg (by omega)]); try with_reducible rfl)
          simp only [Act.put, List.setIfInBounds_toArray, List.set_cons_zero, List.set_cons_succ]
          refine AtT.taked (i := 2) (v := ?_) (some 30) rfl rfl (by kernel_rfl) (by kernel_rfl) (by kernel_rfl) (by kernel_rfl) (fun _ _ _ h => h) (Or.inl ⟨by kernel_rfl, ?_⟩) hS ?_
          rotate_left
          · (intro wS hSw; (try dsimp only at hSw); go_simp; (try rw [if_neg (by omega)]); try with_reducible rfl)
          simp only [Act.put, List.setIfInBounds_toArray, List.set_cons_zero, List.set_cons_succ]
          refine AtT.taked (i := 3) (v := ?_) (some 31) rfl rfl (by kernel_rfl) (by kernel_rfl) (by kernel_rfl) (by kernel_rfl) (fun _ _ _ h => h) (Or.inl ⟨by kernel_rfl, ?_⟩) hS ?_
          rotate_left
          · (intro wS hSw; (try dsimp only at hSw); go_simp; (try rw [if_neg (by omega)]); try with_reducible rfl)
          simp only [Act.put, List.setIfInBounds_toArray, List.set_cons_zero, List.set_cons_succ]
          refine AtT.taked (i := 4) (v := ?_) (some 32) rfl rfl (by kernel_rfl) (by kernel_rfl) (by kernel_rfl) (by kernel_rfl) (fun _ _ _ h => h) (Or.inl ⟨by kernel_rfl, ?_⟩) hS ?_
          rotate_left
          · (intro wS hSw; (try dsimp only at hSw); have kr0 := (Mem.row hSw .here).cell; have kr1 := (Mem.row hSw (.there (.there (.there (.there .here))))).cell; have r3 := ((hSw.ow (.there (.there (.there .here)))).cellStock hp1).2; rw [HY.out] at r3; have r4 := ((h1.ext hSw.below).cellOrder hqn).2.2.2.1; rw [HV.out] at r4; dsimp only at r3 r4; go_simp; (try rw [if_neg (by omega)]); try with_reducible rfl)
          simp only [Act.put, List.setIfInBounds_toArray, List.set_cons_zero, List.set_cons_succ]
          refine AtT.taked (i := 5) (v := ?_) (some 33) rfl rfl (by kernel_rfl) (by kernel_rfl) (by kernel_rfl) (by kernel_rfl) (fun _ _ _ h => h) (Or.inl ⟨by kernel_rfl, ?_⟩) hS ?_
          rotate_left
          · (intro wS hSw; (try dsimp only at hSw); go_simp; (try rw [if_neg (by omega)]); try with_reducible rfl)
          simp only [Act.put, List.setIfInBounds_toArray, List.set_cons_zero, List.set_cons_succ]
          refine AtT.taked (i := 6) (v := ?_) (some 34) rfl rfl (by kernel_rfl) (by kernel_rfl) (by kernel_rfl) (by kernel_rfl) (fun _ _ _ h => h) (Or.inl ⟨by kernel_rfl, ?_⟩) hS ?_
          rotate_left
          · (intro wS hSw; (try dsimp only at hSw); have kr0 := (Mem.row hSw .here).cell; have kr1 := (Mem.row hSw (.there (.there (.there (.there .here))))).cell; have r3 := ((hSw.ow (.there (.there (.there .here)))).cellStock hp1).2; rw [HY.out] at r3; have r4 := ((h1.ext hSw.below).cellOrder hqn).2.2.2.1; rw [HV.out] at r4; dsimp only at r3 r4; go_simp; (try rw [if_neg (by omega)]); try with_reducible rfl)
          simp only [Act.put, List.setIfInBounds_toArray, List.set_cons_zero, List.set_cons_succ]
          refine AtT.taked (i := 7) (v := ?_) (some 35) rfl rfl (by kernel_rfl) (by kernel_rfl) (by kernel_rfl) (by kernel_rfl) (fun _ _ _ h => h) (Or.inl ⟨by kernel_rfl, ?_⟩) hS ?_
          rotate_left
          · (intro wS hSw; (try dsimp only at hSw); have kr0 := (Mem.row hSw .here).cell; have kr1 := (Mem.row hSw (.there (.there (.there (.there .here))))).cell; have r3 := ((hSw.ow (.there (.there (.there .here)))).cellStock hp1).2; rw [HY.out] at r3; have r4 := ((h1.ext hSw.below).cellOrder hqn).2.2.2.1; rw [HV.out] at r4; dsimp only at r3 r4; go_simp; (try rw [if_neg (by omega)]); try with_reducible rfl)
          simp only [Act.put, List.setIfInBounds_toArray, List.set_cons_zero, List.set_cons_succ]
          refine AtT.taked (i := 8) (v := ?_) (some 36) rfl rfl (by kernel_rfl) (by kernel_rfl) (by kernel_rfl) (by kernel_rfl) (fun _ _ _ h => h) (Or.inl ⟨by kernel_rfl, ?_⟩) hS ?_
          rotate_left
          · (intro wS hSw; (try dsimp only at hSw); have kr0 := (Mem.row hSw .here).cell; have kr1 := (Mem.row hSw (.there (.there (.there (.there .here))))).cell; have r3 := ((hSw.ow (.there (.there (.there .here)))).cellStock hp1).2; rw [HY.out] at r3; have r4 := ((h1.ext hSw.below).cellOrder hqn).2.2.2.1; rw [HV.out] at r4; dsimp only at r3 r4; go_simp; (try rw [if_neg (by omega)]); try with_reducible rfl)
          simp only [Act.put, List.setIfInBounds_toArray, List.set_cons_zero, List.set_cons_succ]
          refine AtT.taked (i := 9) (v := ?_) (some 37) rfl rfl (by kernel_rfl) (by kernel_rfl) (by kernel_rfl) (by kernel_rfl) (fun _ _ _ h => h) (Or.inl ⟨by kernel_rfl, ?_⟩) hS ?_
          rotate_left
          · (intro wS hSw; (try dsimp only at hSw); have kr0 := (Mem.row hSw .here).cell; have kr1 := (Mem.row hSw (.there (.there (.there (.there .here))))).cell; have r3 := ((hSw.ow (.there (.there (.there .here)))).cellStock hp1).2; rw [HY.out] at r3; have r4 := ((h1.ext hSw.below).cellOrder hqn).2.2.2.1; rw [HV.out] at r4; dsimp only at r3 r4; go_simp; (try rw [if_neg (by omega)]); try with_reducible rfl)
          simp only [Act.put, List.setIfInBounds_toArray, List.set_cons_zero, List.set_cons_succ]
          refine AtT.taked (i := 10) (v := ?_) (some 38) rfl rfl (by kernel_rfl) (by kernel_rfl) (by kernel_rfl) (by kernel_rfl) (fun _ _ _ h => h) (Or.inl ⟨by kernel_rfl, ?_⟩) hS ?_
          rotate_left
          · (intro wS hSw; (try dsimp only at hSw); go_simp; (try rw [if_neg (by omega)]); try with_reducible rfl)
          simp only [Act.put, List.setIfInBounds_toArray, List.set_cons_zero, List.set_cons_succ]
          refine AtT.taked (i := 11) (v := ?_) (some 39) rfl rfl (by kernel_rfl) (by kernel_rfl) (by kernel_rfl) (by kernel_rfl) (fun _ _ _ h => h) (Or.inl ⟨by kernel_rfl, ?_⟩) hS ?_
          rotate_left
          · (intro wS hSw; (try dsimp only at hSw); have kr0 := (Mem.row hSw .here).cell; have kr1 := (Mem.row hSw (.there (.there (.there (.there .here))))).cell; have r3 := ((hSw.ow (.there (.there (.there .here)))).cellStock hp1).2; rw [HY.out] at r3; have r4 := ((h1.ext hSw.below).cellOrder hqn).2.2.2.1; rw [HV.out] at r4; dsimp only at r3 r4; go_simp; (try rw [if_neg (by omega)]); try with_reducible rfl)
          simp only [Act.put, List.setIfInBounds_toArray, List.set_cons_zero, List.set_cons_succ]
          refine AtT.taked (i := 12) (v := ?_) (some 40) rfl rfl (by kernel_rfl) (by kernel_rfl) (by kernel_rfl) (by kernel_rfl) (fun _ _ _ h => h) (Or.inl ⟨by kernel_rfl, ?_⟩) hS ?_
          rotate_left
          · (intro wS hSw; (try dsimp only at hSw); go_simp; (try rw [if_neg (by omega)]); try with_reducible rfl)
          simp only [Act.put, List.setIfInBounds_toArray, List.set_cons_zero, List.set_cons_succ]
          refine AtT.taked (i := 13) (v := ?_) (some 41) rfl rfl (by kernel_rfl) (by kernel_rfl) (by kernel_rfl) (by kernel_rfl) (fun _ _ _ h => h) (Or.inl ⟨by kernel_rfl, ?_⟩) hS ?_
          rotate_left
          · (intro wS hSw; (try dsimp only at hSw); have kr0 := (Mem.row hSw .here).cell; have kr1 := (Mem.row hSw (.there (.there (.there (.there .here))))).cell; have r3 := ((hSw.ow (.there (.there (.there .here)))).cellStock hp1).2; rw [HY.out] at r3; have r4 := ((h1.ext hSw.below).cellOrder hqn).2.2.2.1; rw [HV.out] at r4; dsimp only at r3 r4; go_simp; (try rw [if_neg (by omega)]); try with_reducible rfl)
          simp only [Act.put, List.setIfInBounds_toArray, List.set_cons_zero, List.set_cons_succ]
          refine AtT.last (by kernel_rfl) rfl (by kernel_rfl) ?_
          intro K hK
          clear hS
          have kk0 := (hM.row .here).cell
          have ff0 := (hM.row .here).free
          have ll0 := (hM.row .here).lt
          have kk4 := (hM.row (.there (.there (.there (.there .here))))).cell
          have ff4 := (hM.row (.there (.there (.there (.there .here))))).free
          have ll4 := (hM.row (.there (.there (.there (.there .here))))).lt
          have hce := (hM.ints (.there (.there .here))).cellAt (k := q) hqn
          have hfe := (hM.ints (.there (.there .here))).freeAt q
          go_simp
          clear kk0 ff0 ll0 kk4 ff4 ll4
          refine hK.out _ _ ?_
          clear hK K
          apply Mem.atEx
          · (repeat' (first | with_reducible exact hM | with_reducible exact hMp | with_reducible apply Mem.drew | with_reducible apply Mem.drewN | with_reducible apply Mem.alloc | with_reducible apply Mem.set | with_reducible exact Sto.row | ((with_reducible refine Sto.rowEq2 ?_ ?_); omega; rfl) | ((with_reducible refine Sto.rowEq ?_); omega) | with_reducible apply Sto.int | with_reducible apply Sto.there | with_reducible assumption | (unfold I64; omega) | (with_reducible (have hMx := Mem.undrew hM; exact hMx)) | (with_reducible (have hMx := Mem.undrew hMp; exact hMx))))
          clear hM
          intro wst hM
          (try simp only [World.size_alloc, World.size_setCell, World.heap_drewN, heapDrew, Nat.add_assoc, Nat.reduceAdd, List.setIfInBounds_toArray, List.set_cons_zero, List.set_cons_succ, List.cons_append, List.nil_append] at hM)
          have hmw : I64 (minO oc yc) := by unfold minO I64; split <;> omega
          have hms : I64 (yc - minO oc yc) := by unfold minO I64; split <;> omega
          have hwr : IntKind.i64.wrap (yc - minO oc yc) = yc - minO oc yc := wrap_in (by unfold minO; split <;> omega)
          change Mem w.heap.size w _ (_ :: _ :: intE _ _ _ (gs.set q (minO oc yc)) :: _) at hM
          generalize minO oc yc = m at hmw hms hwr HST2 hM
          have hgq : (gs.set q m).getD q 0 = m := by
            rw [List.getD_eq_getElem?_getD, List.getElem?_set_self (by rw [HG.out]; exact hqn)]
            rfl
          go_upto_region 8 with fail
          apply Mem.atWpA
          · (repeat' (first | with_reducible exact hM | with_reducible exact hMp | with_reducible apply Mem.drew | with_reducible apply Mem.drewN | with_reducible apply Mem.alloc | with_reducible apply Mem.set | with_reducible exact Sto.row | ((with_reducible refine Sto.rowEq2 ?_ ?_); omega; rfl) | ((with_reducible refine Sto.rowEq ?_); omega) | with_reducible apply Sto.int | with_reducible apply Sto.there | with_reducible assumption | (unfold I64; omega) | (with_reducible (have hMx := Mem.undrew hM; exact hMx)) | (with_reducible (have hMx := Mem.undrew hMp; exact hMx))))
          clear hM
          intro wst hM
          (try simp only [World.size_alloc, World.size_setCell, World.heap_drewN, heapDrew, Nat.add_assoc, Nat.reduceAdd, List.setIfInBounds_toArray, List.set_cons_zero, List.set_cons_succ, List.cons_append, List.nil_append] at hM)
          refine AtT.startA hM hM 12 (by kernel_rfl) ?_
          clear hM
          intro wd hM
          have hS := hM
          refine AtT.taked (i := 0) (v := ?_) (some 42) rfl rfl (by kernel_rfl) (by kernel_rfl) (by kernel_rfl) (by kernel_rfl) (fun _ _ _ h => h) (Or.inl ⟨by kernel_rfl, ?_⟩) hS ?_
          rotate_left
          · (intro wS hSw; (try dsimp only at hSw); go_simp; (try rw [if_neg (by omega)]); try with_reducible rfl)
          simp only [Act.put, List.setIfInBounds_toArray, List.set_cons_zero, List.set_cons_succ]
          refine AtT.taked (i := 1) (v := ?_) (some 43) rfl rfl (by kernel_rfl) (by kernel_rfl) (by kernel_rfl) (by kernel_rfl) (fun _ _ _ h => h) (Or.inl ⟨by kernel_rfl, ?_⟩) hS ?_
          rotate_left
          · (intro wS hSw; (try dsimp only at hSw); go_simp; (try rw [if_neg (by omega)]); try with_reducible rfl)
          simp only [Act.put, List.setIfInBounds_toArray, List.set_cons_zero, List.set_cons_succ]
          refine AtT.taked (i := 2) (v := ?_) (some 44) rfl rfl (by kernel_rfl) (by kernel_rfl) (by kernel_rfl) (by kernel_rfl) (fun _ _ _ h => h) (Or.inl ⟨by kernel_rfl, ?_⟩) hS ?_
          rotate_left
          · (intro wS hSw; (try dsimp only at hSw); have kr0 := (Mem.row hSw .here).cell; have kr1 := (Mem.row hSw (.there (.there (.there (.there .here))))).cell; have r3 := ((hSw.ow (.there (.there (.there .here)))).cellStock hp1).2; rw [HY.out] at r3; have r5 := (hSw.ints (.there (.there .here))).cellAt hqn; rw [hgq] at r5; dsimp only at r3; go_simp; (try rw [if_neg (by omega)]); try with_reducible rfl)
          simp only [Act.put, List.setIfInBounds_toArray, List.set_cons_zero, List.set_cons_succ]
          refine AtT.taked (i := 3) (v := ?_) (some 45) rfl rfl (by kernel_rfl) (by kernel_rfl) (by kernel_rfl) (by kernel_rfl) (fun _ _ _ h => h) (Or.inl ⟨by kernel_rfl, ?_⟩) hS ?_
          rotate_left
          · (intro wS hSw; (try dsimp only at hSw); go_simp; (try rw [if_neg (by omega)]); try with_reducible rfl)
          simp only [Act.put, List.setIfInBounds_toArray, List.set_cons_zero, List.set_cons_succ]
          refine AtT.taked (i := 4) (v := ?_) (some 46) rfl rfl (by kernel_rfl) (by kernel_rfl) (by kernel_rfl) (by kernel_rfl) (fun _ _ _ h => h) (Or.inl ⟨by kernel_rfl, ?_⟩) hS ?_
          rotate_left
          · (intro wS hSw; (try dsimp only at hSw); have kr0 := (Mem.row hSw .here).cell; have kr1 := (Mem.row hSw (.there (.there (.there (.there .here))))).cell; have r3 := ((hSw.ow (.there (.there (.there .here)))).cellStock hp1).2; rw [HY.out] at r3; have r5 := (hSw.ints (.there (.there .here))).cellAt hqn; rw [hgq] at r5; dsimp only at r3; go_simp; (try rw [if_neg (by omega)]); try with_reducible rfl)
          simp only [Act.put, List.setIfInBounds_toArray, List.set_cons_zero, List.set_cons_succ]
          refine AtT.taked (i := 5) (v := ?_) (some 47) rfl rfl (by kernel_rfl) (by kernel_rfl) (by kernel_rfl) (by kernel_rfl) (fun _ _ _ h => h) (Or.inl ⟨by kernel_rfl, ?_⟩) hS ?_
          rotate_left
          · (intro wS hSw; (try dsimp only at hSw); go_simp; (try rw [if_neg (by omega)]); try with_reducible rfl)
          simp only [Act.put, List.setIfInBounds_toArray, List.set_cons_zero, List.set_cons_succ]
          refine AtT.taked (i := 6) (v := ?_) (some 48) rfl rfl (by kernel_rfl) (by kernel_rfl) (by kernel_rfl) (by kernel_rfl) (fun _ _ _ h => h) (Or.inl ⟨by kernel_rfl, ?_⟩) hS ?_
          rotate_left
          · (intro wS hSw; (try dsimp only at hSw); have kr0 := (Mem.row hSw .here).cell; have kr1 := (Mem.row hSw (.there (.there (.there (.there .here))))).cell; have r3 := ((hSw.ow (.there (.there (.there .here)))).cellStock hp1).2; rw [HY.out] at r3; have r5 := (hSw.ints (.there (.there .here))).cellAt hqn; rw [hgq] at r5; dsimp only at r3; go_simp; (try rw [if_neg (by omega)]); try with_reducible rfl)
          simp only [Act.put, List.setIfInBounds_toArray, List.set_cons_zero, List.set_cons_succ]
          refine AtT.taked (i := 7) (v := ?_) (some 49) rfl rfl (by kernel_rfl) (by kernel_rfl) (by kernel_rfl) (by kernel_rfl) (fun _ _ _ h => h) (Or.inl ⟨by kernel_rfl, ?_⟩) hS ?_
          rotate_left
          · (intro wS hSw; (try dsimp only at hSw); have kr0 := (Mem.row hSw .here).cell; have kr1 := (Mem.row hSw (.there (.there (.there (.there .here))))).cell; have r3 := ((hSw.ow (.there (.there (.there .here)))).cellStock hp1).2; rw [HY.out] at r3; have r5 := (hSw.ints (.there (.there .here))).cellAt hqn; rw [hgq] at r5; dsimp only at r3; go_simp; (try rw [if_neg (by omega)]); try with_reducible rfl)
          simp only [Act.put, List.setIfInBounds_toArray, List.set_cons_zero, List.set_cons_succ]
          refine AtT.taked (i := 8) (v := ?_) (some 50) rfl rfl (by kernel_rfl) (by kernel_rfl) (by kernel_rfl) (by kernel_rfl) (fun _ _ _ h => h) (Or.inl ⟨by kernel_rfl, ?_⟩) hS ?_
          rotate_left
          · (intro wS hSw; (try dsimp only at hSw); have kr0 := (Mem.row hSw .here).cell; have kr1 := (Mem.row hSw (.there (.there (.there (.there .here))))).cell; have r3 := ((hSw.ow (.there (.there (.there .here)))).cellStock hp1).2; rw [HY.out] at r3; have r5 := (hSw.ints (.there (.there .here))).cellAt hqn; rw [hgq] at r5; dsimp only at r3; go_simp; (try rw [if_neg (by omega)]); try with_reducible rfl)
          simp only [Act.put, List.setIfInBounds_toArray, List.set_cons_zero, List.set_cons_succ]
          refine AtT.taked (i := 9) (v := ?_) (some 51) rfl rfl (by kernel_rfl) (by kernel_rfl) (by kernel_rfl) (by kernel_rfl) (fun _ _ _ h => h) (Or.inl ⟨by kernel_rfl, ?_⟩) hS ?_
          rotate_left
          · (intro wS hSw; (try dsimp only at hSw); go_simp; (try rw [if_neg (by omega)]); try with_reducible rfl)
          simp only [Act.put, List.setIfInBounds_toArray, List.set_cons_zero, List.set_cons_succ]
          refine AtT.taked (i := 10) (v := ?_) (some 52) rfl rfl (by kernel_rfl) (by kernel_rfl) (by kernel_rfl) (by kernel_rfl) (fun _ _ _ h => h) (Or.inl ⟨by kernel_rfl, ?_⟩) hS ?_
          rotate_left
          · (intro wS hSw; (try dsimp only at hSw); have kr0 := (Mem.row hSw .here).cell; have kr1 := (Mem.row hSw (.there (.there (.there (.there .here))))).cell; have r3 := ((hSw.ow (.there (.there (.there .here)))).cellStock hp1).2; rw [HY.out] at r3; have r5 := (hSw.ints (.there (.there .here))).cellAt hqn; rw [hgq] at r5; dsimp only at r3; go_simp; (try rw [if_neg (by omega)]); try with_reducible rfl)
          simp only [Act.put, List.setIfInBounds_toArray, List.set_cons_zero, List.set_cons_succ]
          refine AtT.taked (i := 11) (v := ?_) (some 53) rfl rfl (by kernel_rfl) (by kernel_rfl) (by kernel_rfl) (by kernel_rfl) (fun _ _ _ h => h) (Or.inl ⟨by kernel_rfl, ?_⟩) hS ?_
          rotate_left
          · (intro wS hSw; (try dsimp only at hSw); go_simp; (try rw [if_neg (by omega)]); try with_reducible rfl)
          simp only [Act.put, List.setIfInBounds_toArray, List.set_cons_zero, List.set_cons_succ]
          refine AtT.last (by kernel_rfl) rfl (by kernel_rfl) ?_
          intro K hK
          clear hS
          have kk0 := (hM.row .here).cell
          have ff0 := (hM.row .here).free
          have ll0 := (hM.row .here).lt
          have kk4 := (hM.row (.there (.there (.there (.there .here))))).cell
          have ff4 := (hM.row (.there (.there (.there (.there .here))))).free
          have ll4 := (hM.row (.there (.there (.there (.there .here))))).lt
          have hce := ((hM.ow (.there (.there (.there .here)))).cellStock hp1).2
          have hfe := (hM.ow (.there (.there (.there .here)))).free
          go_simp
          clear kk0 ff0 ll0 kk4 ff4 ll4
          refine hK.out _ _ ?_
          clear hK K
          have hM2 := hM.setStock1 hp1 (yc - m) hms ⟨yk, yc⟩ HY.out ⟨by show yk.length ≤ maxLen; unfold maxLen; omega, by show I64 yc; unfold I64; omega⟩ (.there (.there (.there .here)))
          clear hM
          dsimp only at hM2
          go_wp2
          go_roundw
          case rel => exact ⟨t + 1, by omega, by go_num, by rw [HST2.out]; exact hM2.tail⟩
          case measure => simp [intOf]; omega
      · obtain rfl : t = n1 := by omega
        have hl1 : servK os ss t = servK os ss os.length := by rw [HL.out]
        rw [hl1] at hM
        go_wp2
        go_ret2
        exact ⟨_, _, _, _, rfl, Mem.pick (is := [1, 2]) hM (by decide) rfl⟩
end Go.Proofs.Ytfnaenekdenmkaa
