/-
  The law FnServing, walked.
-/
import Derived.Test.YtfnaenekdenmkaaYServF
import Derived.Test.YtfnaenekdenmkaaYDrawSrv
import Derived.Test.YtfnaenekdenmkaaYOpCode
import Derived.Deep.DeepCutAuto
/-
  The law FnServing, walked.
-/
namespace Go.Proofs.Ytfnaenekdenmkaa
set_option linter.unusedSimpArgs false
set_option linter.unusedVariables false
open Go.RowKit

set_option maxRecDepth 100000 in
set_option maxHeartbeats 16000000 in
theorem FnServing_walk (a : Option Addr) (n cc : Nat) (l : List UInt8) (w : World) (hI : n ≤ maxLen ∧ (n ≤ 65536 → Rd FByt w a n cc l)) :
    Calls Try.prog 4 #[.slice a n cc] w fun e w' => e = .returned (.bool true) ∧ Below w.heap.size w w' := by
  have hM := Mem.start w
  have HI := Lib.hid hI.2
  clear hI
  go_enter Try.func4, Try.ntmps4
  go_wp2_with fail
  apply Mem.atA
  · (repeat' (first | with_reducible exact hM | with_reducible exact hMp | with_reducible apply Mem.drew | with_reducible apply Mem.drewN | with_reducible apply Mem.alloc | with_reducible apply Mem.set | with_reducible exact Sto.row | ((with_reducible refine Sto.rowEq2 ?_ ?_); omega; rfl) | ((with_reducible refine Sto.rowEq ?_); omega) | with_reducible apply Sto.int | with_reducible apply Sto.there | with_reducible assumption | (unfold I64; omega) | (with_reducible (have hMx := Mem.undrew hM; exact hMx)) | (with_reducible (have hMx := Mem.undrew hMp; exact hMx))))
  clear hM
  intro wst hM
  (try simp only [World.size_alloc, World.size_setCell, World.heap_drewN, heapDrew, Nat.add_assoc, Nat.reduceAdd, List.setIfInBounds_toArray, List.set_cons_zero, List.set_cons_succ, List.cons_append, List.nil_append] at hM)
  (first | refine (rBig_any a n cc _).mono ?_)
  rintro e wc1 ⟨rfl, hb⟩
  replace hM := hM.ext hb
  clear hb
  by_cases hb : 65536 < n
  · go_wp2
    go_ret
    exact ⟨rfl, (by apply Mem.below; (repeat' (first | with_reducible exact hM | with_reducible exact hMp | with_reducible apply Mem.drew | with_reducible apply Mem.drewN | with_reducible apply Mem.alloc | with_reducible apply Mem.set | with_reducible exact Sto.row | ((with_reducible refine Sto.rowEq2 ?_ ?_); omega; rfl) | ((with_reducible refine Sto.rowEq ?_); omega) | with_reducible apply Sto.int | with_reducible apply Sto.there | with_reducible assumption | (unfold I64; omega) | (with_reducible (have hMx := Mem.undrew hM; exact hMx)) | (with_reducible (have hMx := Mem.undrew hMp; exact hMx)))))⟩
  have HC := Lib.hid (HI.out (by omega))
  clear HI
  go_wp2_with fail
  apply Mem.atA
  · (repeat' (first | with_reducible exact hM | with_reducible exact hMp | with_reducible apply Mem.drew | with_reducible apply Mem.drewN | with_reducible apply Mem.alloc | with_reducible apply Mem.set | with_reducible exact Sto.row | ((with_reducible refine Sto.rowEq2 ?_ ?_); omega; rfl) | ((with_reducible refine Sto.rowEq ?_); omega) | with_reducible apply Sto.int | with_reducible apply Sto.there | with_reducible assumption | (unfold I64; omega) | (with_reducible (have hMx := Mem.undrew hM; exact hMx)) | (with_reducible (have hMx := Mem.undrew hMp; exact hMx))))
  clear hM
  intro wst hM
  (try simp only [World.size_alloc, World.size_setCell, World.heap_drewN, heapDrew, Nat.add_assoc, Nat.reduceAdd, List.setIfInBounds_toArray, List.set_cons_zero, List.set_cons_succ, List.cons_append, List.nil_append] at hM)
  (first | refine (drawServe_any (HC.out.ext hM.below)).mono ?_)
  rintro e w1 ⟨a1, c1, os, a2, c2, ss, hl1, hx, hl2, hy, rfl, hm⟩
  replace hM := hM.join hm
  clear hm
  (try simp only [World.size_alloc, World.size_setCell, World.heap_drewN, heapDrew, Nat.add_assoc, Nat.reduceAdd, List.setIfInBounds_toArray, List.set_cons_zero, List.set_cons_succ, List.cons_append, List.nil_append] at hM)
  clear hx hy
  obtain ⟨gs, hgs⟩ : ∃ r, gotR os ss = r := ⟨_, rfl⟩
  obtain ⟨lf, hlf⟩ : ∃ r, leftR os ss = r := ⟨_, rfl⟩
  obtain ⟨op, hop⟩ : ∃ r, openR os ss = r := ⟨_, rfl⟩
  obtain ⟨v, hv⟩ : ∃ r, openB os ss = r := ⟨_, rfl⟩
  have HG := Lib.hid hgs; have HLf := Lib.hid hlf; have HO := Lib.hid hop; have HV := Lib.hid hv
  clear hgs hlf hop hv
  have hbb1 : (v != v) = false := by cases v <;> rfl
  go_wp2_with fail
  apply Mem.atA
  · (repeat' (first | with_reducible exact hM | with_reducible exact hMp | with_reducible apply Mem.drew | with_reducible apply Mem.drewN | with_reducible apply Mem.alloc | with_reducible apply Mem.set | with_reducible exact Sto.row | ((with_reducible refine Sto.rowEq2 ?_ ?_); omega; rfl) | ((with_reducible refine Sto.rowEq ?_); omega) | with_reducible apply Sto.int | with_reducible apply Sto.there | with_reducible assumption | (unfold I64; omega) | (with_reducible (have hMx := Mem.undrew hM; exact hMx)) | (with_reducible (have hMx := Mem.undrew hMp; exact hMx))))
  clear hM
  intro wst hM
  (try simp only [World.size_alloc, World.size_setCell, World.heap_drewN, heapDrew, Nat.add_assoc, Nat.reduceAdd, List.setIfInBounds_toArray, List.set_cons_zero, List.set_cons_succ, List.cons_append, List.nil_append] at hM)
  (first | refine (implServeO_any _ _ _ os _ _ _ ss _ (hM.ow (.there .here)).rd (hM.ow .here).rd).mono ?_)
  rw [HG.out,]
  rw [HLf.out,]
  rw [HV.out]
  rintro e w2 ⟨a3, c3, a4, c4, rfl, hm⟩
  replace hM := hM.join hm
  clear hm
  (try simp only [World.size_alloc, World.size_setCell, World.heap_drewN, heapDrew, Nat.add_assoc, Nat.reduceAdd, List.setIfInBounds_toArray, List.set_cons_zero, List.set_cons_succ, List.cons_append, List.nil_append] at hM)
  go_wp2_with fail
  apply Mem.atA
  · (repeat' (first | with_reducible exact hM | with_reducible exact hMp | with_reducible apply Mem.drew | with_reducible apply Mem.drewN | with_reducible apply Mem.alloc | with_reducible apply Mem.set | with_reducible exact Sto.row | ((with_reducible refine Sto.rowEq2 ?_ ?_); omega; rfl) | ((with_reducible refine Sto.rowEq ?_); omega) | with_reducible apply Sto.int | with_reducible apply Sto.there | with_reducible assumption | (unfold I64; omega) | (with_reducible (have hMx := Mem.undrew hM; exact hMx)) | (with_reducible (have hMx := Mem.undrew hMp; exact hMx))))
  clear hM
  intro wst hM
  (try simp only [World.size_alloc, World.size_setCell, World.heap_drewN, heapDrew, Nat.add_assoc, Nat.reduceAdd, List.setIfInBounds_toArray, List.set_cons_zero, List.set_cons_succ, List.cons_append, List.nil_append] at hM)
  (first | refine (specServeO_any _ _ _ os _ _ _ ss _ (hM.ow (.there (.there (.there .here)))).rd (hM.ow (.there (.there .here))).rd).mono ?_)
  rw [HG.out,]
  rw [HLf.out,]
  rw [HV.out]
  rintro e w3 ⟨a5, c5, a6, c6, rfl, hm⟩
  replace hM := hM.join hm
  clear hm
  (try simp only [World.size_alloc, World.size_setCell, World.heap_drewN, heapDrew, Nat.add_assoc, Nat.reduceAdd, List.setIfInBounds_toArray, List.set_cons_zero, List.set_cons_succ, List.cons_append, List.nil_append] at hM)
  go_wp2_with fail
  apply Mem.atA
  · (repeat' (first | with_reducible exact hM | with_reducible exact hMp | with_reducible apply Mem.drew | with_reducible apply Mem.drewN | with_reducible apply Mem.alloc | with_reducible apply Mem.set | with_reducible exact Sto.row | ((with_reducible refine Sto.rowEq2 ?_ ?_); omega; rfl) | ((with_reducible refine Sto.rowEq ?_); omega) | with_reducible apply Sto.int | with_reducible apply Sto.there | with_reducible assumption | (unfold I64; omega) | (with_reducible (have hMx := Mem.undrew hM; exact hMx)) | (with_reducible (have hMx := Mem.undrew hMp; exact hMx))))
  clear hM
  intro wst hM
  (try simp only [World.size_alloc, World.size_setCell, World.heap_drewN, heapDrew, Nat.add_assoc, Nat.reduceAdd, List.setIfInBounds_toArray, List.set_cons_zero, List.set_cons_succ, List.cons_append, List.nil_append] at hM)
  (first | refine (rInts_same _ _ _ gs _ _ _ _ (hM.intsR (.there (.there .here))) (hM.intsR .here)).mono ?_)
  rintro e wc5 ⟨rfl, hb⟩
  replace hM := hM.ext hb
  clear hb
  go_wp2_with fail
  apply Mem.atA
  · (repeat' (first | with_reducible exact hM | with_reducible exact hMp | with_reducible apply Mem.drew | with_reducible apply Mem.drewN | with_reducible apply Mem.alloc | with_reducible apply Mem.set | with_reducible exact Sto.row | ((with_reducible refine Sto.rowEq2 ?_ ?_); omega; rfl) | ((with_reducible refine Sto.rowEq ?_); omega) | with_reducible apply Sto.int | with_reducible apply Sto.there | with_reducible assumption | (unfold I64; omega) | (with_reducible (have hMx := Mem.undrew hM; exact hMx)) | (with_reducible (have hMx := Mem.undrew hMp; exact hMx))))
  clear hM
  intro wst hM
  (try simp only [World.size_alloc, World.size_setCell, World.heap_drewN, heapDrew, Nat.add_assoc, Nat.reduceAdd, List.setIfInBounds_toArray, List.set_cons_zero, List.set_cons_succ, List.cons_append, List.nil_append] at hM)
  (first | refine (rStocks_same _ _ _ lf _ _ _ _ (hM.ow (.there (.there (.there .here)))).rd (hM.ow (.there .here)).rd).mono ?_)
  rintro e wc6 ⟨rfl, hb⟩
  replace hM := hM.ext hb
  clear hb
  go_wp2_with fail
  apply Mem.atA
  · (repeat' (first | with_reducible exact hM | with_reducible exact hMp | with_reducible apply Mem.drew | with_reducible apply Mem.drewN | with_reducible apply Mem.alloc | with_reducible apply Mem.set | with_reducible exact Sto.row | ((with_reducible refine Sto.rowEq2 ?_ ?_); omega; rfl) | ((with_reducible refine Sto.rowEq ?_); omega) | with_reducible apply Sto.int | with_reducible apply Sto.there | with_reducible assumption | (unfold I64; omega) | (with_reducible (have hMx := Mem.undrew hM; exact hMx)) | (with_reducible (have hMx := Mem.undrew hMp; exact hMx))))
  clear hM
  intro wst hM
  (try simp only [World.size_alloc, World.size_setCell, World.heap_drewN, heapDrew, Nat.add_assoc, Nat.reduceAdd, List.setIfInBounds_toArray, List.set_cons_zero, List.set_cons_succ, List.cons_append, List.nil_append] at hM)
  (first | refine (implOpenOrders_any _ _ _ os _ _ _ ss _ (hM.ow (.there (.there (.there (.there (.there .here)))))).rd (hM.ow (.there (.there (.there (.there .here))))).rd).mono ?_)
  rw [HO.out,]
  rw [HV.out]
  rintro e w4 ⟨a7, c7, rfl, hm⟩
  replace hM := hM.join hm
  clear hm
  (try simp only [World.size_alloc, World.size_setCell, World.heap_drewN, heapDrew, Nat.add_assoc, Nat.reduceAdd, List.setIfInBounds_toArray, List.set_cons_zero, List.set_cons_succ, List.cons_append, List.nil_append] at hM)
  go_wp2_with fail
  apply Mem.atA
  · (repeat' (first | with_reducible exact hM | with_reducible exact hMp | with_reducible apply Mem.drew | with_reducible apply Mem.drewN | with_reducible apply Mem.alloc | with_reducible apply Mem.set | with_reducible exact Sto.row | ((with_reducible refine Sto.rowEq2 ?_ ?_); omega; rfl) | ((with_reducible refine Sto.rowEq ?_); omega) | with_reducible apply Sto.int | with_reducible apply Sto.there | with_reducible assumption | (unfold I64; omega) | (with_reducible (have hMx := Mem.undrew hM; exact hMx)) | (with_reducible (have hMx := Mem.undrew hMp; exact hMx))))
  clear hM
  intro wst hM
  (try simp only [World.size_alloc, World.size_setCell, World.heap_drewN, heapDrew, Nat.add_assoc, Nat.reduceAdd, List.setIfInBounds_toArray, List.set_cons_zero, List.set_cons_succ, List.cons_append, List.nil_append] at hM)
  (first | refine (specOpenOrders_any _ _ _ os _ _ _ ss _ (hM.ow (.there (.there (.there (.there (.there (.there .here))))))).rd (hM.ow (.there (.there (.there (.there (.there .here)))))).rd).mono ?_)
  rw [HO.out,]
  rw [HV.out]
  rintro e w5 ⟨a8, c8, rfl, hm⟩
  replace hM := hM.join hm
  clear hm
  (try simp only [World.size_alloc, World.size_setCell, World.heap_drewN, heapDrew, Nat.add_assoc, Nat.reduceAdd, List.setIfInBounds_toArray, List.set_cons_zero, List.set_cons_succ, List.cons_append, List.nil_append] at hM)
  go_wp2_with fail
  apply Mem.atA
  · (repeat' (first | with_reducible exact hM | with_reducible exact hMp | with_reducible apply Mem.drew | with_reducible apply Mem.drewN | with_reducible apply Mem.alloc | with_reducible apply Mem.set | with_reducible exact Sto.row | ((with_reducible refine Sto.rowEq2 ?_ ?_); omega; rfl) | ((with_reducible refine Sto.rowEq ?_); omega) | with_reducible apply Sto.int | with_reducible apply Sto.there | with_reducible assumption | (unfold I64; omega) | (with_reducible (have hMx := Mem.undrew hM; exact hMx)) | (with_reducible (have hMx := Mem.undrew hMp; exact hMx))))
  clear hM
  intro wst hM
  (try simp only [World.size_alloc, World.size_setCell, World.heap_drewN, heapDrew, Nat.add_assoc, Nat.reduceAdd, List.setIfInBounds_toArray, List.set_cons_zero, List.set_cons_succ, List.cons_append, List.nil_append] at hM)
  (first | refine (rOrders_same _ _ _ op _ _ _ _ (hM.ow (.there .here)).rd (hM.ow .here).rd).mono ?_)
  rintro e wc9 ⟨rfl, hb⟩
  replace hM := hM.ext hb
  clear hb
  replace hM := Mem.pick (is := [1, 4, 5, 6, 7]) hM (by decide) rfl
  dsimp only [List.filterMap_cons, List.filterMap_nil, List.getElem?_cons_zero, List.getElem?_cons_succ] at hM
  go_upto_if 102 with fail
  go_cut [] (fun wx => Mem w.heap.size w wx [])
  case first => as_aux_lemma =>
    cases v
    · go_wp2_with fail
      go_meet
      exact hM.sub (by simp)
    have hf := srvF HV.out
    rw [HG.out, HLf.out, HO.out] at hf
    have HF := Lib.hid hf; clear hf
    have hgn := HF.out.gn
    have hln := HF.out.ln
    have hon := HF.out.on
    have hsn := HF.out.sn
    have hpn := HF.out.pn
    have HGN := Lib.hid hgn; have HLN := Lib.hid hln
    clear hgn hln
    have hRo := (hM.ow (.there (.there (.there (.there .here))))).rd
    have hRs := (hM.ow (.there (.there (.there .here)))).rd
    have hRl := (hM.ow (.there (.there .here))).rd
    have hRg := hM.intsR (.there .here)
    have hRp := (hM.ow .here).rd
    have HRo := Lib.hid hRo; have HRs := Lib.hid hRs; have HRl := Lib.hid hRl; have HRg := Lib.hid hRg; have HRp := Lib.hid hRp
    clear hRo hRs hRl hRg hRp
    have SO := Lib.hid (sum_bnd (B := 100) (by omega) HF.out.ob)
    have SS := Lib.hid (sum_bnd (B := 100) (by omega) HF.out.sb)
    have SL := Lib.hid (sum_bnd (B := 100) (by omega) HF.out.lb)
    have SP := Lib.hid (sum_bnd (B := 100) (by omega) HF.out.pb)
    have kS : Hid ((ctS ss).length = ss.length ∧ (ctS lf).length = ss.length ∧ (ctO os).length = os.length ∧ (ctO op).length = op.length) := ⟨by unfold ctS; simp, by unfold ctS; rw [List.length_map, HLN.out], by unfold ctO; simp, by unfold ctO; simp⟩
    go_wp2_with fail
    go_loop [15, 16, 19] (fun s t i => ∃ j : Nat, j ≤ ss.length ∧ i = .int .i64 j ∧ s = .int .i64 ((ctS ss).take j).sum ∧ t = .int .i64 ((ctS lf).take j).sum) (fun _ _ i => ss.length - (intOf i).toNat)
    case atStart => exact ⟨0, Nat.zero_le _, rfl, rfl, rfl⟩
    case round =>
      obtain ⟨j, hj, rfl, rfl, rfl⟩ := hrel
      have h1 := SS.out j
      have h2 := SL.out j
      rw [kS.out.1] at h1
      rw [kS.out.2.1] at h2
      by_cases hlt : j < ss.length
      · have hsx := sum_take_succ (xs := ctS ss) (k := j) (by rw [kS.out.1]; exact hlt)
        have hsy := sum_take_succ (xs := ctS lf) (k := j) (by rw [kS.out.2.1]; exact hlt)
        have bx := HF.out.sb _ (getD_mem (xs := ctS ss) (k := j) (by rw [kS.out.1]; exact hlt))
        have byy := HF.out.lb _ (getD_mem (xs := ctS lf) (k := j) (by rw [kS.out.2.1]; exact hlt))
        rw [ctS_getD] at hsx hsy bx byy
        obtain ⟨b, off, e, -, -⟩ := HRs.out.at' _ hlt
        have hlt2 : j < lf.length := by rw [HLN.out]; exact hlt
        obtain ⟨b2, off2, e2, -, -⟩ := HRl.out.at' _ hlt2
        subst e e2
        have hcx := (HRs.out.cellStock hlt).2.2
        have hcy := (HRl.out.cellStock hlt2).2.2
        generalize (ss.getD j StockI.zero).ct = x at hsx bx hcx
        generalize (lf.getD j StockI.zero).ct = y at hsy byy hcy
        generalize ((ctS ss).take j).sum = s at h1 hsx ⊢
        generalize ((ctS lf).take j).sum = t at h2 hsy ⊢
        have HSX := Lib.hid hsx; have HSY := Lib.hid hsy
        clear hsx hsy
        have i0 : (0 : Int) ≤ (j : Int) := by omega
        have i1 : (j : Int) < (ss.length : Int) := by omega
        have i2 : (j : Int) < (lf.length : Int) := by omega
        have hw1 : IntKind.i64.wrap (s + x) = s + x := wrap_in (by omega)
        have hw2 : IntKind.i64.wrap (t + y) = t + y := wrap_in (by omega)
        go_wp2
        go_round
        case rel => exact ⟨j + 1, by omega, by go_num, by rw [HSX.out], by rw [HSY.out]⟩
        case measure => simp [intOf]; omega
      · obtain rfl : j = ss.length := by omega
        have es : ((ctS ss).take ss.length).sum = (ctS ss).sum := by rw [List.take_of_length_le (by rw [kS.out.1]; exact Nat.le_refl _)]
        have et : ((ctS lf).take ss.length).sum = (ctS lf).sum := by rw [List.take_of_length_le (by rw [kS.out.2.1]; exact Nat.le_refl _)]
        have hE1 := HF.out.e1
        rw [es] at h1 ⊢
        rw [et] at h2 ⊢
        clear es et
        generalize (ctS ss).sum = sA at h1 hE1 ⊢
        generalize (ctS lf).sum = sB at h2 hE1 ⊢
        have HE1 := Lib.hid hE1; clear hE1 hlt hj
        go_wp2_with fail
        clear HRo HRs HRl HRg HRp
        go_loopw [17, 20] (fun t i wr => ∃ j : Nat, j ≤ os.length ∧ i = .int .i64 j ∧ t = .int .i64 ((ctO os).take j).sum ∧ Mem w.heap.size w wr [owE FOrder 48 a7 op.length c7 op, intE a3 gs.length c3 gs, owE FStock 46 a4 lf.length c4 lf, owE FStock 46 a2 ss.length c2 ss, owE FOrder 48 a1 os.length c1 os]) (fun _ i _ => os.length - (intOf i).toNat)
        case atStart => exact ⟨0, Nat.zero_le _, rfl, rfl, hM⟩
        case round =>
          clear hM
          obtain ⟨j, hj, rfl, rfl, hM⟩ := hrel
          have h3 := SO.out j
          rw [kS.out.2.2.1] at h3
          by_cases hlt : j < os.length
          · have hsx := sum_take_succ (xs := ctO os) (k := j) (by rw [kS.out.2.2.1]; exact hlt)
            have bx := HF.out.ob _ (getD_mem (xs := ctO os) (k := j) (by rw [kS.out.2.2.1]; exact hlt))
            have hle := HF.out.le j
            rw [ctO_getD] at hsx bx
            have hlt2 : j < gs.length := by rw [HGN.out]; exact hlt
            obtain ⟨g1, rfl, -⟩ := (hM.ow (.there (.there (.there (.there .here))))).head (by omega)
            obtain ⟨g3, rfl, -⟩ := (hM.ints (.there .here)).head (by omega)
            obtain ⟨v1, hv1⟩ : ∃ x, os.getD j OrderI.zero = x := ⟨_, rfl⟩
            obtain ⟨y, hy⟩ : ∃ y, gs.getD j 0 = y := ⟨_, rfl⟩
            rw [hv1] at hsx bx hle
            rw [hy] at hle
            have HV1 := Lib.hid hv1; have HY := Lib.hid hy
            clear hv1 hy
            obtain ⟨o0, o1, x, o3, o4⟩ := v1
            dsimp only at hsx bx hle
            generalize ((ctO os).take j).sum = s at h3 hsx ⊢
            have HSX := Lib.hid hsx
            clear hsx
            have i0 : (0 : Int) ≤ (j : Int) := by omega
            have i1 : (j : Int) < (os.length : Int) := by omega
            have i2 : (j : Int) < (gs.length : Int) := by omega
            have hw1 : IntKind.i64.wrap (s + x) = s + x := wrap_in (by omega)
            have hn1 : ¬ x < y := by omega
            have hcx := (hM.ow (.there (.there (.there (.there .here))))).cellOrder hlt
            rw [HV1.out] at hcx
            have hc2 := hcx.2.2.1
            clear hcx
            dsimp only at hc2
            go_upto_region 23 with fail
            apply Mem.atWpA
            · (repeat' (first | with_reducible exact hM | with_reducible exact hMp | with_reducible apply Mem.drew | with_reducible apply Mem.drewN | with_reducible apply Mem.alloc | with_reducible apply Mem.set | with_reducible exact Sto.row | ((with_reducible refine Sto.rowEq2 ?_ ?_); omega; rfl) | ((with_reducible refine Sto.rowEq ?_); omega) | with_reducible apply Sto.int | with_reducible apply Sto.there | with_reducible assumption | (unfold I64; omega) | (with_reducible (have hMx := Mem.undrew hM; exact hMx)) | (with_reducible (have hMx := Mem.undrew hMp; exact hMx))))
            clear hM
            intro wst hM
            (try simp only [World.size_alloc, World.size_setCell, World.heap_drewN, heapDrew, Nat.add_assoc, Nat.reduceAdd, List.setIfInBounds_toArray, List.set_cons_zero, List.set_cons_succ, List.cons_append, List.nil_append] at hM)
            clear hc2
            refine AtT.startA hM hM 9 (by kernel_rfl) ?_
            clear hM
            intro wd hM
            have hS := hM
            refine AtT.taked (i := 0) (v := ?_) (some 136) rfl rfl (by kernel_rfl) (by kernel_rfl) (by kernel_rfl) (by kernel_rfl) (fun _ _ _ h => h) (Or.inl ⟨by kernel_rfl, ?_⟩) hS ?_
            rotate_left
            · (intro wS hSw; (try dsimp only at hSw); go_simp; (try rw [if_neg (by omega)]); try with_reducible rfl)
            simp only [Act.put, List.setIfInBounds_toArray, List.set_cons_zero, List.set_cons_succ]
            refine AtT.taked (i := 1) (v := ?_) (some 137) rfl rfl (by kernel_rfl) (by kernel_rfl) (by kernel_rfl) (by kernel_rfl) (fun _ _ _ h => h) (Or.inl ⟨by kernel_rfl, ?_⟩) hS ?_
            rotate_left
            · (intro wS hSw; (try dsimp only at hSw); go_simp; (try rw [if_neg (by omega)]); try with_reducible rfl)
            simp only [Act.put, List.setIfInBounds_toArray, List.set_cons_zero, List.set_cons_succ]
            refine AtT.taked (i := 2) (v := ?_) (some 138) rfl rfl (by kernel_rfl) (by kernel_rfl) (by kernel_rfl) (by kernel_rfl) (fun _ _ _ h => h) (Or.inl ⟨by kernel_rfl, ?_⟩) hS ?_
            rotate_left
            · (intro wS hSw; (try dsimp only at hSw); have q1 := ((hSw.ow (.there (.there (.there (.there .here))))).cellOrder hlt).2.2.1; rw [HV1.out] at q1; have q2 := (hSw.ints (.there .here)).cellAt hlt2; rw [HY.out] at q2; dsimp only at q1; go_simp; (try rw [if_neg (by omega)]); try with_reducible rfl)
            simp only [Act.put, List.setIfInBounds_toArray, List.set_cons_zero, List.set_cons_succ]
            refine AtT.taked (i := 3) (v := ?_) (some 139) rfl rfl (by kernel_rfl) (by kernel_rfl) (by kernel_rfl) (by kernel_rfl) (fun _ _ _ h => h) (Or.inl ⟨by kernel_rfl, ?_⟩) hS ?_
            rotate_left
            · (intro wS hSw; (try dsimp only at hSw); have q1 := ((hSw.ow (.there (.there (.there (.there .here))))).cellOrder hlt).2.2.1; rw [HV1.out] at q1; have q2 := (hSw.ints (.there .here)).cellAt hlt2; rw [HY.out] at q2; dsimp only at q1; go_simp; (try rw [if_neg (by omega)]); try with_reducible rfl)
            simp only [Act.put, List.setIfInBounds_toArray, List.set_cons_zero, List.set_cons_succ]
            refine AtT.taked (i := 4) (v := ?_) (some 140) rfl rfl (by kernel_rfl) (by kernel_rfl) (by kernel_rfl) (by kernel_rfl) (fun _ _ _ h => h) (Or.inl ⟨by kernel_rfl, ?_⟩) hS ?_
            rotate_left
            · (intro wS hSw; (try dsimp only at hSw); go_simp; (try rw [if_neg (by omega)]); try with_reducible rfl)
            simp only [Act.put, List.setIfInBounds_toArray, List.set_cons_zero, List.set_cons_succ]
            refine AtT.taked (i := 5) (v := ?_) (some 141) rfl rfl (by kernel_rfl) (by kernel_rfl) (by kernel_rfl) (by kernel_rfl) (fun _ _ _ h => h) (Or.inl ⟨by kernel_rfl, ?_⟩) hS ?_
            rotate_left
            · (intro wS hSw; (try dsimp only at hSw); go_simp; (try rw [if_neg (by omega)]); try with_reducible rfl)
            simp only [Act.put, List.setIfInBounds_toArray, List.set_cons_zero, List.set_cons_succ]
            refine AtT.taked (i := 6) (v := ?_) (some 142) rfl rfl (by kernel_rfl) (by kernel_rfl) (by kernel_rfl) (by kernel_rfl) (fun _ _ _ h => h) (Or.inl ⟨by kernel_rfl, ?_⟩) hS ?_
            rotate_left
            · (intro wS hSw; (try dsimp only at hSw); have q1 := ((hSw.ow (.there (.there (.there (.there .here))))).cellOrder hlt).2.2.1; rw [HV1.out] at q1; have q2 := (hSw.ints (.there .here)).cellAt hlt2; rw [HY.out] at q2; dsimp only at q1; go_simp; (try rw [if_neg (by omega)]); try with_reducible rfl)
            simp only [Act.put, List.setIfInBounds_toArray, List.set_cons_zero, List.set_cons_succ]
            refine AtT.taked (i := 7) (v := ?_) (some 143) rfl rfl (by kernel_rfl) (by kernel_rfl) (by kernel_rfl) (by kernel_rfl) (fun _ _ _ h => h) (Or.inl ⟨by kernel_rfl, ?_⟩) hS ?_
            rotate_left
            · (intro wS hSw; (try dsimp only at hSw); go_simp; (try rw [if_neg (by omega)]); try with_reducible rfl)
            simp only [Act.put, List.setIfInBounds_toArray, List.set_cons_zero, List.set_cons_succ]
            refine AtT.taked (i := 8) (v := ?_) (some 144) rfl rfl (by kernel_rfl) (by kernel_rfl) (by kernel_rfl) (by kernel_rfl) (fun _ _ _ h => h) (Or.inl ⟨by kernel_rfl, ?_⟩) hS ?_
            rotate_left
            · (intro wS hSw; (try dsimp only at hSw); have q1 := ((hSw.ow (.there (.there (.there (.there .here))))).cellOrder hlt).2.2.1; rw [HV1.out] at q1; have q2 := (hSw.ints (.there .here)).cellAt hlt2; rw [HY.out] at q2; dsimp only at q1; go_simp; (try rw [if_neg (by omega)]); try with_reducible rfl)
            simp only [Act.put, List.setIfInBounds_toArray, List.set_cons_zero, List.set_cons_succ]
            refine AtT.last (by kernel_rfl) rfl (by kernel_rfl) ?_
            intro K hK
            clear hS
            go_simp
            refine hK.out _ _ ?_
            clear hK K
            go_wp2
            go_roundw
            case rel => exact ⟨j + 1, by omega, by go_num, by rw [HSX.out], hM⟩
            case measure => simp [intOf]; omega
          · obtain rfl : j = os.length := by omega
            have es : ((ctO os).take os.length).sum = (ctO os).sum := by rw [List.take_of_length_le (by rw [kS.out.2.2.1]; exact Nat.le_refl _)]
            have hE2 := HF.out.e2
            rw [es] at h3 ⊢
            clear es
            generalize (ctO os).sum = sC at h3 hE2 ⊢
            have HE2 := Lib.hid hE2; clear hE2 hlt hj
            go_wp2_with fail
            go_loopw [18, 21] (fun t i wr => ∃ j : Nat, j ≤ op.length ∧ i = .int .i64 j ∧ t = .int .i64 ((ctO op).take j).sum ∧ Mem w.heap.size w wr [owE FOrder 48 a7 op.length c7 op, intE a3 gs.length c3 gs, owE FStock 46 a4 lf.length c4 lf, owE FStock 46 a2 ss.length c2 ss, owE FOrder 48 a1 os.length c1 os]) (fun _ i _ => op.length - (intOf i).toNat)
            case atStart => exact ⟨0, Nat.zero_le _, rfl, rfl, hM⟩
            case round =>
              clear hM
              obtain ⟨j, hj, rfl, rfl, hM⟩ := hrel
              have h4 := SP.out j
              rw [kS.out.2.2.2] at h4
              by_cases hlt : j < op.length
              · have hsx := sum_take_succ (xs := ctO op) (k := j) (by rw [kS.out.2.2.2]; exact hlt)
                have bx := HF.out.pb _ (getD_mem (xs := ctO op) (k := j) (by rw [kS.out.2.2.2]; exact hlt))
                rw [ctO_getD] at hsx bx
                obtain ⟨g1, rfl, -⟩ := (hM.ow .here).head (by omega)
                have hc2 := ((hM.ow .here).cellOrder hlt).2.2.1
                generalize (op.getD j OrderI.zero).ct = x at hsx bx hc2
                generalize ((ctO op).take j).sum = s at h4 hsx ⊢
                have HSX := Lib.hid hsx
                clear hsx
                have i0 : (0 : Int) ≤ (j : Int) := by omega
                have i1 : (j : Int) < (op.length : Int) := by omega
                have hw1 : IntKind.i64.wrap (s + x) = s + x := wrap_in (by omega)
                go_wp2
                go_roundw
                case rel => exact ⟨j + 1, by omega, by go_num, by rw [HSX.out], hM⟩
                case measure => simp [intOf]; omega
              · obtain rfl : j = op.length := by omega
                have es : ((ctO op).take op.length).sum = (ctO op).sum := by rw [List.take_of_length_le (by rw [kS.out.2.2.2]; exact Nat.le_refl _)]
                rw [es] at h4 ⊢
                clear es hlt hj
                have hE1 := HE1.out
                have hE2 := HE2.out
                have HMF := Lib.hid (missF (os := os) (ss := ss))
                rw [HO.out] at HMF
                generalize (ctO op).sum = sD at h4 hE2 HMF ⊢
                generalize hgm : gs.sum = sG at hE1 hE2
                have HGM := Lib.hid hgm; clear hgm
                have hw1 : IntKind.i64.wrap (sA - sB) = sG := by rw [wrap_in (by omega)]; exact hE1
                have hw2 : IntKind.i64.wrap (sC - sD) = sG := by rw [wrap_in (by omega)]; exact hE2
                have hgg : (sG != sG) = false := by simp
                clear hE1 hE2
                go_wp2_with fail
                apply Mem.atA
                · (repeat' (first | with_reducible exact hM | with_reducible exact hMp | with_reducible apply Mem.drew | with_reducible apply Mem.drewN | with_reducible apply Mem.alloc | with_reducible apply Mem.set | with_reducible exact Sto.row | ((with_reducible refine Sto.rowEq2 ?_ ?_); omega; rfl) | ((with_reducible refine Sto.rowEq ?_); omega) | with_reducible apply Sto.int | with_reducible apply Sto.there | with_reducible assumption | (unfold I64; omega) | (with_reducible (have hMx := Mem.undrew hM; exact hMx)) | (with_reducible (have hMx := Mem.undrew hMp; exact hMx))))
                clear hM
                intro wst hM
                (try simp only [World.size_alloc, World.size_setCell, World.heap_drewN, heapDrew, Nat.add_assoc, Nat.reduceAdd, List.setIfInBounds_toArray, List.set_cons_zero, List.set_cons_succ, List.cons_append, List.nil_append] at hM)
                (first | refine (rSum_any _ _ _ gs _ (hM.intsR (.there .here)) (by rw [HGN.out]; omega) HF.out.gb).mono ?_)
                rw [HGM.out]
                rintro e wc10 ⟨rfl, rfl⟩
                go_wp2_with fail
                apply Mem.atA
                · (repeat' (first | with_reducible exact hM | with_reducible exact hMp | with_reducible apply Mem.drew | with_reducible apply Mem.drewN | with_reducible apply Mem.alloc | with_reducible apply Mem.set | with_reducible exact Sto.row | ((with_reducible refine Sto.rowEq2 ?_ ?_); omega; rfl) | ((with_reducible refine Sto.rowEq ?_); omega) | with_reducible apply Sto.int | with_reducible apply Sto.there | with_reducible assumption | (unfold I64; omega) | (with_reducible (have hMx := Mem.undrew hM; exact hMx)) | (with_reducible (have hMx := Mem.undrew hMp; exact hMx))))
                clear hM
                intro wst hM
                (try simp only [World.size_alloc, World.size_setCell, World.heap_drewN, heapDrew, Nat.add_assoc, Nat.reduceAdd, List.setIfInBounds_toArray, List.set_cons_zero, List.set_cons_succ, List.cons_append, List.nil_append] at hM)
                (first | refine (rSum_any _ _ _ gs _ (hM.intsR (.there .here)) (by rw [HGN.out]; omega) HF.out.gb).mono ?_)
                rw [HGM.out]
                rintro e wc11 ⟨rfl, rfl⟩
                go_wp2_with fail
                apply Mem.atA
                · (repeat' (first | with_reducible exact hM | with_reducible exact hMp | with_reducible apply Mem.drew | with_reducible apply Mem.drewN | with_reducible apply Mem.alloc | with_reducible apply Mem.set | with_reducible exact Sto.row | ((with_reducible refine Sto.rowEq2 ?_ ?_); omega; rfl) | ((with_reducible refine Sto.rowEq ?_); omega) | with_reducible apply Sto.int | with_reducible apply Sto.there | with_reducible assumption | (unfold I64; omega) | (with_reducible (have hMx := Mem.undrew hM; exact hMx)) | (with_reducible (have hMx := Mem.undrew hMp; exact hMx))))
                clear hM
                intro wst hM
                (try simp only [World.size_alloc, World.size_setCell, World.heap_drewN, heapDrew, Nat.add_assoc, Nat.reduceAdd, List.setIfInBounds_toArray, List.set_cons_zero, List.set_cons_succ, List.cons_append, List.nil_append] at hM)
                (first | refine (isStore_any _ _ _ lf _ (hM.ow (.there (.there .here))).rd).mono ?_)
                rw [HF.out.b1]
                rintro e wc12 ⟨rfl, hb⟩
                replace hM := hM.ext hb
                clear hb
                go_wp2_with fail
                apply Mem.atA
                · (repeat' (first | with_reducible exact hM | with_reducible exact hMp | with_reducible apply Mem.drew | with_reducible apply Mem.drewN | with_reducible apply Mem.alloc | with_reducible apply Mem.set | with_reducible exact Sto.row | ((with_reducible refine Sto.rowEq2 ?_ ?_); omega; rfl) | ((with_reducible refine Sto.rowEq ?_); omega) | with_reducible apply Sto.int | with_reducible apply Sto.there | with_reducible assumption | (unfold I64; omega) | (with_reducible (have hMx := Mem.undrew hM; exact hMx)) | (with_reducible (have hMx := Mem.undrew hMp; exact hMx))))
                clear hM
                intro wst hM
                (try simp only [World.size_alloc, World.size_setCell, World.heap_drewN, heapDrew, Nat.add_assoc, Nat.reduceAdd, List.setIfInBounds_toArray, List.set_cons_zero, List.set_cons_succ, List.cons_append, List.nil_append] at hM)
                (first | refine (isStore_any _ _ _ ss _ (hM.ow (.there (.there (.there .here)))).rd).mono ?_)
                rw [HF.out.b2]
                rintro e wc13 ⟨rfl, hb⟩
                replace hM := hM.ext hb
                clear hb
                obtain ⟨ms, hms⟩ : ∃ r, missR os ss = r := ⟨_, rfl⟩
                obtain ⟨mb, hmb⟩ : ∃ r, missB os ss = r := ⟨_, rfl⟩
                have hmf := HMF.out
                rw [hms, hmb] at hmf
                have HMS := Lib.hid hms; have HMB := Lib.hid hmb
                have HMT := Lib.hid hmf
                clear hms hmb hmf HMF HGM hgg hw1 hw2
                go_wp2_with fail
                apply Mem.atA
                · (repeat' (first | with_reducible exact hM | with_reducible exact hMp | with_reducible apply Mem.drew | with_reducible apply Mem.drewN | with_reducible apply Mem.alloc | with_reducible apply Mem.set | with_reducible exact Sto.row | ((with_reducible refine Sto.rowEq2 ?_ ?_); omega; rfl) | ((with_reducible refine Sto.rowEq ?_); omega) | with_reducible apply Sto.int | with_reducible apply Sto.there | with_reducible assumption | (unfold I64; omega) | (with_reducible (have hMx := Mem.undrew hM; exact hMx)) | (with_reducible (have hMx := Mem.undrew hMp; exact hMx))))
                clear hM
                intro wst hM
                (try simp only [World.size_alloc, World.size_setCell, World.heap_drewN, heapDrew, Nat.add_assoc, Nat.reduceAdd, List.setIfInBounds_toArray, List.set_cons_zero, List.set_cons_succ, List.cons_append, List.nil_append] at hM)
                (first | refine (implMissing_any _ _ _ os _ _ _ ss _ (hM.ow (.there (.there (.there (.there .here))))).rd (hM.ow (.there (.there (.there .here)))).rd).mono ?_)
                rw [HMS.out,]
                rw [HMB.out]
                rintro e w9 ⟨a9, c9, rfl, hm⟩
                replace hM := hM.join hm
                clear hm
                (try simp only [World.size_alloc, World.size_setCell, World.heap_drewN, heapDrew, Nat.add_assoc, Nat.reduceAdd, List.setIfInBounds_toArray, List.set_cons_zero, List.set_cons_succ, List.cons_append, List.nil_append] at hM)
                replace hM := Mem.pick (is := [0]) hM (by decide) rfl
                dsimp only [List.filterMap_cons, List.filterMap_nil, List.getElem?_cons_zero, List.getElem?_cons_succ] at hM
                have SM := Lib.hid (sum_bnd (B := 100) (by omega) HMT.out.2.2)
                have hml := HMT.out.2.1
                have kM : Hid ((ctS ms).length = ms.length) := by unfold ctS; exact Lib.hid (by simp)
                go_wp2_with fail
                go_loopw [24, 25] (fun t i wr => ∃ j : Nat, j ≤ ms.length ∧ i = .int .i64 j ∧ t = .int .i64 ((ctS ms).take j).sum ∧ Mem w.heap.size w wr [owE FStock 46 a9 ms.length c9 ms]) (fun _ i _ => ms.length - (intOf i).toNat)
                case atStart => exact ⟨0, Nat.zero_le _, rfl, rfl, hM⟩
                case round =>
                  clear hM
                  obtain ⟨j, hj, rfl, rfl, hM⟩ := hrel
                  have h4 := SM.out j
                  rw [kM.out] at h4
                  by_cases hlt : j < ms.length
                  · have hsx := sum_take_succ (xs := ctS ms) (k := j) (by rw [kM.out]; exact hlt)
                    have bx := HMT.out.2.2 _ (getD_mem (xs := ctS ms) (k := j) (by rw [kM.out]; exact hlt))
                    rw [ctS_getD] at hsx bx
                    obtain ⟨g1, rfl, -⟩ := (hM.ow .here).head (by omega)
                    have hc2 := ((hM.ow .here).cellStock hlt).2
                    generalize (ms.getD j StockI.zero).ct = x at hsx bx hc2
                    generalize ((ctS ms).take j).sum = s at h4 hsx ⊢
                    have HSX := Lib.hid hsx
                    clear hsx
                    have i0 : (0 : Int) ≤ (j : Int) := by omega
                    have i1 : (j : Int) < (ms.length : Int) := by omega
                    have hw1 : IntKind.i64.wrap (s + x) = s + x := wrap_in (by omega)
                    go_wp2
                    go_roundw
                    case rel => exact ⟨j + 1, by omega, by go_num, by rw [HSX.out], hM⟩
                    case measure => simp [intOf]; omega
                  · obtain rfl : j = ms.length := by omega
                    have es : ((ctS ms).take ms.length).sum = (ctS ms).sum := by rw [List.take_of_length_le (by rw [kM.out]; exact Nat.le_refl _)]
                    rw [es]
                    clear es hlt hj
                    cases mb
                    · go_wp2_with fail
                      go_meet
                      exact hM.tail
                    · have he := HMT.out.1 rfl
                      rw [he]
                      have hgg : (sD != sD) = false := by simp
                      go_wp2_with fail
                      go_meet
                      exact hM.tail
  case rest => as_aux_lemma =>
    clear hM HG HLf HO HV hbb1
    have hM := hcut
    clear hcut
    go_wp2_with fail
    apply Mem.atA
    · (repeat' (first | with_reducible exact hM | with_reducible exact hMp | with_reducible apply Mem.drew | with_reducible apply Mem.drewN | with_reducible apply Mem.alloc | with_reducible apply Mem.set | with_reducible exact Sto.row | ((with_reducible refine Sto.rowEq2 ?_ ?_); omega; rfl) | ((with_reducible refine Sto.rowEq ?_); omega) | with_reducible apply Sto.int | with_reducible apply Sto.there | with_reducible assumption | (unfold I64; omega) | (with_reducible (have hMx := Mem.undrew hM; exact hMx)) | (with_reducible (have hMx := Mem.undrew hMp; exact hMx))))
    clear hM
    intro wst hM
    (try simp only [World.size_alloc, World.size_setCell, World.heap_drewN, heapDrew, Nat.add_assoc, Nat.reduceAdd, List.setIfInBounds_toArray, List.set_cons_zero, List.set_cons_succ, List.cons_append, List.nil_append] at hM)
    (first | refine (drawServingO_any (HC.out.ext hM.below)).mono ?_)
    rintro e w11 ⟨b1, d1, xs, hl3, hx3, rfl, hm⟩
    replace hM := hM.join hm
    clear hm
    (try simp only [World.size_alloc, World.size_setCell, World.heap_drewN, heapDrew, Nat.add_assoc, Nat.reduceAdd, List.setIfInBounds_toArray, List.set_cons_zero, List.set_cons_succ, List.cons_append, List.nil_append] at hM)
    clear hx3
    obtain ⟨sv, hsv⟩ : ∃ r, servingR xs = r := ⟨_, rfl⟩
    obtain ⟨u, hu⟩ : ∃ r, ordersB xs = r := ⟨_, rfl⟩
    have HSV := Lib.hid hsv; have HU := Lib.hid hu
    clear hsv hu
    have hbb2 : (u != u) = false := by cases u <;> rfl
    go_wp2_with fail
    apply Mem.atA
    · (repeat' (first | with_reducible exact hM | with_reducible exact hMp | with_reducible apply Mem.drew | with_reducible apply Mem.drewN | with_reducible apply Mem.alloc | with_reducible apply Mem.set | with_reducible exact Sto.row | ((with_reducible refine Sto.rowEq2 ?_ ?_); omega; rfl) | ((with_reducible refine Sto.rowEq ?_); omega) | with_reducible apply Sto.int | with_reducible apply Sto.there | with_reducible assumption | (unfold I64; omega) | (with_reducible (have hMx := Mem.undrew hM; exact hMx)) | (with_reducible (have hMx := Mem.undrew hMp; exact hMx))))
    clear hM
    intro wst hM
    (try simp only [World.size_alloc, World.size_setCell, World.heap_drewN, heapDrew, Nat.add_assoc, Nat.reduceAdd, List.setIfInBounds_toArray, List.set_cons_zero, List.set_cons_succ, List.cons_append, List.nil_append] at hM)
    (first | refine (implServingO_any _ _ _ xs _ (hM.ow .here).rd).mono ?_)
    rw [HSV.out,]
    rw [HU.out]
    rintro e w12 ⟨b2, d2, rfl, hm⟩
    replace hM := hM.join hm
    clear hm
    (try simp only [World.size_alloc, World.size_setCell, World.heap_drewN, heapDrew, Nat.add_assoc, Nat.reduceAdd, List.setIfInBounds_toArray, List.set_cons_zero, List.set_cons_succ, List.cons_append, List.nil_append] at hM)
    go_wp2_with fail
    apply Mem.atA
    · (repeat' (first | with_reducible exact hM | with_reducible exact hMp | with_reducible apply Mem.drew | with_reducible apply Mem.drewN | with_reducible apply Mem.alloc | with_reducible apply Mem.set | with_reducible exact Sto.row | ((with_reducible refine Sto.rowEq2 ?_ ?_); omega; rfl) | ((with_reducible refine Sto.rowEq ?_); omega) | with_reducible apply Sto.int | with_reducible apply Sto.there | with_reducible assumption | (unfold I64; omega) | (with_reducible (have hMx := Mem.undrew hM; exact hMx)) | (with_reducible (have hMx := Mem.undrew hMp; exact hMx))))
    clear hM
    intro wst hM
    (try simp only [World.size_alloc, World.size_setCell, World.heap_drewN, heapDrew, Nat.add_assoc, Nat.reduceAdd, List.setIfInBounds_toArray, List.set_cons_zero, List.set_cons_succ, List.cons_append, List.nil_append] at hM)
    (first | refine (specServingO_any _ _ _ xs _ (hM.ow (.there .here)).rd).mono ?_)
    rw [HSV.out,]
    rw [HU.out]
    rintro e w13 ⟨b3, d3, rfl, hm⟩
    replace hM := hM.join hm
    clear hm
    (try simp only [World.size_alloc, World.size_setCell, World.heap_drewN, heapDrew, Nat.add_assoc, Nat.reduceAdd, List.setIfInBounds_toArray, List.set_cons_zero, List.set_cons_succ, List.cons_append, List.nil_append] at hM)
    go_wp2_with fail
    apply Mem.atA
    · (repeat' (first | with_reducible exact hM | with_reducible exact hMp | with_reducible apply Mem.drew | with_reducible apply Mem.drewN | with_reducible apply Mem.alloc | with_reducible apply Mem.set | with_reducible exact Sto.row | ((with_reducible refine Sto.rowEq2 ?_ ?_); omega; rfl) | ((with_reducible refine Sto.rowEq ?_); omega) | with_reducible apply Sto.int | with_reducible apply Sto.there | with_reducible assumption | (unfold I64; omega) | (with_reducible (have hMx := Mem.undrew hM; exact hMx)) | (with_reducible (have hMx := Mem.undrew hMp; exact hMx))))
    clear hM
    intro wst hM
    (try simp only [World.size_alloc, World.size_setCell, World.heap_drewN, heapDrew, Nat.add_assoc, Nat.reduceAdd, List.setIfInBounds_toArray, List.set_cons_zero, List.set_cons_succ, List.cons_append, List.nil_append] at hM)
    (first | refine (rInts_same _ _ _ sv _ _ _ _ (hM.intsR (.there .here)) (hM.intsR .here)).mono ?_)
    rintro e wc18 ⟨rfl, hb⟩
    replace hM := hM.ext hb
    clear hb
    cases u
    · have hsv0 := servingR_no HU.out
      rw [HSV.out] at hsv0
      subst hsv0
      go_wp2_with fail
      go_loopw [31, 32] (fun s t wr => s = .int .i64 5 ∧ t = .int .i64 0 ∧ Mem w.heap.size w wr []) (fun _ _ _ => 0)
      case atStart => exact ⟨rfl, rfl, hM.sub (by simp)⟩
      case round =>
        clear hM
        obtain ⟨rfl, rfl, hM⟩ := hrel
        replace hM := hM.sub (G' := []) (by simp)
        go_wp2_with fail
        apply Mem.atA
        · (repeat' (first | with_reducible exact hM | with_reducible exact hMp | with_reducible apply Mem.drew | with_reducible apply Mem.drewN | with_reducible apply Mem.alloc | with_reducible apply Mem.set | with_reducible exact Sto.row | ((with_reducible refine Sto.rowEq2 ?_ ?_); omega; rfl) | ((with_reducible refine Sto.rowEq ?_); omega) | with_reducible apply Sto.int | with_reducible apply Sto.there | with_reducible assumption | (unfold I64; omega) | (with_reducible (have hMx := Mem.undrew hM; exact hMx)) | (with_reducible (have hMx := Mem.undrew hMp; exact hMx))))
        clear hM
        intro wst hM
        (try simp only [World.size_alloc, World.size_setCell, World.heap_drewN, heapDrew, Nat.add_assoc, Nat.reduceAdd, List.setIfInBounds_toArray, List.set_cons_zero, List.set_cons_succ, List.cons_append, List.nil_append] at hM)
        (first | refine (drawMissing_any (HC.out.ext hM.below)).mono ?_)
        rintro e w14 ⟨b4, d4, ys, b5, d5, zs, hl5, hx5, hl6, hy6, rfl, hm⟩
        replace hM := hM.join hm
        clear hm
        (try simp only [World.size_alloc, World.size_setCell, World.heap_drewN, heapDrew, Nat.add_assoc, Nat.reduceAdd, List.setIfInBounds_toArray, List.set_cons_zero, List.set_cons_succ, List.cons_append, List.nil_append] at hM)
        clear hx5 hy6
        obtain ⟨ms, hms⟩ : ∃ r, missR ys zs = r := ⟨_, rfl⟩
        obtain ⟨mb, hmb⟩ : ∃ r, missB ys zs = r := ⟨_, rfl⟩
        have HMS := Lib.hid hms; have HMB := Lib.hid hmb
        clear hms hmb
        have hbq : (mb == mb) = true := by cases mb <;> rfl
        go_wp2_with fail
        apply Mem.atA
        · (repeat' (first | with_reducible exact hM | with_reducible exact hMp | with_reducible apply Mem.drew | with_reducible apply Mem.drewN | with_reducible apply Mem.alloc | with_reducible apply Mem.set | with_reducible exact Sto.row | ((with_reducible refine Sto.rowEq2 ?_ ?_); omega; rfl) | ((with_reducible refine Sto.rowEq ?_); omega) | with_reducible apply Sto.int | with_reducible apply Sto.there | with_reducible assumption | (unfold I64; omega) | (with_reducible (have hMx := Mem.undrew hM; exact hMx)) | (with_reducible (have hMx := Mem.undrew hMp; exact hMx))))
        clear hM
        intro wst hM
        (try simp only [World.size_alloc, World.size_setCell, World.heap_drewN, heapDrew, Nat.add_assoc, Nat.reduceAdd, List.setIfInBounds_toArray, List.set_cons_zero, List.set_cons_succ, List.cons_append, List.nil_append] at hM)
        (first | refine (implMissing_any _ _ _ ys _ _ _ zs _ (hM.ow (.there .here)).rd (hM.ow .here).rd).mono ?_)
        rw [HMS.out,]
        rw [HMB.out]
        rintro e w15 ⟨b6, d6, rfl, hm⟩
        replace hM := hM.join hm
        clear hm
        (try simp only [World.size_alloc, World.size_setCell, World.heap_drewN, heapDrew, Nat.add_assoc, Nat.reduceAdd, List.setIfInBounds_toArray, List.set_cons_zero, List.set_cons_succ, List.cons_append, List.nil_append] at hM)
        go_wp2_with fail
        apply Mem.atA
        · (repeat' (first | with_reducible exact hM | with_reducible exact hMp | with_reducible apply Mem.drew | with_reducible apply Mem.drewN | with_reducible apply Mem.alloc | with_reducible apply Mem.set | with_reducible exact Sto.row | ((with_reducible refine Sto.rowEq2 ?_ ?_); omega; rfl) | ((with_reducible refine Sto.rowEq ?_); omega) | with_reducible apply Sto.int | with_reducible apply Sto.there | with_reducible assumption | (unfold I64; omega) | (with_reducible (have hMx := Mem.undrew hM; exact hMx)) | (with_reducible (have hMx := Mem.undrew hMp; exact hMx))))
        clear hM
        intro wst hM
        (try simp only [World.size_alloc, World.size_setCell, World.heap_drewN, heapDrew, Nat.add_assoc, Nat.reduceAdd, List.setIfInBounds_toArray, List.set_cons_zero, List.set_cons_succ, List.cons_append, List.nil_append] at hM)
        (first | refine (specMissing_any _ _ _ ys _ _ _ zs _ (hM.ow (.there (.there .here))).rd (hM.ow (.there .here)).rd).mono ?_)
        rw [HMS.out,]
        rw [HMB.out]
        rintro e w16 ⟨b7, d7, rfl, hm⟩
        replace hM := hM.join hm
        clear hm
        (try simp only [World.size_alloc, World.size_setCell, World.heap_drewN, heapDrew, Nat.add_assoc, Nat.reduceAdd, List.setIfInBounds_toArray, List.set_cons_zero, List.set_cons_succ, List.cons_append, List.nil_append] at hM)
        go_wp2_with fail
        apply Mem.atA
        · (repeat' (first | with_reducible exact hM | with_reducible exact hMp | with_reducible apply Mem.drew | with_reducible apply Mem.drewN | with_reducible apply Mem.alloc | with_reducible apply Mem.set | with_reducible exact Sto.row | ((with_reducible refine Sto.rowEq2 ?_ ?_); omega; rfl) | ((with_reducible refine Sto.rowEq ?_); omega) | with_reducible apply Sto.int | with_reducible apply Sto.there | with_reducible assumption | (unfold I64; omega) | (with_reducible (have hMx := Mem.undrew hM; exact hMx)) | (with_reducible (have hMx := Mem.undrew hMp; exact hMx))))
        clear hM
        intro wst hM
        (try simp only [World.size_alloc, World.size_setCell, World.heap_drewN, heapDrew, Nat.add_assoc, Nat.reduceAdd, List.setIfInBounds_toArray, List.set_cons_zero, List.set_cons_succ, List.cons_append, List.nil_append] at hM)
        (first | refine (rStocks_same _ _ _ ms _ _ _ _ (hM.ow (.there .here)).rd (hM.ow .here).rd).mono ?_)
        rintro e wc22 ⟨rfl, hb⟩
        replace hM := hM.ext hb
        clear hb
        go_wp2
        go_ret
        exact ⟨rfl, (by apply Mem.below; (repeat' (first | with_reducible exact hM | with_reducible exact hMp | with_reducible apply Mem.drew | with_reducible apply Mem.drewN | with_reducible apply Mem.alloc | with_reducible apply Mem.set | with_reducible exact Sto.row | ((with_reducible refine Sto.rowEq2 ?_ ?_); omega; rfl) | ((with_reducible refine Sto.rowEq ?_); omega) | with_reducible apply Sto.int | with_reducible apply Sto.there | with_reducible assumption | (unfold I64; omega) | (with_reducible (have hMx := Mem.undrew hM; exact hMx)) | (with_reducible (have hMx := Mem.undrew hMp; exact hMx)))))⟩
    · have hsl := servingR_len HU.out
      rw [HSV.out] at hsl
      have hno : ((sv.length : Int) != (xs.length : Int)) = false := by rw [hsl]; simp
      have hxl : xs.length ≤ 10 := ord_len HU.out
      have HSL := Lib.hid hsl
      clear hsl
      go_wp2_with fail
      go_loopw [31, 32] (fun s t wr => ∃ i : Nat, i ≤ sv.length ∧ t = .int .i64 i ∧ s = .int .i64 (lastU xs i) ∧ Mem w.heap.size w wr [intE b3 sv.length d3 sv, intE b2 sv.length d2 sv, owE FOrder 48 b1 xs.length d1 xs]) (fun _ t _ => sv.length - (intOf t).toNat)
      case atStart => exact ⟨0, Nat.zero_le _, rfl, rfl, hM⟩
      case round =>
        clear hM
        obtain ⟨i, hi, rfl, rfl, hM⟩ := hrel
        by_cases hlt : i < sv.length
        · have hil : i < xs.length := by rw [← HSL.out]; exact hlt
          obtain ⟨q, hqn, hid, hne, hur, hul⟩ := urg_facts HU.out hil
          rw [HSV.out] at hid
          have hb5 := lastU_b HU.out (i := i) (by omega)
          have hb6 := lastU_b HU.out (i := i + 1) (by omega)
          obtain ⟨g2, rfl, -⟩ := (hM.ints (.there .here)).head (by omega)
          obtain ⟨g1, rfl, -⟩ := (hM.ow (.there (.there .here))).head (by omega)
          obtain ⟨L, hL⟩ : ∃ L, lastU xs i = L := ⟨_, rfl⟩
          obtain ⟨L2, hL2⟩ : ∃ L, lastU xs (i + 1) = L := ⟨_, rfl⟩
          rw [hL] at hul hb5 ⊢
          rw [hL2] at hul hb6 hur
          have HL2 := Lib.hid hL2
          obtain ⟨z, hz⟩ : ∃ z, (xs.getD q OrderI.zero).id = z := ⟨_, rfl⟩
          rw [hz] at hid hne
          have HID := Lib.hid hid; have HNE := Lib.hid hne; have HUR := Lib.hid hur; have HZ := Lib.hid hz
          clear hid hne hur hz hL hL2
          have i0 : (0 : Int) ≤ (i : Int) := by omega
          have i1 : (i : Int) < (sv.length : Int) := by omega
          go_wp2_with fail
          go_loopw [31, 33] (fun s t wr => ∃ k : Nat, k ≤ xs.length ∧ t = .int .i64 k ∧ s = .int .i64 (if k ≤ q then L else L2) ∧ Mem w.heap.size w wr [intE b3 sv.length d3 sv, intE (some ⟨g2, 0, none⟩) sv.length d2 sv, owE FOrder 48 (some ⟨g1, 0, none⟩) xs.length d1 xs]) (fun _ t _ => xs.length - (intOf t).toNat)
          case atStart => exact ⟨0, Nat.zero_le _, rfl, by rw [if_pos (Nat.zero_le _)], hM⟩
          case round =>
            clear hM
            obtain ⟨k, hk, rfl, rfl, hM⟩ := hrel
            by_cases hlk : k < xs.length
            · have j0 : (0 : Int) ≤ (k : Int) := by omega
              have j1 : (k : Int) < (xs.length : Int) := by omega
              by_cases hkq : k = q
              · subst hkq
                have e1 : (if k ≤ k then L else L2) = L := if_pos (Nat.le_refl _)
                have e2 : (if k + 1 ≤ k then L else L2) = L2 := if_neg (by omega)
                rw [e1]
                have HE2 := Lib.hid e2
                clear e1 e2
                have hzz : (z == z) = true := by simp
                have hn1 : ¬ L < L2 := by omega
                go_upto_region 51 with fail
                apply Mem.atWpA
                · (repeat' (first | with_reducible exact hM | with_reducible exact hMp | with_reducible apply Mem.drew | with_reducible apply Mem.drewN | with_reducible apply Mem.alloc | with_reducible apply Mem.set | with_reducible exact Sto.row | ((with_reducible refine Sto.rowEq2 ?_ ?_); omega; rfl) | ((with_reducible refine Sto.rowEq ?_); omega) | with_reducible apply Sto.int | with_reducible apply Sto.there | with_reducible assumption | (unfold I64; omega) | (with_reducible (have hMx := Mem.undrew hM; exact hMx)) | (with_reducible (have hMx := Mem.undrew hMp; exact hMx))))
                clear hM
                intro wst hM
                (try simp only [World.size_alloc, World.size_setCell, World.heap_drewN, heapDrew, Nat.add_assoc, Nat.reduceAdd, List.setIfInBounds_toArray, List.set_cons_zero, List.set_cons_succ, List.cons_append, List.nil_append] at hM)
                refine AtT.startA hM hM 9 (by kernel_rfl) ?_
                clear hM
                intro wd hM
                have hS := hM
                refine AtT.taked (i := 0) (v := ?_) (some 251) rfl rfl (by kernel_rfl) (by kernel_rfl) (by kernel_rfl) (by kernel_rfl) (fun _ _ _ h => h) (Or.inl ⟨by kernel_rfl, ?_⟩) hS ?_
                rotate_left
                · (intro wS hSw; (try dsimp only at hSw); go_simp; (try rw [if_neg (by omega)]); try with_reducible rfl)
                simp only [Act.put, List.setIfInBounds_toArray, List.set_cons_zero, List.set_cons_succ]
                refine AtT.taked (i := 1) (v := ?_) (some 252) rfl rfl (by kernel_rfl) (by kernel_rfl) (by kernel_rfl) (by kernel_rfl) (fun _ _ _ h => h) (Or.inl ⟨by kernel_rfl, ?_⟩) hS ?_
                rotate_left
                · (intro wS hSw; (try dsimp only at hSw); go_simp; (try rw [if_neg (by omega)]); try with_reducible rfl)
                simp only [Act.put, List.setIfInBounds_toArray, List.set_cons_zero, List.set_cons_succ]
                refine AtT.taked (i := 2) (v := ?_) (some 253) rfl rfl (by kernel_rfl) (by kernel_rfl) (by kernel_rfl) (by kernel_rfl) (fun _ _ _ h => h) (Or.inl ⟨by kernel_rfl, ?_⟩) hS ?_
                rotate_left
                · (intro wS hSw; (try dsimp only at hSw); have q1 := ((hSw.ow (.there (.there .here))).cellOrder hlk).1; rw [HZ.out] at q1; have q2 := (hSw.ints (.there .here)).cellAt hlt; rw [HID.out] at q2; go_simp; (try rw [if_neg (by omega)]); try with_reducible rfl)
                simp only [Act.put, List.setIfInBounds_toArray, List.set_cons_zero, List.set_cons_succ]
                refine AtT.taked (i := 3) (v := ?_) (some 254) rfl rfl (by kernel_rfl) (by kernel_rfl) (by kernel_rfl) (by kernel_rfl) (fun _ _ _ h => h) (Or.inl ⟨by kernel_rfl, ?_⟩) hS ?_
                rotate_left
                · (intro wS hSw; (try dsimp only at hSw); go_simp; (try rw [if_neg (by omega)]); try with_reducible rfl)
                simp only [Act.put, List.setIfInBounds_toArray, List.set_cons_zero, List.set_cons_succ]
                refine AtT.taked (i := 4) (v := ?_) (some 255) rfl rfl (by kernel_rfl) (by kernel_rfl) (by kernel_rfl) (by kernel_rfl) (fun _ _ _ h => h) (Or.inl ⟨by kernel_rfl, ?_⟩) hS ?_
                rotate_left
                · (intro wS hSw; (try dsimp only at hSw); have q1 := ((hSw.ow (.there (.there .here))).cellOrder hlk).1; rw [HZ.out] at q1; have q2 := (hSw.ints (.there .here)).cellAt hlt; rw [HID.out] at q2; go_simp; (try rw [if_neg (by omega)]); try with_reducible rfl)
                simp only [Act.put, List.setIfInBounds_toArray, List.set_cons_zero, List.set_cons_succ]
                refine AtT.taked (i := 5) (v := ?_) (some 256) rfl rfl (by kernel_rfl) (by kernel_rfl) (by kernel_rfl) (by kernel_rfl) (fun _ _ _ h => h) (Or.inl ⟨by kernel_rfl, ?_⟩) hS ?_
                rotate_left
                · (intro wS hSw; (try dsimp only at hSw); go_simp; (try rw [if_neg (by omega)]); try with_reducible rfl)
                simp only [Act.put, List.setIfInBounds_toArray, List.set_cons_zero, List.set_cons_succ]
                refine AtT.taked (i := 6) (v := ?_) (some 257) rfl rfl (by kernel_rfl) (by kernel_rfl) (by kernel_rfl) (by kernel_rfl) (fun _ _ _ h => h) (Or.inl ⟨by kernel_rfl, ?_⟩) hS ?_
                rotate_left
                · (intro wS hSw; (try dsimp only at hSw); go_simp; (try rw [if_neg (by omega)]); try with_reducible rfl)
                simp only [Act.put, List.setIfInBounds_toArray, List.set_cons_zero, List.set_cons_succ]
                refine AtT.taked (i := 7) (v := ?_) (some 258) rfl rfl (by kernel_rfl) (by kernel_rfl) (by kernel_rfl) (by kernel_rfl) (fun _ _ _ h => h) (Or.inl ⟨by kernel_rfl, ?_⟩) hS ?_
                rotate_left
                · (intro wS hSw; (try dsimp only at hSw); have q1 := ((hSw.ow (.there (.there .here))).cellOrder hlk).1; rw [HZ.out] at q1; have q2 := (hSw.ints (.there .here)).cellAt hlt; rw [HID.out] at q2; go_simp; (try rw [if_neg (by omega)]); try with_reducible rfl)
                simp only [Act.put, List.setIfInBounds_toArray, List.set_cons_zero, List.set_cons_succ]
                refine AtT.taked (i := 8) (v := ?_) (some 259) rfl rfl (by kernel_rfl) (by kernel_rfl) (by kernel_rfl) (by kernel_rfl) (fun _ _ _ h => h) (Or.inl ⟨by kernel_rfl, ?_⟩) hS ?_
                rotate_left
                · (intro wS hSw; (try dsimp only at hSw); have q1 := ((hSw.ow (.there (.there .here))).cellOrder hlk).1; rw [HZ.out] at q1; have q2 := (hSw.ints (.there .here)).cellAt hlt; rw [HID.out] at q2; go_simp; (try rw [if_neg (by omega)]); try with_reducible rfl)
                simp only [Act.put, List.setIfInBounds_toArray, List.set_cons_zero, List.set_cons_succ]
                refine AtT.last (by kernel_rfl) rfl (by kernel_rfl) ?_
                intro K hK
                clear hS
                go_simp
                refine hK.out _ _ ?_
                clear hK K
                have hcu := ((hM.ow (.there (.there .here))).cellOrder hlk).2.2.2.1
                rw [HUR.out] at hcu
                go_wp2
                go_roundw
                case rel => exact ⟨k + 1, by omega, by go_num, by rw [HE2.out], by (repeat' (first | with_reducible exact hM | with_reducible exact hMp | with_reducible apply Mem.drew | with_reducible apply Mem.drewN | with_reducible apply Mem.alloc | with_reducible apply Mem.set | with_reducible exact Sto.row | ((with_reducible refine Sto.rowEq2 ?_ ?_); omega; rfl) | ((with_reducible refine Sto.rowEq ?_); omega) | with_reducible apply Sto.int | with_reducible apply Sto.there | with_reducible assumption | (unfold I64; omega) | (with_reducible (have hMx := Mem.undrew hM; exact hMx)) | (with_reducible (have hMx := Mem.undrew hMp; exact hMx))))⟩
                case measure => simp [intOf]; omega
              · have hid2 := HNE.out k hlk hkq
                have e1 : (if k + 1 ≤ q then L else L2) = (if k ≤ q then L else L2) := by
                  by_cases h1 : k ≤ q
                  · rw [if_pos h1, if_pos (by omega)]
                  · rw [if_neg h1, if_neg (by omega)]
                have HE1 := Lib.hid e1
                clear e1
                generalize (if k ≤ q then L else L2) = cu at HE1 ⊢
                obtain ⟨y, hy⟩ : ∃ y, (xs.getD k OrderI.zero).id = y := ⟨_, rfl⟩
                rw [hy] at hid2
                have HY := Lib.hid hy
                clear hy
                have hzz : (y == z) = false := by simpa using hid2
                go_upto_region 51 with fail
                apply Mem.atWpA
                · (repeat' (first | with_reducible exact hM | with_reducible exact hMp | with_reducible apply Mem.drew | with_reducible apply Mem.drewN | with_reducible apply Mem.alloc | with_reducible apply Mem.set | with_reducible exact Sto.row | ((with_reducible refine Sto.rowEq2 ?_ ?_); omega; rfl) | ((with_reducible refine Sto.rowEq ?_); omega) | with_reducible apply Sto.int | with_reducible apply Sto.there | with_reducible assumption | (unfold I64; omega) | (with_reducible (have hMx := Mem.undrew hM; exact hMx)) | (with_reducible (have hMx := Mem.undrew hMp; exact hMx))))
                clear hM
                intro wst hM
                (try simp only [World.size_alloc, World.size_setCell, World.heap_drewN, heapDrew, Nat.add_assoc, Nat.reduceAdd, List.setIfInBounds_toArray, List.set_cons_zero, List.set_cons_succ, List.cons_append, List.nil_append] at hM)
                refine AtT.startA hM hM 9 (by kernel_rfl) ?_
                clear hM
                intro wd hM
                have hS := hM
                refine AtT.taked (i := 0) (v := ?_) (some 251) rfl rfl (by kernel_rfl) (by kernel_rfl) (by kernel_rfl) (by kernel_rfl) (fun _ _ _ h => h) (Or.inl ⟨by kernel_rfl, ?_⟩) hS ?_
                rotate_left
                · (intro wS hSw; (try dsimp only at hSw); go_simp; (try rw [if_neg (by omega)]); try with_reducible rfl)
                simp only [Act.put, List.setIfInBounds_toArray, List.set_cons_zero, List.set_cons_succ]
                refine AtT.taked (i := 1) (v := ?_) (some 252) rfl rfl (by kernel_rfl) (by kernel_rfl) (by kernel_rfl) (by kernel_rfl) (fun _ _ _ h => h) (Or.inl ⟨by kernel_rfl, ?_⟩) hS ?_
                rotate_left
                · (intro wS hSw; (try dsimp only at hSw); go_simp; (try rw [if_neg (by omega)]); try with_reducible rfl)
                simp only [Act.put, List.setIfInBounds_toArray, List.set_cons_zero, List.set_cons_succ]
                refine AtT.taked (i := 2) (v := ?_) (some 253) rfl rfl (by kernel_rfl) (by kernel_rfl) (by kernel_rfl) (by kernel_rfl) (fun _ _ _ h => h) (Or.inl ⟨by kernel_rfl, ?_⟩) hS ?_
                rotate_left
                · (intro wS hSw; (try dsimp only at hSw); have q1 := ((hSw.ow (.there (.there .here))).cellOrder hlk).1; rw [HY.out] at q1; have q2 := (hSw.ints (.there .here)).cellAt hlt; rw [HID.out] at q2; go_simp; (try rw [if_neg (by omega)]); try with_reducible rfl)
                simp only [Act.put, List.setIfInBounds_toArray, List.set_cons_zero, List.set_cons_succ]
                refine AtT.taked (i := 3) (v := ?_) (some 254) rfl rfl (by kernel_rfl) (by kernel_rfl) (by kernel_rfl) (by kernel_rfl) (fun _ _ _ h => h) (Or.inl ⟨by kernel_rfl, ?_⟩) hS ?_
                rotate_left
                · (intro wS hSw; (try dsimp only at hSw); go_simp; (try rw [if_neg (by omega)]); try with_reducible rfl)
                simp only [Act.put, List.setIfInBounds_toArray, List.set_cons_zero, List.set_cons_succ]
                refine AtT.taked (i := 4) (v := ?_) (some 255) rfl rfl (by kernel_rfl) (by kernel_rfl) (by kernel_rfl) (by kernel_rfl) (fun _ _ _ h => h) (Or.inl ⟨by kernel_rfl, ?_⟩) hS ?_
                rotate_left
                · (intro wS hSw; (try dsimp only at hSw); have q1 := ((hSw.ow (.there (.there .here))).cellOrder hlk).1; rw [HY.out] at q1; have q2 := (hSw.ints (.there .here)).cellAt hlt; rw [HID.out] at q2; go_simp; (try rw [if_neg (by omega)]); try with_reducible rfl)
                simp only [Act.put, List.setIfInBounds_toArray, List.set_cons_zero, List.set_cons_succ]
                refine AtT.taked (i := 5) (v := ?_) (some 256) rfl rfl (by kernel_rfl) (by kernel_rfl) (by kernel_rfl) (by kernel_rfl) (fun _ _ _ h => h) (Or.inl ⟨by kernel_rfl, ?_⟩) hS ?_
                rotate_left
                · (intro wS hSw; (try dsimp only at hSw); go_simp; (try rw [if_neg (by omega)]); try with_reducible rfl)
                simp only [Act.put, List.setIfInBounds_toArray, List.set_cons_zero, List.set_cons_succ]
                refine AtT.taked (i := 6) (v := ?_) (some 257) rfl rfl (by kernel_rfl) (by kernel_rfl) (by kernel_rfl) (by kernel_rfl) (fun _ _ _ h => h) (Or.inl ⟨by kernel_rfl, ?_⟩) hS ?_
                rotate_left
                · (intro wS hSw; (try dsimp only at hSw); go_simp; (try rw [if_neg (by omega)]); try with_reducible rfl)
                simp only [Act.put, List.setIfInBounds_toArray, List.set_cons_zero, List.set_cons_succ]
                refine AtT.taked (i := 7) (v := ?_) (some 258) rfl rfl (by kernel_rfl) (by kernel_rfl) (by kernel_rfl) (by kernel_rfl) (fun _ _ _ h => h) (Or.inl ⟨by kernel_rfl, ?_⟩) hS ?_
                rotate_left
                · (intro wS hSw; (try dsimp only at hSw); have q1 := ((hSw.ow (.there (.there .here))).cellOrder hlk).1; rw [HY.out] at q1; have q2 := (hSw.ints (.there .here)).cellAt hlt; rw [HID.out] at q2; go_simp; (try rw [if_neg (by omega)]); try with_reducible rfl)
                simp only [Act.put, List.setIfInBounds_toArray, List.set_cons_zero, List.set_cons_succ]
                refine AtT.taked (i := 8) (v := ?_) (some 259) rfl rfl (by kernel_rfl) (by kernel_rfl) (by kernel_rfl) (by kernel_rfl) (fun _ _ _ h => h) (Or.inl ⟨by kernel_rfl, ?_⟩) hS ?_
                rotate_left
                · (intro wS hSw; (try dsimp only at hSw); have q1 := ((hSw.ow (.there (.there .here))).cellOrder hlk).1; rw [HY.out] at q1; have q2 := (hSw.ints (.there .here)).cellAt hlt; rw [HID.out] at q2; go_simp; (try rw [if_neg (by omega)]); try with_reducible rfl)
                simp only [Act.put, List.setIfInBounds_toArray, List.set_cons_zero, List.set_cons_succ]
                refine AtT.last (by kernel_rfl) rfl (by kernel_rfl) ?_
                intro K hK
                clear hS
                go_simp
                refine hK.out _ _ ?_
                clear hK K
                go_wp2
                go_roundw
                case rel => exact ⟨k + 1, by omega, by go_num, by rw [HE1.out], by (repeat' (first | with_reducible exact hM | with_reducible exact hMp | with_reducible apply Mem.drew | with_reducible apply Mem.drewN | with_reducible apply Mem.alloc | with_reducible apply Mem.set | with_reducible exact Sto.row | ((with_reducible refine Sto.rowEq2 ?_ ?_); omega; rfl) | ((with_reducible refine Sto.rowEq ?_); omega) | with_reducible apply Sto.int | with_reducible apply Sto.there | with_reducible assumption | (unfold I64; omega) | (with_reducible (have hMx := Mem.undrew hM; exact hMx)) | (with_reducible (have hMx := Mem.undrew hMp; exact hMx))))⟩
                case measure => simp [intOf]; omega
            · obtain rfl : k = xs.length := by omega
              have e1 : (if xs.length ≤ q then L else L2) = lastU xs (i + 1) := by rw [if_neg (by omega), HL2.out]
              rw [e1]
              clear e1
              go_wp2
              go_roundw
              case rel => exact ⟨i + 1, by omega, by go_num, rfl, hM⟩
              case measure => simp [intOf]; omega
        · obtain rfl : i = sv.length := by omega
          replace hM := hM.sub (G' := []) (by simp)
          go_wp2_with fail
          apply Mem.atA
          · (repeat' (first | with_reducible exact hM | with_reducible exact hMp | with_reducible apply Mem.drew | with_reducible apply Mem.drewN | with_reducible apply Mem.alloc | with_reducible apply Mem.set | with_reducible exact Sto.row | ((with_reducible refine Sto.rowEq2 ?_ ?_); omega; rfl) | ((with_reducible refine Sto.rowEq ?_); omega) | with_reducible apply Sto.int | with_reducible apply Sto.there | with_reducible assumption | (unfold I64; omega) | (with_reducible (have hMx := Mem.undrew hM; exact hMx)) | (with_reducible (have hMx := Mem.undrew hMp; exact hMx))))
          clear hM
          intro wst hM
          (try simp only [World.size_alloc, World.size_setCell, World.heap_drewN, heapDrew, Nat.add_assoc, Nat.reduceAdd, List.setIfInBounds_toArray, List.set_cons_zero, List.set_cons_succ, List.cons_append, List.nil_append] at hM)
          (first | refine (drawMissing_any (HC.out.ext hM.below)).mono ?_)
          rintro e w14 ⟨b4, d4, ys, b5, d5, zs, hl5, hx5, hl6, hy6, rfl, hm⟩
          replace hM := hM.join hm
          clear hm
          (try simp only [World.size_alloc, World.size_setCell, World.heap_drewN, heapDrew, Nat.add_assoc, Nat.reduceAdd, List.setIfInBounds_toArray, List.set_cons_zero, List.set_cons_succ, List.cons_append, List.nil_append] at hM)
          clear hx5 hy6
          obtain ⟨ms, hms⟩ : ∃ r, missR ys zs = r := ⟨_, rfl⟩
          obtain ⟨mb, hmb⟩ : ∃ r, missB ys zs = r := ⟨_, rfl⟩
          have HMS := Lib.hid hms; have HMB := Lib.hid hmb
          clear hms hmb
          have hbq : (mb == mb) = true := by cases mb <;> rfl
          go_wp2_with fail
          apply Mem.atA
          · (repeat' (first | with_reducible exact hM | with_reducible exact hMp | with_reducible apply Mem.drew | with_reducible apply Mem.drewN | with_reducible apply Mem.alloc | with_reducible apply Mem.set | with_reducible exact Sto.row | ((with_reducible refine Sto.rowEq2 ?_ ?_); omega; rfl) | ((with_reducible refine Sto.rowEq ?_); omega) | with_reducible apply Sto.int | with_reducible apply Sto.there | with_reducible assumption | (unfold I64; omega) | (with_reducible (have hMx := Mem.undrew hM; exact hMx)) | (with_reducible (have hMx := Mem.undrew hMp; exact hMx))))
          clear hM
          intro wst hM
          (try simp only [World.size_alloc, World.size_setCell, World.heap_drewN, heapDrew, Nat.add_assoc, Nat.reduceAdd, List.setIfInBounds_toArray, List.set_cons_zero, List.set_cons_succ, List.cons_append, List.nil_append] at hM)
          (first | refine (implMissing_any _ _ _ ys _ _ _ zs _ (hM.ow (.there .here)).rd (hM.ow .here).rd).mono ?_)
          rw [HMS.out,]
          rw [HMB.out]
          rintro e w15 ⟨b6, d6, rfl, hm⟩
          replace hM := hM.join hm
          clear hm
          (try simp only [World.size_alloc, World.size_setCell, World.heap_drewN, heapDrew, Nat.add_assoc, Nat.reduceAdd, List.setIfInBounds_toArray, List.set_cons_zero, List.set_cons_succ, List.cons_append, List.nil_append] at hM)
          go_wp2_with fail
          apply Mem.atA
          · (repeat' (first | with_reducible exact hM | with_reducible exact hMp | with_reducible apply Mem.drew | with_reducible apply Mem.drewN | with_reducible apply Mem.alloc | with_reducible apply Mem.set | with_reducible exact Sto.row | ((with_reducible refine Sto.rowEq2 ?_ ?_); omega; rfl) | ((with_reducible refine Sto.rowEq ?_); omega) | with_reducible apply Sto.int | with_reducible apply Sto.there | with_reducible assumption | (unfold I64; omega) | (with_reducible (have hMx := Mem.undrew hM; exact hMx)) | (with_reducible (have hMx := Mem.undrew hMp; exact hMx))))
          clear hM
          intro wst hM
          (try simp only [World.size_alloc, World.size_setCell, World.heap_drewN, heapDrew, Nat.add_assoc, Nat.reduceAdd, List.setIfInBounds_toArray, List.set_cons_zero, List.set_cons_succ, List.cons_append, List.nil_append] at hM)
          (first | refine (specMissing_any _ _ _ ys _ _ _ zs _ (hM.ow (.there (.there .here))).rd (hM.ow (.there .here)).rd).mono ?_)
          rw [HMS.out,]
          rw [HMB.out]
          rintro e w16 ⟨b7, d7, rfl, hm⟩
          replace hM := hM.join hm
          clear hm
          (try simp only [World.size_alloc, World.size_setCell, World.heap_drewN, heapDrew, Nat.add_assoc, Nat.reduceAdd, List.setIfInBounds_toArray, List.set_cons_zero, List.set_cons_succ, List.cons_append, List.nil_append] at hM)
          go_wp2_with fail
          apply Mem.atA
          · (repeat' (first | with_reducible exact hM | with_reducible exact hMp | with_reducible apply Mem.drew | with_reducible apply Mem.drewN | with_reducible apply Mem.alloc | with_reducible apply Mem.set | with_reducible exact Sto.row | ((with_reducible refine Sto.rowEq2 ?_ ?_); omega; rfl) | ((with_reducible refine Sto.rowEq ?_); omega) | with_reducible apply Sto.int | with_reducible apply Sto.there | with_reducible assumption | (unfold I64; omega) | (with_reducible (have hMx := Mem.undrew hM; exact hMx)) | (with_reducible (have hMx := Mem.undrew hMp; exact hMx))))
          clear hM
          intro wst hM
          (try simp only [World.size_alloc, World.size_setCell, World.heap_drewN, heapDrew, Nat.add_assoc, Nat.reduceAdd, List.setIfInBounds_toArray, List.set_cons_zero, List.set_cons_succ, List.cons_append, List.nil_append] at hM)
          (first | refine (rStocks_same _ _ _ ms _ _ _ _ (hM.ow (.there .here)).rd (hM.ow .here).rd).mono ?_)
          rintro e wc26 ⟨rfl, hb⟩
          replace hM := hM.ext hb
          clear hb
          go_wp2
          go_ret
          exact ⟨rfl, (by apply Mem.below; (repeat' (first | with_reducible exact hM | with_reducible exact hMp | with_reducible apply Mem.drew | with_reducible apply Mem.drewN | with_reducible apply Mem.alloc | with_reducible apply Mem.set | with_reducible exact Sto.row | ((with_reducible refine Sto.rowEq2 ?_ ?_); omega; rfl) | ((with_reducible refine Sto.rowEq ?_); omega) | with_reducible apply Sto.int | with_reducible apply Sto.there | with_reducible assumption | (unfold I64; omega) | (with_reducible (have hMx := Mem.undrew hM; exact hMx)) | (with_reducible (have hMx := Mem.undrew hMp; exact hMx)))))⟩
end Go.Proofs.Ytfnaenekdenmkaa
