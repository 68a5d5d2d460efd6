/-
  Cuts: the program's test.
-/
import Derived.Test.YtojfbcgfeojdfaaGreatKHoldP
import Derived.Test.YtojfbcgfeojdfaaGreatKRise
/-
  Cuts: the program's test.
-/
namespace Go.Proofs.YtojfbcgfeojdfaaGreat
set_option linter.unusedSimpArgs false
set_option linter.unusedVariables false
open Go.RowKit

theorem goodB_25 {W H : Int} {xs : List Int} (h : goodB 20 W H xs = true) : xs.length ≤ 25 := by
  obtain ⟨Wn, Hn, rfl, rfl, a1, a2, b1, b2, hlen, h25, hall⟩ := goodB_true h
  exact h25
theorem goodB_nn {W H : Int} {xs : List Int} (h : goodB 20 W H xs = true) : ∀ x ∈ xs, 0 ≤ x ∧ x ≤ 20 := by
  obtain ⟨Wn, Hn, rfl, rfl, a1, a2, b1, b2, hlen, h25, hall⟩ := goodB_true h
  exact hall
def cutV (n : Nat) (xs : List Int) (v : CutI) : Bool := inB v.cell 0 ((n : Int) - 1) && inB v.tick 0 9999 && !(xs.getD v.cell.toNat 0 == 0)
theorem cutOK_v {n : Nat} {xs : List Int} (hl : xs.length = n) (l : List CutI) (k : Nat) : cutOK xs l k = (cutV n xs (l.getD k CutI.zero) && (if k = 0 then true else decide ((l.getD (k - 1) CutI.zero).cell < (l.getD k CutI.zero).cell))) := by
  subst hl
  rfl

set_option maxRecDepth 100000 in
set_option maxHeartbeats 1000000 in
theorem cut1_any (W H : Int) (a : Option Addr) (n c : Nat) (xs : List Int) (v : CutI) (bt : Nat) (w : World) (h : Ints w a n c xs) (hr : Row w bt #[.int .i64 W, .int .i64 H, .slice a n c]) (hn25 : n ≤ 25) (hx : ∀ x ∈ xs, 0 ≤ x ∧ x ≤ 20) :
    Calls Tryz.prog 38 #[v.val, .pointer (some ⟨bt, 0, none⟩)] w fun e w' => e = .returned (.bool (cutV n xs v)) ∧ Below w.heap.size w w' := by
  have hM := Mem.start w
  obtain ⟨vc, vt⟩ := v
  have HXL := Lib.hid h.len
  obtain ⟨q1, hq1⟩ : ∃ q, inB vc 0 ((n : Int) - 1) = q := ⟨_, rfl⟩
  have HQ1 := Lib.hid hq1
  cases q1
  · have HF := Lib.hid (show cutV n xs ⟨vc, vt⟩ = false by unfold cutV; dsimp only; rw [hq1]; rfl)
    clear hq1
    go_enter Tryz.func38, Tryz.ntmps38
    go_upto_region 1 with fail
    apply Mem.atWpA
    · exact memA
    clear hM
    intro wst hM
    (try simp only [World.size_alloc, World.size_setCell, World.heap_drewN, heapDrew, Nat.add_assoc, Nat.reduceAdd, sA, List.cons_append, List.nil_append] at hM)
    obtain ⟨k1, f1, l1⟩ := hr.ext hM.below
    obtain ⟨k0, f0, l0⟩ := hM.row .here
    go_wp2_with fail
    clear k0 f0 l0
    apply Mem.atA
    · exact memA
    clear hM
    intro wst hM
    (try simp only [World.size_alloc, World.size_setCell, World.heap_drewN, heapDrew, Nat.add_assoc, Nat.reduceAdd, sA, List.cons_append, List.nil_append] at hM)
    apply Calls.mono
    · (apply isCell_any W H a n c vc) <;> (first | (show (_ : Prop); with_reducible assumption) | (apply Hid.out; with_reducible assumption) | (apply Mem.intsR hM; (repeat' (first | with_reducible exact In.here | with_reducible apply In.there)); done) | (apply Ints.ext (hb := hM.below); with_reducible assumption) | (apply Rd.ext (hb := hM.below); with_reducible assumption) | (apply Mem.row hM; (repeat' (first | with_reducible exact In.here | with_reducible apply In.there)); done) | (apply Row.ext (hb := hM.below); with_reducible assumption) | exact ⟨by omega, by omega⟩ | omega | (trace_state; fail))
    rw [HQ1.out]
    rintro e wc1 ⟨rfl, hb⟩
    replace hM := hM.ext hb
    clear hb
    go_wp2
    go_ret
    exact ⟨rb HF.out.symm, (by apply Mem.below; (exact memA))⟩
  have hin := inB_true hq1
  obtain ⟨j, rfl⟩ := Int.eq_ofNat_of_zero_le hin.1
  have hjn : j < n := by omega
  obtain ⟨q2, hq2⟩ : ∃ q, brn xs j = q := ⟨_, rfl⟩
  obtain ⟨q3, hq3⟩ : ∃ q, inB vt 0 9999 = q := ⟨_, rfl⟩
  have HF := Lib.hid (show cutV n xs ⟨(j : Int), vt⟩ = (q2 && q3) by
    have hm := (hx _ (getD_mem (xs := xs) (k := j) (by rw [h.len]; exact hjn))).1
    have hb : brn xs j = !(xs.getD j 0 == 0) := by
      unfold brn
      generalize xs.getD j 0 = z at hm
      by_cases e : z = 0
      · subst e; rfl
      · rw [decide_eq_true (by omega)]
        simp [e]
    unfold cutV
    dsimp only
    rw [hq1, hq3, Int.toNat_natCast, ← hb, hq2, Bool.true_and, Bool.and_comm])
  have HQ2 := Lib.hid hq2; have HQ3 := Lib.hid hq3
  clear hq1 hq2 hq3 hin hx
  go_enter Tryz.func38, Tryz.ntmps38
  go_upto_region 1 with fail
  apply Mem.atWpA
  · exact memA
  clear hM
  intro wst hM
  (try simp only [World.size_alloc, World.size_setCell, World.heap_drewN, heapDrew, Nat.add_assoc, Nat.reduceAdd, sA, List.cons_append, List.nil_append] at hM)
  obtain ⟨k1, f1, l1⟩ := hr.ext hM.below
  obtain ⟨k0, f0, l0⟩ := hM.row .here
  go_wp2_with fail
  clear k0 f0 l0
  apply Mem.atA
  · exact memA
  clear hM
  intro wst hM
  (try simp only [World.size_alloc, World.size_setCell, World.heap_drewN, heapDrew, Nat.add_assoc, Nat.reduceAdd, sA, List.cons_append, List.nil_append] at hM)
  apply Calls.mono
  · (apply isCell_any W H a n c j) <;> (first | (show (_ : Prop); with_reducible assumption) | (apply Hid.out; with_reducible assumption) | (apply Mem.intsR hM; (repeat' (first | with_reducible exact In.here | with_reducible apply In.there)); done) | (apply Ints.ext (hb := hM.below); with_reducible assumption) | (apply Rd.ext (hb := hM.below); with_reducible assumption) | (apply Mem.row hM; (repeat' (first | with_reducible exact In.here | with_reducible apply In.there)); done) | (apply Row.ext (hb := hM.below); with_reducible assumption) | exact ⟨by omega, by omega⟩ | omega | (trace_state; fail))
  rw [HQ1.out]
  rintro e wc2 ⟨rfl, hb⟩
  replace hM := hM.ext hb
  clear hb
  clear k1 f1 l1
  obtain ⟨k1, f1, l1⟩ := hr.ext hM.below
  obtain ⟨k0, f0, l0⟩ := hM.row .here
  go_wp2_with fail
  clear k0 f0 l0
  apply Mem.atA
  · exact memA
  clear hM
  intro wst hM
  (try simp only [World.size_alloc, World.size_setCell, World.heap_drewN, heapDrew, Nat.add_assoc, Nat.reduceAdd, sA, List.cons_append, List.nil_append] at hM)
  apply Calls.mono
  · (apply burns_any W H a n c xs j) <;> (first | (show (_ : Prop); with_reducible assumption) | (apply Hid.out; with_reducible assumption) | (apply Mem.intsR hM; (repeat' (first | with_reducible exact In.here | with_reducible apply In.there)); done) | (apply Ints.ext (hb := hM.below); with_reducible assumption) | (apply Rd.ext (hb := hM.below); with_reducible assumption) | (apply Mem.row hM; (repeat' (first | with_reducible exact In.here | with_reducible apply In.there)); done) | (apply Row.ext (hb := hM.below); with_reducible assumption) | exact ⟨by omega, by omega⟩ | omega | (trace_state; fail))
  rw [HQ2.out]
  rintro e wc3 ⟨rfl, hb⟩
  replace hM := hM.ext hb
  clear hb
  cases q2
  · go_wp2
    go_ret
    exact ⟨rb (by rw [HF.out]; rfl), (by apply Mem.below; (exact memA))⟩
  obtain ⟨k0, f0, l0⟩ := hM.row .here
  go_wp2_with fail
  clear k0 f0 l0
  apply Mem.atA
  · exact memA
  clear hM
  intro wst hM
  (try simp only [World.size_alloc, World.size_setCell, World.heap_drewN, heapDrew, Nat.add_assoc, Nat.reduceAdd, sA, List.cons_append, List.nil_append] at hM)
  apply Calls.mono
  · (apply phTick_any vt) <;> (first | (show (_ : Prop); with_reducible assumption) | (apply Hid.out; with_reducible assumption) | (apply Mem.intsR hM; (repeat' (first | with_reducible exact In.here | with_reducible apply In.there)); done) | (apply Ints.ext (hb := hM.below); with_reducible assumption) | (apply Rd.ext (hb := hM.below); with_reducible assumption) | (apply Mem.row hM; (repeat' (first | with_reducible exact In.here | with_reducible apply In.there)); done) | (apply Row.ext (hb := hM.below); with_reducible assumption) | exact ⟨by omega, by omega⟩ | omega | (trace_state; fail))
  rw [HQ3.out]
  rintro e wc4 ⟨rfl, rfl⟩
  go_wp2
  go_ret
  exact ⟨rb (by rw [HF.out]; rfl), (by apply Mem.below; (exact memA))⟩

set_option maxRecDepth 100000 in
set_option maxHeartbeats 1000000 in
theorem cut2_any (v : CutI) (w : World) :
    Calls Tryz.prog 44 #[v.val] w fun e w' => e = .returned (.int .i64 v.cell) ∧ Below w.heap.size w w' := by
  have hM := Mem.start w
  obtain ⟨vc, vt⟩ := v
  go_enter Tryz.func44, Tryz.ntmps44
  go_wp2
  go_ret
  exact ⟨rfl, (by apply Mem.below; (exact memA))⟩

set_option maxRecDepth 100000 in
set_option maxHeartbeats 4000000 in
theorem listed_any (W H : Int) (a : Option Addr) (n c : Nat) (xs : List Int) (a1 : Option Addr) (n1 c1 : Nat) (cu : List CutI) (bt : Nat) (w : World) (h : Ints w a n c xs) (h1 : Rd FCut w a1 n1 c1 cu) (hr : Row w bt #[.int .i64 W, .int .i64 H, .slice a n c]) (hn25 : n ≤ 25) (hx : ∀ x ∈ xs, 0 ≤ x ∧ x ≤ 20) :
    Calls Tryz.prog 43 #[.slice a1 n1 c1, .int .i64 8, .func (.func 38) #[] #[.pointer (some ⟨bt, 0, none⟩)], .func (.func 44) #[] #[]] w fun e w' => e = .returned (.bool (cutTo xs cu cu.length && decide (cu.length ≤ 8))) ∧ Below w.heap.size w w' := by
  have hM := Mem.start w
  have hrm := h1.nroom
  have HL := Lib.hid h1.len
  have HX := Lib.hid hx
  have HBAD : Hid (∀ k, k < n1 → cutOK xs cu k = false → cutTo xs cu cu.length = false) := fun k hk hf => by
    cases hp : cutTo xs cu cu.length
    · rfl
    · have := cut_ok hp (k := k) (by rw [h1.len]; exact hk)
      rw [hf] at this
      exact this.symm
  have HOKV := Lib.hid (cutOK_v h.len cu)
  clear hx
  go_enter Tryz.func43, Tryz.ntmps43
  go_wp2_with fail
  go_loopw [13] (fun s13 wr => ∃ k : Nat, k ≤ n1 ∧ s13 = .int .i64 k ∧ cutTo xs cu k = true ∧ Mem w.heap.size w wr []) (fun s13 _ => n1 - (intOf s13).toNat)
  case atStart => exact ⟨0, Nat.zero_le _, rfl, rfl, hM⟩
  case round =>
    clear hM
    obtain ⟨k, hk, rfl, hto, hM⟩ := hrel
    have HTO := Lib.hid hto; clear hto
    by_cases hlt : k < n1
    · obtain ⟨bl, offl, rfl, -, -⟩ := h1.at' _ hlt
      obtain ⟨-, hc0, hc1⟩ := (h1.ext hM.below).cellCut hlt
      obtain ⟨v, hv⟩ : ∃ v, cu.getD k CutI.zero = v := ⟨_, rfl⟩
      have HOK : Hid (cutOK xs cu k = (cutV n xs v && (if k = 0 then true else decide ((cu.getD (k - 1) CutI.zero).cell < v.cell)))) := Lib.hid (by rw [HOKV.out, hv])
      rw [hv] at hc0 hc1
      clear hv
      obtain ⟨vc, vt⟩ := v
      dsimp only at hc0 hc1 HOK
      have i0 : (0 : Int) ≤ (k : Int) := by omega
      have i1 : (k : Int) < (n1 : Int) := by omega
      go_wp2_with fail
      apply Mem.atWp
      · exact memA
      clear hM
      intro hM
      cases ha : cutV n xs ⟨vc, vt⟩
      · have HR := Lib.hid (HBAD.out k hlt (by rw [HOK.out, ha]; rfl))
        have HA := Lib.hid ha; clear ha
        as_aux_lemma =>
          refine AtT.startA hM hM 20 (by kernel_rfl) ?_
          clear hM
          intro wd hM
          have hS := hM
          refine AtT.tk 0 ?_ 18 ?_ hS ?_
          rotate_left
          · (intro wS hSw; (try dsimp only at hSw); go_simp; (try rw [if_neg (by omega)]); try with_reducible rfl)
          simp only [Act.put, sA]
          refine AtT.tk 1 ?_ 19 ?_ hS ?_
          rotate_left
          · (intro wS hSw; (try dsimp only at hSw); have kr0 := (Mem.row hSw .here).cell; skip; go_simp; (try rw [if_neg (by omega)]); try with_reducible rfl)
          simp only [Act.put, sA]
          refine AtT.only (i := 2) (by kernel_rfl) rfl rfl ?_
          intro K hK
          go_simp
          refine (cut1_any W H a n c xs ⟨vc, vt⟩ bt _ (h.ext hM.below) (hr.ext hM.below) hn25 HX.out).mono ?_
          rw [HA.out]
          rintro e w3 ⟨rfl, hb⟩
          replace hM := hM.ext hb
          clear hb
          try dsimp only
          refine hK.out _ _ (hM) ?_
          clear hK K hS
          have hS := hM
          refine AtT.tk 3 ?_ 21 ?_ hS ?_
          rotate_left
          · (intro wS hSw; (try dsimp only at hSw); go_simp; (try rw [if_neg (by omega)]); try with_reducible rfl)
          simp only [Act.put, sA]
          refine AtT.tk 4 ?_ 22 ?_ hS ?_
          rotate_left
          · (intro wS hSw; (try dsimp only at hSw); go_simp; (try rw [if_neg (by omega)]); try with_reducible rfl)
          simp only [Act.put, sA]
          refine AtT.tn 5 23 hS ?_
          simp only [Act.put, sA]
          refine AtT.tn 6 24 hS ?_
          simp only [Act.put, sA]
          refine AtT.tn 7 25 hS ?_
          simp only [Act.put, sA]
          refine AtT.tn 8 26 hS ?_
          simp only [Act.put, sA]
          refine AtT.tn 9 27 hS ?_
          simp only [Act.put, sA]
          refine AtT.tn 10 28 hS ?_
          simp only [Act.put, sA]
          refine AtT.tn 11 29 hS ?_
          simp only [Act.put, sA]
          refine AtT.tn 12 30 hS ?_
          simp only [Act.put, sA]
          refine AtT.tn 13 31 hS ?_
          simp only [Act.put, sA]
          refine AtT.tn 14 32 hS ?_
          simp only [Act.put, sA]
          refine AtT.tn 15 33 hS ?_
          simp only [Act.put, sA]
          refine AtT.tn 16 34 hS ?_
          simp only [Act.put, sA]
          refine AtT.tn 17 35 hS ?_
          simp only [Act.put, sA]
          refine AtT.tn 18 36 hS ?_
          simp only [Act.put, sA]
          refine AtT.tn 19 37 hS ?_
          simp only [Act.put, sA]
          refine AtT.last (by kernel_rfl) rfl (by kernel_rfl) ?_
          intro K hK
          clear hS
          go_simp
          refine hK.out _ _ ?_
          clear hK K
          go_wp2
          go_ret
          exact ⟨rb (by rw [HR.out]; rfl), (by apply Mem.below; (exact memA))⟩
      have HOK1 : Hid (cutOK xs cu k = (if k = 0 then true else decide ((cu.getD (k - 1) CutI.zero).cell < vc))) := Lib.hid (by rw [HOK.out, ha]; rfl)
      have HA := Lib.hid ha; clear ha
      by_cases hk0 : k = 0
      · subst hk0
        have e0 : ((0 : Nat) : Int) = 0 := rfl
        have HR := Lib.hid (show cutTo xs cu (0 + 1) = true by rw [cutTo_succ, HTO.out, HOK1.out, if_pos rfl]; rfl)
        as_aux_lemma =>
          refine AtT.startA hM hM 20 (by kernel_rfl) ?_
          clear hM
          intro wd hM
          have hS := hM
          refine AtT.tk 0 ?_ 18 ?_ hS ?_
          rotate_left
          · (intro wS hSw; (try dsimp only at hSw); go_simp; (try rw [if_neg (by omega)]); try with_reducible rfl)
          simp only [Act.put, sA]
          refine AtT.tk 1 ?_ 19 ?_ hS ?_
          rotate_left
          · (intro wS hSw; (try dsimp only at hSw); have kr0 := (Mem.row hSw .here).cell; skip; go_simp; (try rw [if_neg (by omega)]); try with_reducible rfl)
          simp only [Act.put, sA]
          refine AtT.only (i := 2) (by kernel_rfl) rfl rfl ?_
          intro K hK
          go_simp
          refine (cut1_any W H a n c xs ⟨vc, vt⟩ bt _ (h.ext hM.below) (hr.ext hM.below) hn25 HX.out).mono ?_
          rw [HA.out]
          rintro e w3 ⟨rfl, hb⟩
          replace hM := hM.ext hb
          clear hb
          try dsimp only
          refine hK.out _ _ (hM) ?_
          clear hK K hS
          have hS := hM
          refine AtT.tk 3 ?_ 21 ?_ hS ?_
          rotate_left
          · (intro wS hSw; (try dsimp only at hSw); go_simp; (try rw [if_neg (by omega)]); try with_reducible rfl)
          simp only [Act.put, sA]
          refine AtT.tk 4 ?_ 22 ?_ hS ?_
          rotate_left
          · (intro wS hSw; (try dsimp only at hSw); go_simp; (try rw [if_neg (by omega)]); try with_reducible rfl)
          simp only [Act.put, sA]
          refine AtT.tk 5 ?_ 23 ?_ hS ?_
          rotate_left
          · (intro wS hSw; (try dsimp only at hSw); go_simp; (try rw [if_neg (by omega)]); try with_reducible rfl)
          simp only [Act.put, sA]
          refine AtT.tk 6 ?_ 24 ?_ hS ?_
          rotate_left
          · (intro wS hSw; (try dsimp only at hSw); go_simp; (try rw [if_neg (by omega)]); try with_reducible rfl)
          simp only [Act.put, sA]
          refine AtT.tk 7 ?_ 25 ?_ hS ?_
          rotate_left
          · (intro wS hSw; (try dsimp only at hSw); go_simp; (try rw [if_neg (by omega)]); try with_reducible rfl)
          simp only [Act.put, sA]
          refine AtT.tn 8 26 hS ?_
          simp only [Act.put, sA]
          refine AtT.tn 9 27 hS ?_
          simp only [Act.put, sA]
          refine AtT.tn 10 28 hS ?_
          simp only [Act.put, sA]
          refine AtT.tn 11 29 hS ?_
          simp only [Act.put, sA]
          refine AtT.tn 12 30 hS ?_
          simp only [Act.put, sA]
          refine AtT.tn 13 31 hS ?_
          simp only [Act.put, sA]
          refine AtT.tn 14 32 hS ?_
          simp only [Act.put, sA]
          refine AtT.tn 15 33 hS ?_
          simp only [Act.put, sA]
          refine AtT.tn 16 34 hS ?_
          simp only [Act.put, sA]
          refine AtT.tn 17 35 hS ?_
          simp only [Act.put, sA]
          refine AtT.tn 18 36 hS ?_
          simp only [Act.put, sA]
          refine AtT.tk 19 ?_ 37 ?_ hS ?_
          rotate_left
          · (intro wS hSw; (try dsimp only at hSw); go_simp; (try rw [if_neg (by omega)]); try with_reducible rfl)
          simp only [Act.put, sA]
          refine AtT.last (by kernel_rfl) rfl (by kernel_rfl) ?_
          intro K hK
          clear hS
          go_simp
          refine hK.out _ _ ?_
          clear hK K
          go_wp2
          go_roundw
          case rel =>
            refine ⟨0 + 1, by omega, by go_num, HR.out, ?_⟩
            apply Mem.pick (is := [])
            · exact memA
            · decide
            · rfl
          case measure => simp [intOf]; omega
      obtain ⟨j, rfl⟩ : ∃ j, k = j + 1 := ⟨k - 1, by omega⟩
      have hj : j < n1 := by omega
      have hwj : IntKind.i64.wrap (((j + 1 : Nat) : Int) - 1) = (j : Int) := by rw [wrap_in (by omega)]; omega
      have hwj2 : IntKind.i64.wrap (j : Int) = (j : Int) := wrap_in (by omega)
      have e1 : (0 : Int) < ((j + 1 : Nat) : Int) := by omega
      have j0 : (0 : Int) ≤ (j : Int) := by omega
      have j1 : (j : Int) < (n1 : Int) := by omega
      obtain ⟨u, hu⟩ : ∃ u, cu.getD j CutI.zero = u := ⟨_, rfl⟩
      obtain ⟨uc, ut⟩ := u
      have HOK2 : Hid (cutOK xs cu (j + 1) = decide (uc < vc)) := Lib.hid (by rw [HOK1.out, if_neg hk0, Nat.add_sub_cancel, hu])
      have HU := Lib.hid hu
      clear hu hk0
      have HR1 := Lib.hid (fun (hle : vc ≤ uc) => HBAD.out _ hlt (by rw [HOK2.out]; simpa using hle))
      have HR2 := Lib.hid (fun (hle : ¬ vc ≤ uc) => show cutTo xs cu (j + 1 + 1) = true by rw [cutTo_succ, HTO.out, HOK2.out]; simp; omega)
      as_aux_lemma =>
        refine AtT.startA hM hM 20 (by kernel_rfl) ?_
        clear hM
        intro wd hM
        have hS := hM
        refine AtT.tk 0 ?_ 18 ?_ hS ?_
        rotate_left
        · (intro wS hSw; (try dsimp only at hSw); go_simp; (try rw [if_neg (by omega)]); try with_reducible rfl)
        simp only [Act.put, sA]
        refine AtT.tk 1 ?_ 19 ?_ hS ?_
        rotate_left
        · (intro wS hSw; (try dsimp only at hSw); have kr0 := (Mem.row hSw .here).cell; have hd0 := ((h1.ext hSw.below).cellCut hj).2.1; have hd1 := ((h1.ext hSw.below).cellCut hj).2.2; rw [HU.out] at hd0 hd1; dsimp only at hd0 hd1; go_simp; (try rw [if_neg (by omega)]); try with_reducible rfl)
        simp only [Act.put, sA]
        refine AtT.only (i := 2) (by kernel_rfl) rfl rfl ?_
        intro K hK
        go_simp
        refine (cut1_any W H a n c xs ⟨vc, vt⟩ bt _ (h.ext hM.below) (hr.ext hM.below) hn25 HX.out).mono ?_
        rw [HA.out]
        rintro e w3 ⟨rfl, hb⟩
        replace hM := hM.ext hb
        clear hb
        try dsimp only
        refine hK.out _ _ (hM) ?_
        clear hK K hS
        have hS := hM
        refine AtT.tk 3 ?_ 21 ?_ hS ?_
        rotate_left
        · (intro wS hSw; (try dsimp only at hSw); go_simp; (try rw [if_neg (by omega)]); try with_reducible rfl)
        simp only [Act.put, sA]
        refine AtT.tk 4 ?_ 22 ?_ hS ?_
        rotate_left
        · (intro wS hSw; (try dsimp only at hSw); go_simp; (try rw [if_neg (by omega)]); try with_reducible rfl)
        simp only [Act.put, sA]
        refine AtT.tk 5 ?_ 23 ?_ hS ?_
        rotate_left
        · (intro wS hSw; (try dsimp only at hSw); go_simp; (try rw [if_neg (by omega)]); try with_reducible rfl)
        simp only [Act.put, sA]
        refine AtT.tk 6 ?_ 24 ?_ hS ?_
        rotate_left
        · (intro wS hSw; (try dsimp only at hSw); go_simp; (try rw [if_neg (by omega)]); try with_reducible rfl)
        simp only [Act.put, sA]
        refine AtT.tk 7 ?_ 25 ?_ hS ?_
        rotate_left
        · (intro wS hSw; (try dsimp only at hSw); go_simp; (try rw [if_neg (by omega)]); try with_reducible rfl)
        simp only [Act.put, sA]
        refine AtT.tk 8 ?_ 26 ?_ hS ?_
        rotate_left
        · (intro wS hSw; (try dsimp only at hSw); go_simp; (try rw [if_neg (by omega)]); try with_reducible rfl)
        simp only [Act.put, sA]
        refine AtT.tk 9 ?_ 27 ?_ hS ?_
        rotate_left
        · (intro wS hSw; (try dsimp only at hSw); have kr0 := (Mem.row hSw .here).cell; have hd0 := ((h1.ext hSw.below).cellCut hj).2.1; have hd1 := ((h1.ext hSw.below).cellCut hj).2.2; rw [HU.out] at hd0 hd1; dsimp only at hd0 hd1; go_simp; (try rw [if_neg (by omega)]); try with_reducible rfl)
        simp only [Act.put, sA]
        refine AtT.tk 11 ?_ 29 ?_ hS ?_
        rotate_left
        · (intro wS hSw; (try dsimp only at hSw); go_simp; (try rw [if_neg (by omega)]); try with_reducible rfl)
        simp only [Act.put, sA]
        refine AtT.tk 12 ?_ 30 ?_ hS ?_
        rotate_left
        · (intro wS hSw; (try dsimp only at hSw); go_simp; (try rw [if_neg (by omega)]); try with_reducible rfl)
        simp only [Act.put, sA]
        refine AtT.tk 13 ?_ 31 ?_ hS ?_
        rotate_left
        · (intro wS hSw; (try dsimp only at hSw); go_simp; (try rw [if_neg (by omega)]); try with_reducible rfl)
        simp only [Act.put, sA]
        refine AtT.tk 14 ?_ 32 ?_ hS ?_
        rotate_left
        · (intro wS hSw; (try dsimp only at hSw); go_simp; (try rw [if_neg (by omega)]); try with_reducible rfl)
        simp only [Act.put, sA]
        refine AtT.tk 15 ?_ 33 ?_ hS ?_
        rotate_left
        · (intro wS hSw; (try dsimp only at hSw); have kr0 := (Mem.row hSw .here).cell; have hd0 := ((h1.ext hSw.below).cellCut hj).2.1; have hd1 := ((h1.ext hSw.below).cellCut hj).2.2; rw [HU.out] at hd0 hd1; dsimp only at hd0 hd1; go_simp; (try rw [if_neg (by omega)]); try with_reducible rfl)
        simp only [Act.put, sA]
        refine AtT.tk 16 ?_ 34 ?_ hS ?_
        rotate_left
        · (intro wS hSw; (try dsimp only at hSw); have kr0 := (Mem.row hSw .here).cell; have hd0 := ((h1.ext hSw.below).cellCut hj).2.1; have hd1 := ((h1.ext hSw.below).cellCut hj).2.2; rw [HU.out] at hd0 hd1; dsimp only at hd0 hd1; go_simp; (try rw [if_neg (by omega)]); try with_reducible rfl)
        simp only [Act.put, sA]
        refine AtT.only (i := 10) (by kernel_rfl) rfl rfl ?_
        intro K hK
        go_simp
        refine (cut2_any ⟨vc, vt⟩ _).mono ?_
        rintro e w4 ⟨rfl, hb⟩
        replace hM := hM.ext hb
        clear hb
        try dsimp only
        refine hK.out _ _ (hM) ?_
        clear hK K hS
        have hS := hM
        refine AtT.only (i := 17) (by kernel_rfl) rfl rfl ?_
        intro K hK
        go_simp
        refine (cut2_any ⟨uc, ut⟩ _).mono ?_
        rintro e w5 ⟨rfl, hb⟩
        replace hM := hM.ext hb
        clear hb
        try dsimp only
        refine hK.out _ _ (hM) ?_
        clear hK K hS
        have hS := hM
        refine AtT.tk 18 ?_ 36 ?_ hS ?_
        rotate_left
        · (intro wS hSw; (try dsimp only at hSw); go_simp; (try rw [if_neg (by omega)]); try with_reducible rfl)
        simp only [Act.put, sA]
        refine AtT.tk 19 ?_ 37 ?_ hS ?_
        rotate_left
        · (intro wS hSw; (try dsimp only at hSw); go_simp; (try rw [if_neg (by omega)]); try with_reducible rfl)
        simp only [Act.put, sA]
        refine AtT.last (by kernel_rfl) rfl (by kernel_rfl) ?_
        intro K hK
        clear hS
        go_simp
        refine hK.out _ _ ?_
        clear hK K
        by_cases hle : vc ≤ uc
        · have HR := Lib.hid (HR1.out hle)
          go_wp2
          go_ret
          exact ⟨rb (by rw [HR.out]; rfl), (by apply Mem.below; (exact memA))⟩
        · have HR := Lib.hid (HR2.out hle)
          go_wp2
          go_roundw
          case rel =>
            refine ⟨j + 1 + 1, by omega, by go_num, HR.out, ?_⟩
            apply Mem.pick (is := [])
            · exact memA
            · decide
            · rfl
          case measure => simp [intOf]; omega
    · obtain rfl : k = n1 := by omega
      have HR := Lib.hid (show (cutTo xs cu cu.length && decide (cu.length ≤ 8)) = decide ((k : Int) ≤ 8) by
        rw [HL.out, HTO.out, Bool.true_and]
        by_cases e : k ≤ 8
        · rw [decide_eq_true e, decide_eq_true (by omega)]
        · rw [decide_eq_false e, decide_eq_false (by omega)])
      go_wp2
      go_ret
      exact ⟨rb HR.out.symm, hM.below⟩

set_option maxRecDepth 100000 in
set_option maxHeartbeats 30000000 in
theorem areCuts_any (W H : Int) (a : Option Addr) (n c : Nat) (xs : List Int) (a1 : Option Addr) (n1 c1 : Nat) (cu : List CutI) (w : World) (h : Ints w a n c xs) (h1 : Rd FCut w a1 n1 c1 cu) :
    Calls Tryz.prog 9 #[.agg #[.int .i64 W, .int .i64 H, .slice a n c], .slice a1 n1 c1] w (fun e w' => e = .returned (.bool (cutsB W H xs cu)) ∧ Below w.heap.size w w') := by
  have hM := Mem.start w
  have hmf : ∀ (fn : Fn) (first cap : Array Value) (w : World), (Instr.makeFunc fn first cap).run Tryz.prog w = .ok (.func fn first cap) w := fun _ _ _ _ => rfl
  have HL := Lib.hid h.len
  cases hg : goodB 20 W H xs
  · have HF := Lib.hid (show cutsB W H xs cu = false by rw [cutsB, hg]; rfl)
    go_enter Tryz.func9, Tryz.ntmps9
    go_wp2_with fail
    apply Mem.atA
    · exact memA
    clear hM
    intro wst hM
    (try simp only [World.size_alloc, World.size_setCell, World.heap_drewN, heapDrew, Nat.add_assoc, Nat.reduceAdd, sA, List.cons_append, List.nil_append] at hM)
    apply Calls.mono
    · (apply IsTerrain_any W H a n c xs) <;> (first | (show (_ : Prop); with_reducible assumption) | (apply Hid.out; with_reducible assumption) | (apply Mem.intsR hM; (repeat' (first | with_reducible exact In.here | with_reducible apply In.there)); done) | (apply Ints.ext (hb := hM.below); with_reducible assumption) | (apply Rd.ext (hb := hM.below); with_reducible assumption) | (apply Mem.row hM; (repeat' (first | with_reducible exact In.here | with_reducible apply In.there)); done) | (apply Row.ext (hb := hM.below); with_reducible assumption) | exact ⟨by omega, by omega⟩ | omega | (trace_state; fail))
    rw [hg]
    rintro e wc5 ⟨rfl, hb⟩
    replace hM := hM.ext hb
    clear hb
    go_wp2
    go_ret
    exact ⟨rb HF.out.symm, (by apply Mem.below; (exact memA))⟩
  have hn25 : n ≤ 25 := by rw [← HL.out]; exact goodB_25 hg
  have HX := Lib.hid (goodB_nn hg)
  have HF := Lib.hid (show cutsB W H xs cu = (cutTo xs cu cu.length && decide (cu.length ≤ 8)) by rw [cutsB, hg, Bool.true_and])
  have HG := Lib.hid hg; clear hg
  go_enter Tryz.func9, Tryz.ntmps9
  go_wp2_with fail
  apply Mem.atA
  · exact memA
  clear hM
  intro wst hM
  (try simp only [World.size_alloc, World.size_setCell, World.heap_drewN, heapDrew, Nat.add_assoc, Nat.reduceAdd, sA, List.cons_append, List.nil_append] at hM)
  apply Calls.mono
  · (apply IsTerrain_any W H a n c xs) <;> (first | (show (_ : Prop); with_reducible assumption) | (apply Hid.out; with_reducible assumption) | (apply Mem.intsR hM; (repeat' (first | with_reducible exact In.here | with_reducible apply In.there)); done) | (apply Ints.ext (hb := hM.below); with_reducible assumption) | (apply Rd.ext (hb := hM.below); with_reducible assumption) | (apply Mem.row hM; (repeat' (first | with_reducible exact In.here | with_reducible apply In.there)); done) | (apply Row.ext (hb := hM.below); with_reducible assumption) | exact ⟨by omega, by omega⟩ | omega | (trace_state; fail))
  rw [HG.out]
  rintro e wc6 ⟨rfl, hb⟩
  replace hM := hM.ext hb
  clear hb
  obtain ⟨k0, f0, l0⟩ := hM.row .here
  go_wp2_with fail
  clear k0 f0 l0
  apply Mem.atA
  · exact memA
  clear hM
  intro wst hM
  (try simp only [World.size_alloc, World.size_setCell, World.heap_drewN, heapDrew, Nat.add_assoc, Nat.reduceAdd, sA, List.cons_append, List.nil_append] at hM)
  (first | refine (listed_any W H a n c xs a1 n1 c1 cu w.heap.size _ (h.ext hM.below) (h1.ext hM.below) (hM.row .here) hn25 HX.out).mono ?_)
  rintro e wc7 ⟨rfl, hb⟩
  replace hM := hM.ext hb
  clear hb
  go_wp2
  go_ret
  exact ⟨rb HF.out.symm, (by apply Mem.below; (exact memA))⟩

end Go.Proofs.YtojfbcgfeojdfaaGreat
