/-
  Regions: an operation that waits, by a path.
-/
import Derived.Test.YtojfbcgfeojdfaaGreatKCells
import Derived.Test.YtojfbcgfeojdfaaGreatKReg
/-
  Holding: the program's and the reference's test whether cuts hold.
-/
namespace Go.Proofs.YtojfbcgfeojdfaaGreat
set_option linter.unusedSimpArgs false
set_option linter.unusedVariables false
open Go.RowKit

theorem hold1_any (x : Int) (w : World) : Calls Tryz.prog 77 #[.int .i64 x] w fun e w' => e = .returned (.bool (posI x)) ∧ w = w' := by
  cases hp : posI x
  · have h0 : ¬ 0 < x := by simpa [posI] using hp
    go_enter Tryz.func77, Tryz.ntmps77
    go_wp2
    go_ret
    exact ⟨rb (by first | (simp; done) | simpa using h0), rfl⟩
  · have h0 : 0 < x := by simpa [posI] using hp
    go_enter Tryz.func77, Tryz.ntmps77
    go_wp2
    go_ret
    exact ⟨rb (by first | (simp; done) | simpa using h0), rfl⟩

set_option maxRecDepth 100000 in
set_option maxHeartbeats 30000000 in
theorem hold_any (W Hn : Nat) (a : Option Addr) (n c : Nat) (xs : List Int) (a1 : Option Addr) (n1 c1 : Nat) (ph : List PhaseI) (a2 : Option Addr) (n2 c2 : Nat) (ss : List Int) (start : Int) (a4 : Option Addr) (n4 c4 : Nat) (cu : List CutI) (a5 : Option Addr) (n5 c5 : Nat) (ts : List Int) (w : World) (h : Ints w a n c xs) (h1 : Rd FPhase w a1 n1 c1 ph) (h2 : Ints w a2 n2 c2 ss) (h4 : Rd FCut w a4 n4 c4 cu) (h5 : Ints w a5 n5 c5 ts) (hnp : 0 < n) (hn25 : n ≤ 25) (hW : 1 ≤ W ∧ W ≤ 5) (hx : ∀ x ∈ xs, 0 ≤ x ∧ x ≤ 20) (hp : phasesB ph = true) (hst : 0 ≤ start ∧ start ≤ 1000) (hs : setB n ss = true) (hc : cutTo xs cu cu.length = true) :
    Calls Tryz.prog 33 #[.agg #[.int .i64 W, .int .i64 Hn, .slice a n c], .slice a1 n1 c1, .slice a2 n2 c2, .int .i64 start, .slice a4 n4 c4, .slice a5 n5 c5] w (fun e w' => e = .returned (.bool (hldB W n xs ph ss start cu ts)) ∧ Below w.heap.size w w') := by
  have hM := Mem.start w
  have HX := Lib.hid hx; have HSB := Lib.hid hs; have HP := Lib.hid hp; have HC := Lib.hid hc
  have HSC := Lib.hid (show setB n (cu.map (fun c => c.cell)) = true by rw [← h.len]; exact setB_cuts hc)
  have HXN := Lib.hid (show ∀ x ∈ xs, 0 ≤ x from fun x hm => (hx x hm).1)
  have HWF := Lib.hid h4.wf
  obtain ⟨sl, hsl⟩ : ∃ l, cu.map (slk (arrT W n xs ss ph start)) = l := ⟨_, rfl⟩
  obtain ⟨q, hq⟩ : ∃ q, sl.all posI = q := ⟨_, rfl⟩
  have HF := Lib.hid (show hldB W n xs ph ss start cu ts = (q && lineB W n xs ss ts (cu.map (fun c => c.cell))) by rw [hldB, hsl, hq])
  have HSL := Lib.hid hsl; have HQ := Lib.hid hq
  clear hx hs hp hc hsl hq
  go_enter Tryz.func33, Tryz.ntmps33
  go_wp2_with fail
  apply Mem.atA
  · exact memA
  clear hM
  intro wst hM
  (try simp only [World.size_alloc, World.size_setCell, World.heap_drewN, heapDrew, Nat.add_assoc, Nat.reduceAdd, sA, List.cons_append, List.nil_append] at hM)
  apply Calls.mono
  · (apply slacks_any) <;> (first | (show (_ : Prop); with_reducible assumption) | (apply Hid.out; with_reducible assumption) | (apply Mem.intsR hM; (repeat' (first | with_reducible exact In.here | with_reducible apply In.there)); done) | (apply Ints.ext (hb := hM.below); with_reducible assumption) | (apply Rd.ext (hb := hM.below); with_reducible assumption) | (apply Mem.row hM; (repeat' (first | with_reducible exact In.here | with_reducible apply In.there)); done) | (apply Row.ext (hb := hM.below); with_reducible assumption) | exact ⟨by omega, by omega⟩ | omega | (trace_state; fail))
  rintro e wc1 ⟨a6, m6, c6, rfl, hm⟩
  replace hM := hM.join hm
  clear hm
  (try simp only [World.size_alloc, World.size_setCell, World.heap_drewN, heapDrew, Nat.add_assoc, Nat.reduceAdd, sA, List.cons_append, List.nil_append] at hM)
  rw [HSL.out] at hM
  go_wp2_with fail
  apply Mem.atA
  · exact memA
  clear hM
  intro wst hM
  (try simp only [World.size_alloc, World.size_setCell, World.heap_drewN, heapDrew, Nat.add_assoc, Nat.reduceAdd, sA, List.cons_append, List.nil_append] at hM)
  (first | refine (all_any _ _ posI a6 m6 c6 sl _ (hM.ints .here).ints (enters Tryz.func77 (by kernel_rfl) rfl) (fun x _ w' _ => (hold1_any x w').mono (by rintro e w2 ⟨rfl, rfl⟩; exact ⟨rfl, Below.refl _ _⟩))).mono ?_)
  rw [HQ.out]
  rintro e wc2 ⟨rfl, hb⟩
  replace hM := hM.ext hb
  clear hb
  go_wp2_with fail
  apply Mem.atWpA
  · exact memA
  clear hM
  intro wst hM
  (try simp only [World.size_alloc, World.size_setCell, World.heap_drewN, heapDrew, Nat.add_assoc, Nat.reduceAdd, sA, List.cons_append, List.nil_append] at hM)
  cases q
  · as_aux_lemma =>
      refine AtT.startA hM hM 9 (by kernel_rfl) ?_
      clear hM
      intro wd hM
      have hS := hM
      refine AtT.tk 0 ?_ 21 ?_ hS ?_
      rotate_left
      · (intro wS hSw; (try dsimp only at hSw); go_simp; (try rw [if_neg (by omega)]); try with_reducible rfl)
      simp only [Act.put, sA]
      refine AtT.tk 1 ?_ 22 ?_ hS ?_
      rotate_left
      · (intro wS hSw; (try dsimp only at hSw); go_simp; (try rw [if_neg (by omega)]); try with_reducible rfl)
      simp only [Act.put, sA]
      refine AtT.tn 2 23 hS ?_
      simp only [Act.put, sA]
      refine AtT.tn 3 24 hS ?_
      simp only [Act.put, sA]
      refine AtT.tn 4 25 hS ?_
      simp only [Act.put, sA]
      refine AtT.tn 5 26 hS ?_
      simp only [Act.put, sA]
      refine AtT.tn 6 27 hS ?_
      simp only [Act.put, sA]
      refine AtT.tn 7 28 hS ?_
      simp only [Act.put, sA]
      refine AtT.tk 8 ?_ 29 ?_ hS ?_
      rotate_left
      · (intro wS hSw; (try dsimp only at hSw); go_simp; (try rw [if_neg (by omega)]); try with_reducible rfl)
      simp only [Act.put, sA]
      refine AtT.last (by kernel_rfl) rfl (by kernel_rfl) ?_
      intro K hK
      clear hS
      go_simp
      refine hK.out _ _ ?_
      clear hK K
      go_wp2
      go_ret
      exact ⟨rb (by rw [HF.out]; rfl), (by apply Mem.below; (exact memA))⟩
  · as_aux_lemma =>
      refine AtT.startA hM hM 9 (by kernel_rfl) ?_
      clear hM
      intro wd hM
      have hS := hM
      refine AtT.tk 0 ?_ 21 ?_ hS ?_
      rotate_left
      · (intro wS hSw; (try dsimp only at hSw); go_simp; (try rw [if_neg (by omega)]); try with_reducible rfl)
      simp only [Act.put, sA]
      refine AtT.tk 1 ?_ 22 ?_ hS ?_
      rotate_left
      · (intro wS hSw; (try dsimp only at hSw); go_simp; (try rw [if_neg (by omega)]); try with_reducible rfl)
      simp only [Act.put, sA]
      refine AtT.tk 2 ?_ 23 ?_ hS ?_
      rotate_left
      · (intro wS hSw; (try dsimp only at hSw); have kr0 := (Mem.row hSw (.there .here)).cell; go_simp; (try rw [if_neg (by omega)]); try with_reducible rfl)
      simp only [Act.put, sA]
      refine AtT.tk 3 ?_ 24 ?_ hS ?_
      rotate_left
      · (intro wS hSw; (try dsimp only at hSw); go_simp; (try rw [if_neg (by omega)]); try with_reducible rfl)
      simp only [Act.put, sA]
      refine AtT.tk 4 ?_ 25 ?_ hS ?_
      rotate_left
      · (intro wS hSw; (try dsimp only at hSw); go_simp; (try rw [if_neg (by omega)]); try with_reducible rfl)
      simp only [Act.put, sA]
      refine AtT.tk 5 ?_ 26 ?_ hS ?_
      rotate_left
      · (intro wS hSw; (try dsimp only at hSw); go_simp; (try rw [if_neg (by omega)]); try with_reducible rfl)
      simp only [Act.put, sA]
      refine AtT.only (i := 6) (by kernel_rfl) rfl rfl ?_
      intro K hK
      go_simp
      refine (cutCells_any a4 n4 c4 cu _ (h4.ext hM.below) HWF.out).mono ?_
      rintro e w3 ⟨a7, m7, c7, rfl, hm⟩
      replace hM := hM.join hm
      clear hm
      (try simp only [World.size_alloc, World.size_setCell, World.heap_drewN, heapDrew, Nat.add_assoc, Nat.reduceAdd, sA, List.cons_append, List.nil_append] at hM)
      try dsimp only
      refine hK.out _ _ (hM.tail) ?_
      clear hK K hS
      have hS := hM.tail
      refine AtT.only (i := 7) (by kernel_rfl) rfl rfl ?_
      intro K hK
      go_simp
      refine (isLineX_any W Hn a n c xs a2 n2 c2 ss a5 n5 c5 ts a7 m7 c7 _ _ (h.ext hM.below) (h2.ext hM.below) (h5.ext hM.below) (hM.ints .here).ints hnp hn25 hW HSB.out HSC.out HXN.out).mono ?_
      rintro e w4 ⟨rfl, hb⟩
      replace hM := hM.ext hb
      clear hb
      try dsimp only
      refine hK.out _ _ (hM.tail) ?_
      clear hK K hS
      have hS := hM.tail
      refine AtT.tk 8 ?_ 29 ?_ hS ?_
      rotate_left
      · (intro wS hSw; (try dsimp only at hSw); go_simp; (try rw [if_neg (by omega)]); try with_reducible rfl)
      simp only [Act.put, sA]
      refine AtT.last (by kernel_rfl) rfl (by kernel_rfl) ?_
      intro K hK
      clear hS
      go_simp
      refine hK.out _ _ ?_
      clear hK K
      go_wp2
      go_ret
      exact ⟨rb (by rw [HF.out]; simp), (by apply Mem.below; (exact memA))⟩

set_option maxRecDepth 100000 in
set_option maxHeartbeats 30000000 in
theorem l25Hold_any (W Hn : Nat) (a : Option Addr) (n c : Nat) (xs : List Int) (a1 : Option Addr) (n1 c1 : Nat) (ph : List PhaseI) (a2 : Option Addr) (n2 c2 : Nat) (ss : List Int) (start : Int) (a4 : Option Addr) (n4 c4 : Nat) (cu : List CutI) (a5 : Option Addr) (n5 c5 : Nat) (ts : List Int) (w : World) (h : Ints w a n c xs) (h1 : Rd FPhase w a1 n1 c1 ph) (h2 : Ints w a2 n2 c2 ss) (h4 : Rd FCut w a4 n4 c4 cu) (h5 : Ints w a5 n5 c5 ts) (hnp : 0 < n) (hn25 : n ≤ 25) (hW : 1 ≤ W ∧ W ≤ 5) (hx : ∀ x ∈ xs, 0 ≤ x ∧ x ≤ 20) (hp : phasesB ph = true) (hst : 0 ≤ start ∧ start ≤ 1000) (hs : setB n ss = true) (hc : cutTo xs cu cu.length = true) :
    Calls Tryz.prog 37 #[.agg #[.int .i64 W, .int .i64 Hn, .slice a n c], .slice a1 n1 c1, .slice a2 n2 c2, .int .i64 start, .slice a4 n4 c4, .slice a5 n5 c5] w (fun e w' => e = .returned (.bool (hldB W n xs ph ss start cu ts)) ∧ Below w.heap.size w w') := by
  have hM := Mem.start w
  have HX := Lib.hid hx; have HSB := Lib.hid hs; have HP := Lib.hid hp; have HC := Lib.hid hc
  have HSC := Lib.hid (show setB n (cu.map (fun c => c.cell)) = true by rw [← h.len]; exact setB_cuts hc)
  have HXN := Lib.hid (show ∀ x ∈ xs, 0 ≤ x from fun x hm => (hx x hm).1)
  have HWF := Lib.hid h4.wf
  obtain ⟨sl, hsl⟩ : ∃ l, cu.map (slk (arrT W n xs ss ph start)) = l := ⟨_, rfl⟩
  have hsn : sl.length = n4 := by rw [← hsl, List.length_map, h4.len]
  have hrm := h4.nroom
  have HFT := Lib.hid (fun (hh : sl.all posI = true) => show hldB W n xs ph ss start cu ts = lineB W n xs ss ts (cu.map (fun c => c.cell)) by rw [hldB, hsl, hh, Bool.true_and])
  have HFF := Lib.hid (fun (hh : sl.all posI = false) => show hldB W n xs ph ss start cu ts = false by rw [hldB, hsl, hh, Bool.false_and])
  have HSL := Lib.hid hsl; have HSN := Lib.hid hsn
  clear hx hs hp hc hsl hsn
  go_enter Tryz.func37, Tryz.ntmps37
  go_wp2_with fail
  apply Mem.atA
  · exact memA
  clear hM
  intro wst hM
  (try simp only [World.size_alloc, World.size_setCell, World.heap_drewN, heapDrew, Nat.add_assoc, Nat.reduceAdd, sA, List.cons_append, List.nil_append] at hM)
  apply Calls.mono
  · (apply l25Slacks_any) <;> (first | (show (_ : Prop); with_reducible assumption) | (apply Hid.out; with_reducible assumption) | (apply Mem.intsR hM; (repeat' (first | with_reducible exact In.here | with_reducible apply In.there)); done) | (apply Ints.ext (hb := hM.below); with_reducible assumption) | (apply Rd.ext (hb := hM.below); with_reducible assumption) | (apply Mem.row hM; (repeat' (first | with_reducible exact In.here | with_reducible apply In.there)); done) | (apply Row.ext (hb := hM.below); with_reducible assumption) | exact ⟨by omega, by omega⟩ | omega | (trace_state; fail))
  rintro e wc3 ⟨a6, m6, c6, rfl, hm⟩
  replace hM := hM.join hm
  clear hm
  (try simp only [World.size_alloc, World.size_setCell, World.heap_drewN, heapDrew, Nat.add_assoc, Nat.reduceAdd, sA, List.cons_append, List.nil_append] at hM)
  rw [HSL.out] at hM
  obtain rfl : n4 = m6 := by rw [← HSN.out]; exact (hM.ints .here).len
  go_wp2_with fail
  apply Mem.atWpA
  · exact memA
  clear hM
  intro wst hM
  (try simp only [World.size_alloc, World.size_setCell, World.heap_drewN, heapDrew, Nat.add_assoc, Nat.reduceAdd, sA, List.cons_append, List.nil_append] at hM)
  go_loopw [14] (fun s14 wr => ∃ k : Nat, k ≤ n4 ∧ s14 = .int .i64 k ∧ (sl.take k).all posI = true ∧ Mem w.heap.size w wr [intE a6 n4 c6 sl, rowE w.heap.size 26 #[.int .i64 W, .int .i64 Hn, .slice a n c]]) (fun s14 _ => n4 - (intOf s14).toNat)
  case atStart => exact ⟨0, Nat.zero_le _, rfl, by simp, hM⟩
  case round =>
    clear hM
    obtain ⟨k, hk, rfl, hall, hM⟩ := hrel
    have HA := Lib.hid hall; clear hall
    by_cases hlt : k < n4
    · obtain ⟨g, rfl, -⟩ := (hM.ints .here).head (by omega)
      have hck := (hM.ints .here).cellAt hlt
      have hkl : k < sl.length := by rw [HSN.out]; exact hlt
      have hts := all_take_succ (p := posI) hkl
      have haf := all_false_of (p := posI) hkl
      obtain ⟨v, hv⟩ : ∃ v, sl.getD k 0 = v := ⟨_, rfl⟩
      rw [hv] at hts haf hck
      have HTS := Lib.hid hts; have HAF := Lib.hid haf
      clear hts haf hv hkl
      have i0 : (0 : Int) ≤ (k : Int) := by omega
      have i1 : (k : Int) < (n4 : Int) := by omega
      by_cases hv0 : v ≤ 0
      · have HR := Lib.hid (HFF.out (HAF.out (by simp [posI]; omega)))
        go_wp2
        go_ret
        exact ⟨rb HR.out.symm, (by apply Mem.below; (exact memA))⟩
      · have HR := Lib.hid (show (sl.take (k + 1)).all posI = true by rw [HTS.out, HA.out]; simp [posI]; omega)
        go_wp2
        go_roundw
        case rel => exact ⟨k + 1, by omega, by go_num, HR.out, by (exact memA)⟩
        case measure => simp [intOf]; omega
    · obtain rfl : k = n4 := by omega
      have hall := HA.out
      rw [List.take_of_length_le (by rw [HSN.out]; exact Nat.le_refl _)] at hall
      have HF := Lib.hid (HFT.out hall); clear hall
      go_wp2_with fail
      apply Mem.atWpA
      · exact memA
      clear hM
      intro wst hM
      (try simp only [World.size_alloc, World.size_setCell, World.heap_drewN, heapDrew, Nat.add_assoc, Nat.reduceAdd, sA, List.cons_append, List.nil_append] at hM)
      as_aux_lemma =>
        refine AtT.startA hM hM 6 (by kernel_rfl) ?_
        clear hM
        intro wd hM
        have hS := hM
        refine AtT.tk 0 ?_ 32 ?_ hS ?_
        rotate_left
        · (intro wS hSw; (try dsimp only at hSw); have kr0 := (Mem.row hSw (.there .here)).cell; go_simp; (try rw [if_neg (by omega)]); try with_reducible rfl)
        simp only [Act.put, sA]
        refine AtT.tk 1 ?_ 33 ?_ hS ?_
        rotate_left
        · (intro wS hSw; (try dsimp only at hSw); go_simp; (try rw [if_neg (by omega)]); try with_reducible rfl)
        simp only [Act.put, sA]
        refine AtT.tk 2 ?_ 34 ?_ hS ?_
        rotate_left
        · (intro wS hSw; (try dsimp only at hSw); go_simp; (try rw [if_neg (by omega)]); try with_reducible rfl)
        simp only [Act.put, sA]
        refine AtT.tk 3 ?_ 35 ?_ hS ?_
        rotate_left
        · (intro wS hSw; (try dsimp only at hSw); go_simp; (try rw [if_neg (by omega)]); try with_reducible rfl)
        simp only [Act.put, sA]
        refine AtT.only (i := 4) (by kernel_rfl) rfl rfl ?_
        intro K hK
        go_simp
        refine (l25Cells_any a4 _ c4 cu _ (h4.ext hM.below) HWF.out).mono ?_
        rintro e w3 ⟨a7, m7, c7, rfl, hm⟩
        replace hM := hM.join hm
        clear hm
        (try simp only [World.size_alloc, World.size_setCell, World.heap_drewN, heapDrew, Nat.add_assoc, Nat.reduceAdd, sA, List.cons_append, List.nil_append] at hM)
        try dsimp only
        refine hK.out _ _ (hM.tail) ?_
        clear hK K hS
        have hS := hM.tail
        refine AtT.only (i := 5) (by kernel_rfl) rfl rfl ?_
        intro K hK
        go_simp
        refine (l9Line_any W Hn a n c xs a2 n2 c2 ss a5 n5 c5 ts a7 m7 c7 _ _ (h.ext hM.below) (h2.ext hM.below) (h5.ext hM.below) (hM.ints .here).ints hnp hn25 hW HSB.out HSC.out HXN.out).mono ?_
        rintro e w4 ⟨rfl, hb⟩
        replace hM := hM.ext hb
        clear hb
        try dsimp only
        refine hK.out _ _ (hM.tail) ?_
        clear hK K hS
        have hS := hM.tail
        refine AtT.last (by kernel_rfl) rfl (by kernel_rfl) ?_
        intro K hK
        clear hS
        go_simp
        refine hK.out _ _ ?_
        clear hK K
        go_wp2
        go_ret
        exact ⟨rb (by rw [HF.out]), (by apply Mem.below; (exact memA))⟩

end Go.Proofs.YtojfbcgfeojdfaaGreat

/-
  Regions: an operation that waits, by a path.
-/
namespace Go.Proofs.YtojfbcgfeojdfaaGreat
set_option linter.unusedSimpArgs false
set_option linter.unusedVariables false
open Go.RowKit

section
variable {ops : Array Oper} {md : Region.Mode}
/-- t waits for the first, that for the next .. the last for i -/
def pathB (md : Region.Mode) (ops : Array Oper) (i : Nat) : List Nat → Nat → Bool
  | [], t => match ops[t]? with
    | some o => o.after.any fun e => Region.binds md e && e.on == i
    | none => false
  | j :: js, t => (match ops[t]? with
    | some o => o.after.any fun e => Region.binds md e && e.on == j
    | none => false) && pathB md ops i js j
theorem anc_path {i : Nat} : ∀ (js : List Nat) (t f : Nat), pathB md ops i js t = true → Nat.blt js.length f = true → anc md ops i f t = true
  | [], t, 0, _, hl => by simp at hl
  | [], t, f + 1, h, _ => by
    unfold pathB at h
    unfold anc
    cases ho : ops[t]? with
    | none => rw [ho] at h; cases h
    | some o =>
      rw [ho] at h
      obtain ⟨e, he, hb⟩ := Array.any_eq_true'.1 h
      simp only [Bool.and_eq_true, beq_iff_eq] at hb
      exact Array.any_eq_true'.2 ⟨e, he, by simp [hb.1, hb.2]⟩
  | j :: js, t, 0, _, hl => by simp at hl
  | j :: js, t, f + 1, h, hl => by
    unfold pathB at h
    unfold anc
    cases ho : ops[t]? with
    | none => rw [ho] at h; cases h
    | some o =>
      rw [ho] at h
      simp only [Bool.and_eq_true] at h
      obtain ⟨e, he, hb⟩ := Array.any_eq_true'.1 h.1
      simp only [Bool.and_eq_true, beq_iff_eq] at hb
      have hl' : Nat.blt js.length f = true := by
        have := Nat.le_of_ble_eq_true hl
        simp only [List.length_cons] at this
        exact Nat.ble_eq_true_of_le (by omega)
      exact Array.any_eq_true'.2 ⟨e, he, by simp [hb.1, hb.2, anc_path js j f h.2 hl']⟩
end
section
variable {P : Program} {ops : Array Oper} {Q : Exit → Act → World → Prop} {md : Region.Mode} {S : World → Prop} {t : Nat}
theorem AtT.tp (i : Nat) (v : Value) (d : Nat) (js : List Nat) {oi : Oper} {f : Nat} {l : Array Bool} {a : Act} {w : World} (hy : ∀ w, S w → (execOp a.eval oi).run P w = .ok (.value v) w) (hS : S w) (h : AtT P md ops Q S t f (l.setIfInBounds i true) (a.put (some d) v) w) (hi : ops[i]? = some oi := by exact rfl) (hd : oi.dst = some d := by exact rfl) (hs : Region.noSelect ops = true := by kernel_rfl) (hf : Region.free md ops l i = true := by kernel_rfl) (hr : (Region.ready md ops l).contains i = true := by kernel_rfl) (h1 : pathB md ops i js t = true := by kernel_rfl) (h2 : Nat.blt js.length ops.size = true := by kernel_rfl) (hQ : ∀ c a w, Q (.panic c) (a.put (some d) v) w → Q (.panic c) a w := by exact (fun _ _ _ h => h)) (hw : Region.wanted oi (yielded ops a.tmps) = true := by kernel_rfl) : AtT P md ops Q S t (f + 1) l a w :=
  AtT.taked (some d) hi hd hs hf hr (anc_path js _ _ h1 h2) hQ (Or.inl ⟨hw, hy⟩) hS h
theorem AtT.tq (i : Nat) (d : Nat) (js : List Nat) {oi : Oper} {f : Nat} {l : Array Bool} {a : Act} {w : World} (hS : S w) (h : AtT P md ops Q S t f (l.setIfInBounds i true) (a.put (some d) undef) w) (hi : ops[i]? = some oi := by exact rfl) (hd : oi.dst = some d := by exact rfl) (hs : Region.noSelect ops = true := by kernel_rfl) (hf : Region.free md ops l i = true := by kernel_rfl) (hr : (Region.ready md ops l).contains i = true := by kernel_rfl) (h1 : pathB md ops i js t = true := by kernel_rfl) (h2 : Nat.blt js.length ops.size = true := by kernel_rfl) (hQ : ∀ c a w, Q (.panic c) (a.put (some d) undef) w → Q (.panic c) a w := by exact (fun _ _ _ h => h)) (hw : Region.wanted oi (yielded ops a.tmps) = false := by kernel_rfl) : AtT P md ops Q S t (f + 1) l a w :=
  AtT.taked (some d) hi hd hs hf hr (anc_path js _ _ h1 h2) hQ (Or.inr ⟨hw, rfl⟩) hS h
end
end Go.Proofs.YtojfbcgfeojdfaaGreat
