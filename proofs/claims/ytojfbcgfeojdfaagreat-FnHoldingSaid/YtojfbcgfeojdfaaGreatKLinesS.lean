/-
  Lines of the reference: l9Meet, l9Asked, l9Line; both IsLine.
-/
import Derived.Test.YtojfbcgfeojdfaaGreatKLines
/-
  Lines of the reference: l9Meet, l9Asked, l9Line; both IsLine.
-/
namespace Go.Proofs.YtojfbcgfeojdfaaGreat
set_option linter.unusedSimpArgs false
set_option linter.unusedVariables false
open Go.RowKit

theorem meet_comm (rs ts : List Int) : rs.any (fun x => hasI ts x) = !(ts.all fun c => !hasI rs c) := by
  rw [Bool.eq_iff_iff, List.any_eq_true, Bool.not_eq_true', ← Bool.not_eq_true, List.all_eq_true]
  constructor
  · rintro ⟨x, hx, h⟩ hall
    have := hall x (hasI_iff.1 h)
    rw [hasI_iff.2 hx] at this
    simp at this
  · intro h
    apply Classical.byContradiction
    intro hn
    apply h
    intro c hc
    cases e : hasI rs c
    · rfl
    · exact absurd ⟨c, hasI_iff.1 e, hasI_iff.2 hc⟩ hn
theorem hasI_cells {n : Nat} {p : Nat → Bool} {m : Nat} (h : m < n) : hasI (cellsN n p) m = p m := by
  rw [Bool.eq_iff_iff, hasI_iff, cellsN_mem]
  constructor
  · rintro ⟨c, e, _, h2⟩
    obtain rfl : m = c := by omega
    exact h2
  · exact fun h2 => ⟨m, rfl, h, h2⟩
theorem clrL_mem {xs cells : List Int} : ∀ x ∈ clrL xs cells, x = 0 ∨ x ∈ xs := by
  unfold clrL
  induction cells generalizing xs with
  | nil => exact fun x hx => .inr hx
  | cons c cs ih =>
    intro x hx
    rw [List.foldl_cons] at hx
    rcases ih x hx with h | h
    · exact .inl h
    · rcases List.mem_or_eq_of_mem_set h with h | h
      · exact .inr h
      · exact .inl h

set_option maxRecDepth 100000 in
set_option maxHeartbeats 400000 in
theorem l9Meet_any (a : Option Addr) (n c : Nat) (xs : List Int) (a2 : Option Addr) (n2 c2 : Nat) (ys : List Int) (w : World) (h : Ints w a n c xs) (h2 : Ints w a2 n2 c2 ys) :
    Calls Tryz.prog 85 #[.slice a n c, .slice a2 n2 c2] w fun e w' => e = .returned (.bool (xs.any fun x => hasI ys x)) ∧ w = w' := by
  have hn := h.cap
  have hc := h.room
  have HL := Lib.hid h.len
  go_enter Tryz.func85, Tryz.ntmps85
  go_wp2
  go_loop [5] (fun i => ∃ k : Nat, k ≤ n ∧ i = .int .i64 k ∧ (xs.take k).any (fun x => hasI ys x) = false) (fun i => n - (intOf i).toNat)
  case atStart => exact ⟨0, Nat.zero_le _, rfl, by simp⟩
  case round =>
    obtain ⟨k, hk, rfl, hall⟩ := hrel
    have HA := Lib.hid hall; clear hall
    by_cases hlt : k < n
    · obtain ⟨b, off, rfl, hb, hcell⟩ := h.at' _ hlt
      have hck := hcell k hlt
      clear hcell
      have hkx : k < xs.length := by rw [HL.out]; exact hlt
      have hmem := getD_mem hkx
      obtain ⟨y, hy⟩ : ∃ y, xs.getD k 0 = y := ⟨_, rfl⟩
      rw [hy] at hck hmem
      have HX := Lib.hid hy; clear hy
      have HS := Lib.hid (any_take_succ (p := fun x => hasI ys x) hkx)
      have HMEM := Lib.hid hmem; clear hmem hkx
      go_wp2_with fail
      refine (l1Has_any a2 n2 c2 ys y _ h2).mono ?_
      rintro e w1 ⟨rfl, rfl⟩
      cases he : hasI ys y
      · go_wp2
        go_round
        case rel => exact ⟨k + 1, by omega, by go_num, by rw [HS.out, HA.out, HX.out, he]; rfl⟩
        case measure => simp [intOf]; omega
      · go_wp2
        go_ret
        exact ⟨rb (List.any_eq_true.2 ⟨y, HMEM.out, he⟩).symm, rfl⟩
    · go_wp2
      go_ret
      obtain rfl : k = n := by omega
      exact ⟨rb (by rw [← HA.out, List.take_of_length_le (by rw [HL.out]; exact Nat.le_refl _)]), rfl⟩

set_option maxRecDepth 100000 in
set_option maxHeartbeats 1000000 in
theorem l9Asked_any (W H : Int) (a : Option Addr) (n c : Nat) (xs : List Int) (a1 : Option Addr) (n1 c1 : Nat) (ss : List Int) (a2 : Option Addr) (n2 c2 : Nat) (ts : List Int) (w : World) (h : Ints w a n c xs) (h1 : Ints w a1 n1 c1 ss) (h2 : Ints w a2 n2 c2 ts) :
    Calls Tryz.prog 36 #[.agg #[.int .i64 W, .int .i64 H, .slice a n c], .slice a1 n1 c1, .slice a2 n2 c2] w fun e w' => e = .returned (.bool (caseB W H xs n ss ts)) ∧ Below w.heap.size w w' := by
  have hM := Mem.start w
  obtain ⟨q1, hq1⟩ : ∃ q, (goodB 20 W H xs && setB n ss) = q := ⟨_, rfl⟩
  obtain ⟨q2, hq2⟩ : ∃ q, (goodB 20 W H xs && setB n ts) = q := ⟨_, rfl⟩
  have HF := Lib.hid (show caseB W H xs n ss ts = (q1 && q2 && !(ss.any fun x => hasI ts x)) by
    rw [← hq1, ← hq2, caseB]
    have e : ss.all (fun c => !hasI ts c) = !(ss.any fun x => hasI ts x) := by
      induction ss with
      | nil => rfl
      | cons s ss ih => simp only [List.all_cons, List.any_cons, Bool.not_or]; rw [List.not_any_eq_all_not]
    rw [e]
    cases goodB 20 W H xs <;> cases setB n ss <;> cases setB n ts <;> rfl)
  have HQ1 := Lib.hid hq1; have HQ2 := Lib.hid hq2
  clear hq1 hq2
  go_enter Tryz.func36, Tryz.ntmps36
  go_wp2_with fail
  apply Mem.at
  · exact memA
  clear hM
  intro hM
  (try simp only [World.size_alloc, World.size_setCell, World.heap_drewN, heapDrew, Nat.add_assoc, Nat.reduceAdd, sA, List.cons_append, List.nil_append] at hM)
  refine (l2Set_any W H a n c xs a1 n1 c1 ss _ (h.ext hM.below) (h1.ext hM.below)).mono ?_
  rw [HQ1.out]
  rintro e w1 ⟨rfl, hb⟩
  replace hM := hM.ext hb
  clear hb
  cases q1
  · go_wp2
    go_ret
    exact ⟨rb (by rw [HF.out]; rfl), (by apply Mem.below; (exact memA))⟩
  obtain ⟨k0, f0, l0⟩ := hM.row .here
  go_wp2_with fail
  clear k0 f0 l0
  apply Mem.at
  · exact memA
  clear hM
  intro hM
  (try simp only [World.size_alloc, World.size_setCell, World.heap_drewN, heapDrew, Nat.add_assoc, Nat.reduceAdd, sA, List.cons_append, List.nil_append] at hM)
  refine (l2Set_any W H a n c xs a2 n2 c2 ts _ (h.ext hM.below) (h2.ext hM.below)).mono ?_
  rw [HQ2.out]
  rintro e w2 ⟨rfl, hb⟩
  replace hM := hM.ext hb
  clear hb
  cases q2
  · go_wp2
    go_ret
    exact ⟨rb (by rw [HF.out]; rfl), (by apply Mem.below; (exact memA))⟩
  obtain ⟨k0, f0, l0⟩ := hM.row .here
  go_wp2_with fail
  clear k0 f0 l0
  apply Mem.at
  · exact memA
  clear hM
  intro hM
  (try simp only [World.size_alloc, World.size_setCell, World.heap_drewN, heapDrew, Nat.add_assoc, Nat.reduceAdd, sA, List.cons_append, List.nil_append] at hM)
  refine (l9Meet_any a1 n1 c1 ss a2 n2 c2 ts _ (h1.ext hM.below) (h2.ext hM.below)).mono ?_
  rintro e w3 ⟨rfl, rfl⟩
  go_wp2
  go_ret
  exact ⟨rb (by rw [HF.out]; rfl), (by apply Mem.below; (exact memA))⟩

set_option maxRecDepth 100000 in
set_option maxHeartbeats 2000000 in
theorem l9Line_any (W Hn : Nat) (a : Option Addr) (n c : Nat) (xs : List Int) (a1 : Option Addr) (n1 c1 : Nat) (ss : List Int) (a2 : Option Addr) (n2 c2 : Nat) (ts : List Int) (a3 : Option Addr) (n3 c3 : Nat) (line : List Int) (w : World) (h : Ints w a n c xs) (h1 : Ints w a1 n1 c1 ss) (h2 : Ints w a2 n2 c2 ts) (h3 : Ints w a3 n3 c3 line)
    (hnp : 0 < n) (hn25 : n ≤ 25) (hW : 1 ≤ W ∧ W ≤ 5) (hs : setB n ss = true) (hl : setB n line = true) (hxs : ∀ x ∈ xs, 0 ≤ x) :
    Calls Tryz.prog 86 #[.agg #[.int .i64 W, .int .i64 Hn, .slice a n c], .slice a1 n1 c1, .slice a2 n2 c2, .slice a3 n3 c3] w fun e w' => e = .returned (.bool (lineB W n xs ss ts line)) ∧ Below w.heap.size w w' := by
  have hM := Mem.start w
  have hcap := h3.cap
  have HL := Lib.hid h.len
  have HL3 := Lib.hid h3.len
  have HXS := Lib.hid hxs
  have HS := Lib.hid hs; have HLI := Lib.hid hl
  have HAF := Lib.hid (fun k (hk : k < line.length) => set_fact hl hk)
  have hrm := h3.room
  have HFA := Lib.hid (fun (hh : line.all (fun c => hasI (cellsN n (freeN xs ss ts)) c) = false) => show lineB W n xs ss ts line = false by rw [lineB, hh]; rfl)
  have HTR := Lib.hid (fun (hh : line.all (fun c => hasI (cellsN n (freeN xs ss ts)) c) = true) => show lineB W n xs ss ts line = !((reachL W n (clrL xs line) (fun k => hasI ss k)).any fun x => hasI ts x) by rw [lineB, hh, holdB, meet_comm, Bool.not_not]; rfl)
  clear hs hl hxs
  go_enter Tryz.func86, Tryz.ntmps86
  go_wp2_with fail
  go_loopw [9] (fun i wr => ∃ k : Nat, k ≤ n3 ∧ i = .int .i64 k ∧ (line.take k).all (fun c => hasI (cellsN n (freeN xs ss ts)) c) = true ∧ Mem w.heap.size w wr [rowE w.heap.size 26 #[.int .i64 W, .int .i64 Hn, .slice a n c]]) (fun i _ => n3 - (intOf i).toNat)
  case atStart => exact ⟨0, Nat.zero_le _, rfl, by simp, by (exact memA)⟩
  case round =>
    clear hM
    obtain ⟨k, hk, rfl, hall, hM⟩ := hrel
    have HA := Lib.hid hall; clear hall
    by_cases hlt : k < n3
    · obtain ⟨b, off, rfl, -, -⟩ := h3.at' _ hlt
      have hkl : k < line.length := by rw [HL3.out]; exact hlt
      obtain ⟨m, hm, hmn⟩ := HAF.out k hkl
      have hts := all_take_succ (p := fun c => hasI (cellsN n (freeN xs ss ts)) c) hkl
      have haf := all_false_of (p := fun c => hasI (cellsN n (freeN xs ss ts)) c) hkl
      rw [hm] at hts haf
      have HM := Lib.hid hm
      obtain ⟨bx, offx, rfl, -, -⟩ := h.at' _ hmn
      have hx0 := HXS.out _ (getD_mem (xs := xs) (k := m) (by rw [HL.out]; exact hmn))
      obtain ⟨v, hv⟩ : ∃ v, xs.getD m 0 = v := ⟨_, rfl⟩
      rw [hv] at hx0
      obtain ⟨y, hy⟩ : ∃ y, hasI ss (m : Int) = y := ⟨_, rfl⟩
      obtain ⟨z, hz⟩ : ∃ z, hasI ts (m : Int) = z := ⟨_, rfl⟩
      rw [hasI_cells hmn, show freeN xs ss ts m = (decide (0 < v) && !y && !z) by rw [freeN, brn, hv, hy, hz]] at hts haf
      have HTS := Lib.hid hts
      have HAFF := Lib.hid haf
      have HV := Lib.hid hv; have HY := Lib.hid hy; have HZ := Lib.hid hz
      clear hm hts haf hv hy hz hkl
      have i0 : (0 : Int) ≤ (k : Int) := by omega
      have i1 : (k : Int) < (n3 : Int) := by omega
      have m0 : (0 : Int) ≤ (m : Int) := by omega
      have m1 : (m : Int) < (n : Int) := by omega
      go_wp2_with fail
      apply Mem.atWp
      · exact memA
      clear hM
      intro hM
      by_cases hvz : v = 0
      · have hve : (v == 0) = true := by simpa using hvz
        have HVZ := Lib.hid hvz; clear hvz
        refine AtT.startA hM hM 24 (by kernel_rfl) ?_
        clear hM
        intro wd hM
        have hS := hM
        refine AtT.tk 0 ?_ 16 ?_ hS ?_
        rotate_left
        · (intro wS hSw; (try dsimp only at hSw); go_simp; (try rw [if_neg (by omega)]); try with_reducible rfl)
        simp only [Act.put, sA]
        refine AtT.tk 1 ?_ 17 ?_ hS ?_
        rotate_left
        · (intro wS hSw; (try dsimp only at hSw); have kr0 := (Mem.row hSw .here).cell; have hck := (h3.ext hSw.below).get hlt; rw [HM.out] at hck; have hcx := (h.ext hSw.below).get hmn; rw [HV.out] at hcx; go_simp; (try rw [if_neg (by omega)]); try with_reducible rfl)
        simp only [Act.put, sA]
        refine AtT.tk 2 ?_ 18 ?_ hS ?_
        rotate_left
        · (intro wS hSw; (try dsimp only at hSw); go_simp; (try rw [if_neg (by omega)]); try with_reducible rfl)
        simp only [Act.put, sA]
        refine AtT.tk 3 ?_ 19 ?_ hS ?_
        rotate_left
        · (intro wS hSw; (try dsimp only at hSw); go_simp; (try rw [if_neg (by omega)]); try with_reducible rfl)
        simp only [Act.put, sA]
        refine AtT.tk 4 ?_ 20 ?_ hS ?_
        rotate_left
        · (intro wS hSw; (try dsimp only at hSw); have kr0 := (Mem.row hSw .here).cell; have hck := (h3.ext hSw.below).get hlt; rw [HM.out] at hck; have hcx := (h.ext hSw.below).get hmn; rw [HV.out] at hcx; go_simp; (try rw [if_neg (by omega)]); try with_reducible rfl)
        simp only [Act.put, sA]
        refine AtT.tk 5 ?_ 21 ?_ hS ?_
        rotate_left
        · (intro wS hSw; (try dsimp only at hSw); have kr0 := (Mem.row hSw .here).cell; have hck := (h3.ext hSw.below).get hlt; rw [HM.out] at hck; have hcx := (h.ext hSw.below).get hmn; rw [HV.out] at hcx; go_simp; (try rw [if_neg (by omega)]); try with_reducible rfl)
        simp only [Act.put, sA]
        refine AtT.tk 6 ?_ 22 ?_ hS ?_
        rotate_left
        · (intro wS hSw; (try dsimp only at hSw); have kr0 := (Mem.row hSw .here).cell; have hck := (h3.ext hSw.below).get hlt; rw [HM.out] at hck; have hcx := (h.ext hSw.below).get hmn; rw [HV.out] at hcx; go_simp; (try rw [if_neg (by omega)]); try with_reducible rfl)
        simp only [Act.put, sA]
        refine AtT.tk 7 ?_ 23 ?_ hS ?_
        rotate_left
        · (intro wS hSw; (try dsimp only at hSw); have kr0 := (Mem.row hSw .here).cell; have hck := (h3.ext hSw.below).get hlt; rw [HM.out] at hck; have hcx := (h.ext hSw.below).get hmn; rw [HV.out] at hcx; go_simp; (try rw [if_neg (by omega)]); try with_reducible rfl)
        simp only [Act.put, sA]
        refine AtT.tk 8 ?_ 24 ?_ hS ?_
        rotate_left
        · (intro wS hSw; (try dsimp only at hSw); go_simp; (try rw [if_neg (by omega)]); try with_reducible rfl)
        simp only [Act.put, sA]
        refine AtT.tk 9 ?_ 25 ?_ hS ?_
        rotate_left
        · (intro wS hSw; (try dsimp only at hSw); go_simp; (try rw [if_neg (by omega)]); try with_reducible rfl)
        simp only [Act.put, sA]
        refine AtT.tn 10 26 hS ?_
        simp only [Act.put, sA]
        refine AtT.tn 11 27 hS ?_
        simp only [Act.put, sA]
        refine AtT.tn 12 28 hS ?_
        simp only [Act.put, sA]
        refine AtT.tn 13 29 hS ?_
        simp only [Act.put, sA]
        refine AtT.tn 14 30 hS ?_
        simp only [Act.put, sA]
        refine AtT.tn 15 31 hS ?_
        simp only [Act.put, sA]
        refine AtT.tk 16 ?_ 32 ?_ hS ?_
        rotate_left
        · (intro wS hSw; (try dsimp only at hSw); go_simp; (try rw [if_neg (by omega)]); try with_reducible rfl)
        simp only [Act.put, sA]
        refine AtT.tk 17 ?_ 33 ?_ hS ?_
        rotate_left
        · (intro wS hSw; (try dsimp only at hSw); go_simp; (try rw [if_neg (by omega)]); try with_reducible rfl)
        simp only [Act.put, sA]
        refine AtT.tn 18 34 hS ?_
        simp only [Act.put, sA]
        refine AtT.tn 19 35 hS ?_
        simp only [Act.put, sA]
        refine AtT.tn 20 36 hS ?_
        simp only [Act.put, sA]
        refine AtT.tn 21 37 hS ?_
        simp only [Act.put, sA]
        refine AtT.tn 22 38 hS ?_
        simp only [Act.put, sA]
        refine AtT.tn 23 39 hS ?_
        simp only [Act.put, sA]
        refine AtT.last (by kernel_rfl) rfl (by kernel_rfl) ?_
        intro K hK
        clear hS
        go_simp
        refine hK.out _ _ ?_
        clear hK K
        go_wp2
        go_ret
        exact ⟨rb (HFA.out (HAFF.out (by rw [HVZ.out]; rfl))).symm, (by apply Mem.below; (exact memA))⟩
      · have hve : (v == 0) = false := by simpa using hvz
        have hvp : decide (0 < v) = true := by simp; omega
        have HVP := Lib.hid hvp; clear hvp
        cases y
        · skip
          refine AtT.startA hM hM 24 (by kernel_rfl) ?_
          clear hM
          intro wd hM
          have hS := hM
          refine AtT.tk 0 ?_ 16 ?_ hS ?_
          rotate_left
          · (intro wS hSw; (try dsimp only at hSw); go_simp; (try rw [if_neg (by omega)]); try with_reducible rfl)
          simp only [Act.put, sA]
          refine AtT.tk 1 ?_ 17 ?_ hS ?_
          rotate_left
          · (intro wS hSw; (try dsimp only at hSw); have kr0 := (Mem.row hSw .here).cell; have hck := (h3.ext hSw.below).get hlt; rw [HM.out] at hck; have hcx := (h.ext hSw.below).get hmn; rw [HV.out] at hcx; go_simp; (try rw [if_neg (by omega)]); try with_reducible rfl)
          simp only [Act.put, sA]
          refine AtT.tk 2 ?_ 18 ?_ hS ?_
          rotate_left
          · (intro wS hSw; (try dsimp only at hSw); go_simp; (try rw [if_neg (by omega)]); try with_reducible rfl)
          simp only [Act.put, sA]
          refine AtT.tk 3 ?_ 19 ?_ hS ?_
          rotate_left
          · (intro wS hSw; (try dsimp only at hSw); go_simp; (try rw [if_neg (by omega)]); try with_reducible rfl)
          simp only [Act.put, sA]
          refine AtT.tk 4 ?_ 20 ?_ hS ?_
          rotate_left
          · (intro wS hSw; (try dsimp only at hSw); have kr0 := (Mem.row hSw .here).cell; have hck := (h3.ext hSw.below).get hlt; rw [HM.out] at hck; have hcx := (h.ext hSw.below).get hmn; rw [HV.out] at hcx; go_simp; (try rw [if_neg (by omega)]); try with_reducible rfl)
          simp only [Act.put, sA]
          refine AtT.tk 5 ?_ 21 ?_ hS ?_
          rotate_left
          · (intro wS hSw; (try dsimp only at hSw); have kr0 := (Mem.row hSw .here).cell; have hck := (h3.ext hSw.below).get hlt; rw [HM.out] at hck; have hcx := (h.ext hSw.below).get hmn; rw [HV.out] at hcx; go_simp; (try rw [if_neg (by omega)]); try with_reducible rfl)
          simp only [Act.put, sA]
          refine AtT.tk 6 ?_ 22 ?_ hS ?_
          rotate_left
          · (intro wS hSw; (try dsimp only at hSw); have kr0 := (Mem.row hSw .here).cell; have hck := (h3.ext hSw.below).get hlt; rw [HM.out] at hck; have hcx := (h.ext hSw.below).get hmn; rw [HV.out] at hcx; go_simp; (try rw [if_neg (by omega)]); try with_reducible rfl)
          simp only [Act.put, sA]
          refine AtT.tk 7 ?_ 23 ?_ hS ?_
          rotate_left
          · (intro wS hSw; (try dsimp only at hSw); have kr0 := (Mem.row hSw .here).cell; have hck := (h3.ext hSw.below).get hlt; rw [HM.out] at hck; have hcx := (h.ext hSw.below).get hmn; rw [HV.out] at hcx; go_simp; (try rw [if_neg (by omega)]); try with_reducible rfl)
          simp only [Act.put, sA]
          refine AtT.tk 8 ?_ 24 ?_ hS ?_
          rotate_left
          · (intro wS hSw; (try dsimp only at hSw); go_simp; (try rw [if_neg (by omega)]); try with_reducible rfl)
          simp only [Act.put, sA]
          refine AtT.tk 9 ?_ 25 ?_ hS ?_
          rotate_left
          · (intro wS hSw; (try dsimp only at hSw); go_simp; (try rw [if_neg (by omega)]); try with_reducible rfl)
          simp only [Act.put, sA]
          refine AtT.tk 10 ?_ 26 ?_ hS ?_
          rotate_left
          · (intro wS hSw; (try dsimp only at hSw); go_simp; (try rw [if_neg (by omega)]); try with_reducible rfl)
          simp only [Act.put, sA]
          refine AtT.tk 11 ?_ 27 ?_ hS ?_
          rotate_left
          · (intro wS hSw; (try dsimp only at hSw); go_simp; (try rw [if_neg (by omega)]); try with_reducible rfl)
          simp only [Act.put, sA]
          refine AtT.tk 12 ?_ 28 ?_ hS ?_
          rotate_left
          · (intro wS hSw; (try dsimp only at hSw); go_simp; (try rw [if_neg (by omega)]); try with_reducible rfl)
          simp only [Act.put, sA]
          refine AtT.tk 13 ?_ 29 ?_ hS ?_
          rotate_left
          · (intro wS hSw; (try dsimp only at hSw); have kr0 := (Mem.row hSw .here).cell; have hck := (h3.ext hSw.below).get hlt; rw [HM.out] at hck; have hcx := (h.ext hSw.below).get hmn; rw [HV.out] at hcx; go_simp; (try rw [if_neg (by omega)]); try with_reducible rfl)
          simp only [Act.put, sA]
          refine AtT.tk 14 ?_ 30 ?_ hS ?_
          rotate_left
          · (intro wS hSw; (try dsimp only at hSw); have kr0 := (Mem.row hSw .here).cell; have hck := (h3.ext hSw.below).get hlt; rw [HM.out] at hck; have hcx := (h.ext hSw.below).get hmn; rw [HV.out] at hcx; go_simp; (try rw [if_neg (by omega)]); try with_reducible rfl)
          simp only [Act.put, sA]
          refine AtT.only (i := 15) (by kernel_rfl) rfl rfl ?_
          intro K hK
          go_simp
          refine (l1Has_any a1 n1 c1 ss _ _ (h1.ext hM.below)).mono ?_
          rw [HY.out]
          rintro e w3 ⟨rfl, rfl⟩
          try dsimp only
          refine hK.out _ _ (hM) ?_
          clear hK K hS
          have hS := hM
          refine AtT.tk 16 ?_ 32 ?_ hS ?_
          rotate_left
          · (intro wS hSw; (try dsimp only at hSw); go_simp; (try rw [if_neg (by omega)]); try with_reducible rfl)
          simp only [Act.put, sA]
          refine AtT.tk 17 ?_ 33 ?_ hS ?_
          rotate_left
          · (intro wS hSw; (try dsimp only at hSw); go_simp; (try rw [if_neg (by omega)]); try with_reducible rfl)
          simp only [Act.put, sA]
          refine AtT.tk 18 ?_ 34 ?_ hS ?_
          rotate_left
          · (intro wS hSw; (try dsimp only at hSw); go_simp; (try rw [if_neg (by omega)]); try with_reducible rfl)
          simp only [Act.put, sA]
          refine AtT.tk 19 ?_ 35 ?_ hS ?_
          rotate_left
          · (intro wS hSw; (try dsimp only at hSw); go_simp; (try rw [if_neg (by omega)]); try with_reducible rfl)
          simp only [Act.put, sA]
          refine AtT.tk 20 ?_ 36 ?_ hS ?_
          rotate_left
          · (intro wS hSw; (try dsimp only at hSw); go_simp; (try rw [if_neg (by omega)]); try with_reducible rfl)
          simp only [Act.put, sA]
          refine AtT.tk 21 ?_ 37 ?_ hS ?_
          rotate_left
          · (intro wS hSw; (try dsimp only at hSw); have kr0 := (Mem.row hSw .here).cell; have hck := (h3.ext hSw.below).get hlt; rw [HM.out] at hck; have hcx := (h.ext hSw.below).get hmn; rw [HV.out] at hcx; go_simp; (try rw [if_neg (by omega)]); try with_reducible rfl)
          simp only [Act.put, sA]
          refine AtT.tk 22 ?_ 38 ?_ hS ?_
          rotate_left
          · (intro wS hSw; (try dsimp only at hSw); have kr0 := (Mem.row hSw .here).cell; have hck := (h3.ext hSw.below).get hlt; rw [HM.out] at hck; have hcx := (h.ext hSw.below).get hmn; rw [HV.out] at hcx; go_simp; (try rw [if_neg (by omega)]); try with_reducible rfl)
          simp only [Act.put, sA]
          refine AtT.only (i := 23) (by kernel_rfl) rfl rfl ?_
          intro K hK
          go_simp
          refine (l1Has_any a2 n2 c2 ts _ _ (h2.ext hM.below)).mono ?_
          rw [HZ.out]
          rintro e w3 ⟨rfl, rfl⟩
          try dsimp only
          refine hK.out _ _ (hM) ?_
          clear hK K hS
          have hS := hM
          refine AtT.last (by kernel_rfl) rfl (by kernel_rfl) ?_
          intro K hK
          clear hS
          go_simp
          refine hK.out _ _ ?_
          clear hK K
          cases z
          · go_wp2
            go_roundw
            case rel =>
              refine ⟨k + 1, by omega, by go_num, by rw [HTS.out, HA.out, HVP.out]; rfl, ?_⟩
              (exact memA)
            case measure => simp [intOf]; omega
          · go_wp2
            go_ret
            exact ⟨rb (HFA.out (HAFF.out (by rw [HVP.out]; rfl))).symm, (by apply Mem.below; (exact memA))⟩
        · skip
          refine AtT.startA hM hM 24 (by kernel_rfl) ?_
          clear hM
          intro wd hM
          have hS := hM
          refine AtT.tk 0 ?_ 16 ?_ hS ?_
          rotate_left
          · (intro wS hSw; (try dsimp only at hSw); go_simp; (try rw [if_neg (by omega)]); try with_reducible rfl)
          simp only [Act.put, sA]
          refine AtT.tk 1 ?_ 17 ?_ hS ?_
          rotate_left
          · (intro wS hSw; (try dsimp only at hSw); have kr0 := (Mem.row hSw .here).cell; have hck := (h3.ext hSw.below).get hlt; rw [HM.out] at hck; have hcx := (h.ext hSw.below).get hmn; rw [HV.out] at hcx; go_simp; (try rw [if_neg (by omega)]); try with_reducible rfl)
          simp only [Act.put, sA]
          refine AtT.tk 2 ?_ 18 ?_ hS ?_
          rotate_left
          · (intro wS hSw; (try dsimp only at hSw); go_simp; (try rw [if_neg (by omega)]); try with_reducible rfl)
          simp only [Act.put, sA]
          refine AtT.tk 3 ?_ 19 ?_ hS ?_
          rotate_left
          · (intro wS hSw; (try dsimp only at hSw); go_simp; (try rw [if_neg (by omega)]); try with_reducible rfl)
          simp only [Act.put, sA]
          refine AtT.tk 4 ?_ 20 ?_ hS ?_
          rotate_left
          · (intro wS hSw; (try dsimp only at hSw); have kr0 := (Mem.row hSw .here).cell; have hck := (h3.ext hSw.below).get hlt; rw [HM.out] at hck; have hcx := (h.ext hSw.below).get hmn; rw [HV.out] at hcx; go_simp; (try rw [if_neg (by omega)]); try with_reducible rfl)
          simp only [Act.put, sA]
          refine AtT.tk 5 ?_ 21 ?_ hS ?_
          rotate_left
          · (intro wS hSw; (try dsimp only at hSw); have kr0 := (Mem.row hSw .here).cell; have hck := (h3.ext hSw.below).get hlt; rw [HM.out] at hck; have hcx := (h.ext hSw.below).get hmn; rw [HV.out] at hcx; go_simp; (try rw [if_neg (by omega)]); try with_reducible rfl)
          simp only [Act.put, sA]
          refine AtT.tk 6 ?_ 22 ?_ hS ?_
          rotate_left
          · (intro wS hSw; (try dsimp only at hSw); have kr0 := (Mem.row hSw .here).cell; have hck := (h3.ext hSw.below).get hlt; rw [HM.out] at hck; have hcx := (h.ext hSw.below).get hmn; rw [HV.out] at hcx; go_simp; (try rw [if_neg (by omega)]); try with_reducible rfl)
          simp only [Act.put, sA]
          refine AtT.tk 7 ?_ 23 ?_ hS ?_
          rotate_left
          · (intro wS hSw; (try dsimp only at hSw); have kr0 := (Mem.row hSw .here).cell; have hck := (h3.ext hSw.below).get hlt; rw [HM.out] at hck; have hcx := (h.ext hSw.below).get hmn; rw [HV.out] at hcx; go_simp; (try rw [if_neg (by omega)]); try with_reducible rfl)
          simp only [Act.put, sA]
          refine AtT.tk 8 ?_ 24 ?_ hS ?_
          rotate_left
          · (intro wS hSw; (try dsimp only at hSw); go_simp; (try rw [if_neg (by omega)]); try with_reducible rfl)
          simp only [Act.put, sA]
          refine AtT.tk 9 ?_ 25 ?_ hS ?_
          rotate_left
          · (intro wS hSw; (try dsimp only at hSw); go_simp; (try rw [if_neg (by omega)]); try with_reducible rfl)
          simp only [Act.put, sA]
          refine AtT.tk 10 ?_ 26 ?_ hS ?_
          rotate_left
          · (intro wS hSw; (try dsimp only at hSw); go_simp; (try rw [if_neg (by omega)]); try with_reducible rfl)
          simp only [Act.put, sA]
          refine AtT.tk 11 ?_ 27 ?_ hS ?_
          rotate_left
          · (intro wS hSw; (try dsimp only at hSw); go_simp; (try rw [if_neg (by omega)]); try with_reducible rfl)
          simp only [Act.put, sA]
          refine AtT.tk 12 ?_ 28 ?_ hS ?_
          rotate_left
          · (intro wS hSw; (try dsimp only at hSw); go_simp; (try rw [if_neg (by omega)]); try with_reducible rfl)
          simp only [Act.put, sA]
          refine AtT.tk 13 ?_ 29 ?_ hS ?_
          rotate_left
          · (intro wS hSw; (try dsimp only at hSw); have kr0 := (Mem.row hSw .here).cell; have hck := (h3.ext hSw.below).get hlt; rw [HM.out] at hck; have hcx := (h.ext hSw.below).get hmn; rw [HV.out] at hcx; go_simp; (try rw [if_neg (by omega)]); try with_reducible rfl)
          simp only [Act.put, sA]
          refine AtT.tk 14 ?_ 30 ?_ hS ?_
          rotate_left
          · (intro wS hSw; (try dsimp only at hSw); have kr0 := (Mem.row hSw .here).cell; have hck := (h3.ext hSw.below).get hlt; rw [HM.out] at hck; have hcx := (h.ext hSw.below).get hmn; rw [HV.out] at hcx; go_simp; (try rw [if_neg (by omega)]); try with_reducible rfl)
          simp only [Act.put, sA]
          refine AtT.only (i := 15) (by kernel_rfl) rfl rfl ?_
          intro K hK
          go_simp
          refine (l1Has_any a1 n1 c1 ss _ _ (h1.ext hM.below)).mono ?_
          rw [HY.out]
          rintro e w3 ⟨rfl, rfl⟩
          try dsimp only
          refine hK.out _ _ (hM) ?_
          clear hK K hS
          have hS := hM
          refine AtT.tk 16 ?_ 32 ?_ hS ?_
          rotate_left
          · (intro wS hSw; (try dsimp only at hSw); go_simp; (try rw [if_neg (by omega)]); try with_reducible rfl)
          simp only [Act.put, sA]
          refine AtT.tk 17 ?_ 33 ?_ hS ?_
          rotate_left
          · (intro wS hSw; (try dsimp only at hSw); go_simp; (try rw [if_neg (by omega)]); try with_reducible rfl)
          simp only [Act.put, sA]
          refine AtT.tn 18 34 hS ?_
          simp only [Act.put, sA]
          refine AtT.tn 19 35 hS ?_
          simp only [Act.put, sA]
          refine AtT.tn 20 36 hS ?_
          simp only [Act.put, sA]
          refine AtT.tn 21 37 hS ?_
          simp only [Act.put, sA]
          refine AtT.tn 22 38 hS ?_
          simp only [Act.put, sA]
          refine AtT.tn 23 39 hS ?_
          simp only [Act.put, sA]
          refine AtT.last (by kernel_rfl) rfl (by kernel_rfl) ?_
          intro K hK
          clear hS
          go_simp
          refine hK.out _ _ ?_
          clear hK K
          go_wp2
          go_ret
          exact ⟨rb (HFA.out (HAFF.out (by rw [HVP.out]; rfl))).symm, (by apply Mem.below; (exact memA))⟩
    · obtain rfl : k = n3 := by omega
      have hall := HA.out
      rw [List.take_of_length_le (by rw [HL3.out]; exact Nat.le_refl _)] at hall
      have HB := Lib.hid (HTR.out hall); clear hall
      obtain ⟨rs, hrs⟩ : ∃ rs, reachL W n (clrL xs line) (fun k => hasI ss k) = rs := ⟨_, rfl⟩
      have HRS := Lib.hid hrs; clear hrs
      have hpos : ∀ x ∈ clrL xs line, 0 ≤ x := fun x hx => (clrL_mem x hx).elim (fun e => by omega) (fun hx => HXS.out x hx)
      have HPOS := Lib.hid hpos; clear hpos
      obtain ⟨k0, f0, l0⟩ := hM.row .here
      go_wp2_with fail
      clear k0 f0 l0
      apply Mem.at
      · exact memA
      clear hM
      intro hM
      (try simp only [World.size_alloc, World.size_setCell, World.heap_drewN, heapDrew, Nat.add_assoc, Nat.reduceAdd, sA, List.cons_append, List.nil_append] at hM)
      refine (l2Clear_any W Hn a n c xs a3 k c3 line _ (h.ext hM.below) (h3.ext hM.below) hnp hn25 HLI.out).mono ?_
      rintro e w1 ⟨a4, c4, rfl, hO, hb⟩
      replace hM := hM.own hb hO
      clear hb hO
      go_wp2_with fail
      apply Mem.at
      · exact memA
      clear hM
      intro hM
      (try simp only [World.size_alloc, World.size_setCell, World.heap_drewN, heapDrew, Nat.add_assoc, Nat.reduceAdd, sA, List.cons_append, List.nil_append] at hM)
      refine (l2Reach_any W Hn a4 n c4 (clrL xs line) a1 n1 c1 ss _ (hM.ints .here).ints (h1.ext hM.below) hn25 hW HS.out HPOS.out).mono ?_
      rintro e w2 ⟨a5, m5, c5, rfl, hm⟩
      replace hM := hM.join hm
      clear hm
      go_wp2_with fail
      apply Mem.at
      · exact memA
      clear hM
      intro hM
      (try simp only [World.size_alloc, World.size_setCell, World.heap_drewN, heapDrew, Nat.add_assoc, Nat.reduceAdd, sA, List.cons_append, List.nil_append] at hM)
      refine (l9Meet_any a5 m5 c5 _ a2 n2 c2 ts _ (hM.ints .here).ints (h2.ext hM.below)).mono ?_
      rintro e w3 ⟨rfl, rfl⟩
      go_wp2
      go_ret
      exact ⟨rb (by rw [HB.out]; rfl), (by apply Mem.below; (exact memA))⟩

theorem isSetX_any (W H : Int) (a : Option Addr) (n c : Nat) (xs : List Int) (a' : Option Addr) (n' c' : Nat) (cells : List Int) (w : World) (_h : Ints w a n c xs) (h' : Ints w a' n' c' cells) (hn : n ≤ 25) (_hg : goodB 20 W H xs = true) :
    Calls Tryz.prog 46 #[.agg #[.int .i64 W, .int .i64 H, .slice a n c], .slice a' n' c'] w fun e w' => e = .returned (.bool (setB n cells)) ∧ Below w.heap.size w w' :=
  isSet_any W H a n c a' n' c' cells w h' hn
theorem isLineX_any (W Hn : Nat) (a : Option Addr) (n c : Nat) (xs : List Int) (a1 : Option Addr) (n1 c1 : Nat) (ss : List Int) (a2 : Option Addr) (n2 c2 : Nat) (ts : List Int) (a3 : Option Addr) (n3 c3 : Nat) (line : List Int) (w : World) (h : Ints w a n c xs) (h1 : Ints w a1 n1 c1 ss) (h2 : Ints w a2 n2 c2 ts) (h3 : Ints w a3 n3 c3 line)
    (hnp : 0 < n) (hn25 : n ≤ 25) (hW : 1 ≤ W ∧ W ≤ 5) (hs : setB n ss = true) (hl : setB n line = true) (_hxs : ∀ x ∈ xs, 0 ≤ x) :
    Calls Tryz.prog 47 #[.agg #[.int .i64 W, .int .i64 Hn, .slice a n c], .slice a1 n1 c1, .slice a2 n2 c2, .slice a3 n3 c3] w fun e w' => e = .returned (.bool (lineB W n xs ss ts line)) ∧ Below w.heap.size w w' :=
  isLine_any W Hn a n c xs a1 n1 c1 ss a2 n2 c2 ts a3 n3 c3 line w h h1 h2 h3 hnp hn25 hW hs hl
structure B2 where
  a : Bool
  ok : Bool
noncomputable def isLineR (W H : Int) (xs ss ts line : List Int) : B2 := if caseB W H xs xs.length ss ts && setB xs.length line then ⟨lineB W.toNat xs.length xs ss ts line, true⟩ else ⟨false, false⟩

set_option maxRecDepth 100000 in
set_option maxHeartbeats 2000000 in
theorem implIsLine_any (W H : Int) (a : Option Addr) (n c : Nat) (xs : List Int) (a1 : Option Addr) (n1 c1 : Nat) (ss : List Int) (a2 : Option Addr) (n2 c2 : Nat) (ts : List Int) (a3 : Option Addr) (n3 c3 : Nat) (line : List Int) (w : World) (h : Ints w a n c xs) (h1 : Ints w a1 n1 c1 ss) (h2 : Ints w a2 n2 c2 ts) (h3 : Ints w a3 n3 c3 line) :
    Calls Tryz.prog 12 #[.agg #[.int .i64 W, .int .i64 H, .slice a n c], .slice a1 n1 c1, .slice a2 n2 c2, .slice a3 n3 c3] w fun e w' => e = .returned (.tuple #[.bool (isLineR W H xs ss ts line).a, .bool (isLineR W H xs ss ts line).ok]) ∧ Below w.heap.size w w' := by
  have hM := Mem.start w
  have HL := Lib.hid h.len
  cases hc : caseB W H xs n ss ts
  · have HF := Lib.hid (show isLineR W H xs ss ts line = ⟨false, false⟩ by rw [isLineR, h.len, hc]; rfl)
    go_enter Tryz.func12, Tryz.ntmps12
    go_wp2_with fail
    apply Mem.at
    · exact memA
    clear hM
    intro hM
    (try simp only [World.size_alloc, World.size_setCell, World.heap_drewN, heapDrew, Nat.add_assoc, Nat.reduceAdd, sA, List.cons_append, List.nil_append] at hM)
    refine (isCase_any W H a n c xs a1 n1 c1 ss a2 n2 c2 ts _ (h.ext hM.below) (h1.ext hM.below) (h2.ext hM.below)).mono ?_
    rw [hc]
    rintro e w1 ⟨rfl, hb⟩
    replace hM := hM.ext hb
    clear hb
    go_wp2
    go_ret2
    exact ⟨by rw [HF.out]; rfl, (by apply Mem.below; (exact memA))⟩
  obtain ⟨hg, hs1, hs2, -⟩ := caseB_true hc
  obtain ⟨Wn, Hn, rfl, rfl, p1, p2, p3, p4, hlen, h25, hall⟩ := goodB_true hg
  have hn25 : n ≤ 25 := by rw [← HL.out]; exact h25
  have hnp : 0 < n := by rw [← HL.out, hlen]; exact Nat.mul_pos p1 p3
  have HP := Lib.hid (show ∀ x ∈ xs, 0 ≤ x from fun x hx => (hall x hx).1)
  have HC := Lib.hid hc
  have HG := Lib.hid hg
  have HS1 := Lib.hid hs1
  clear h25 hlen hall hg hs1 hs2
  cases hs : setB n line
  · have HF := Lib.hid (show isLineR Wn Hn xs ss ts line = ⟨false, false⟩ by rw [isLineR, h.len, hs, Bool.and_false]; rfl)
    clear hc
    go_enter Tryz.func12, Tryz.ntmps12
    go_wp2_with fail
    apply Mem.at
    · exact memA
    clear hM
    intro hM
    (try simp only [World.size_alloc, World.size_setCell, World.heap_drewN, heapDrew, Nat.add_assoc, Nat.reduceAdd, sA, List.cons_append, List.nil_append] at hM)
    refine (isCase_any Wn Hn a n c xs a1 n1 c1 ss a2 n2 c2 ts _ (h.ext hM.below) (h1.ext hM.below) (h2.ext hM.below)).mono ?_
    rw [HC.out]
    rintro e w1 ⟨rfl, hb⟩
    replace hM := hM.ext hb
    clear hb
    obtain ⟨k0, f0, l0⟩ := hM.row .here
    go_wp2_with fail
    clear k0 f0 l0
    apply Mem.at
    · exact memA
    clear hM
    intro hM
    (try simp only [World.size_alloc, World.size_setCell, World.heap_drewN, heapDrew, Nat.add_assoc, Nat.reduceAdd, sA, List.cons_append, List.nil_append] at hM)
    refine (isSetX_any _ _ a n c xs a3 n3 c3 line _ (h.ext hM.below) (h3.ext hM.below) hn25 HG.out).mono ?_
    rw [hs]
    rintro e w2 ⟨rfl, hb⟩
    replace hM := hM.ext hb
    clear hb
    go_wp2
    go_ret2
    exact ⟨by rw [HF.out]; rfl, (by apply Mem.below; (exact memA))⟩
  have HF := Lib.hid (show isLineR Wn Hn xs ss ts line = ⟨lineB Wn n xs ss ts line, true⟩ by rw [isLineR, h.len, hs, hc]; rfl)
  have HS := Lib.hid hs
  clear hc hs
  go_enter Tryz.func12, Tryz.ntmps12
  go_wp2_with fail
  apply Mem.at
  · exact memA
  clear hM
  intro hM
  (try simp only [World.size_alloc, World.size_setCell, World.heap_drewN, heapDrew, Nat.add_assoc, Nat.reduceAdd, sA, List.cons_append, List.nil_append] at hM)
  refine (isCase_any Wn Hn a n c xs a1 n1 c1 ss a2 n2 c2 ts _ (h.ext hM.below) (h1.ext hM.below) (h2.ext hM.below)).mono ?_
  rw [HC.out]
  rintro e w1 ⟨rfl, hb⟩
  replace hM := hM.ext hb
  clear hb
  obtain ⟨k0, f0, l0⟩ := hM.row .here
  go_wp2_with fail
  clear k0 f0 l0
  apply Mem.at
  · exact memA
  clear hM
  intro hM
  (try simp only [World.size_alloc, World.size_setCell, World.heap_drewN, heapDrew, Nat.add_assoc, Nat.reduceAdd, sA, List.cons_append, List.nil_append] at hM)
  refine (isSetX_any _ _ a n c xs a3 n3 c3 line _ (h.ext hM.below) (h3.ext hM.below) hn25 HG.out).mono ?_
  rw [HS.out]
  rintro e w2 ⟨rfl, hb⟩
  replace hM := hM.ext hb
  clear hb
  obtain ⟨k0, f0, l0⟩ := hM.row .here
  go_wp2_with fail
  clear k0 f0 l0
  apply Mem.at
  · exact memA
  clear hM
  intro hM
  (try simp only [World.size_alloc, World.size_setCell, World.heap_drewN, heapDrew, Nat.add_assoc, Nat.reduceAdd, sA, List.cons_append, List.nil_append] at hM)
  refine (isLineX_any Wn Hn a n c xs a1 n1 c1 ss a2 n2 c2 ts a3 n3 c3 line _ (h.ext hM.below) (h1.ext hM.below) (h2.ext hM.below) (h3.ext hM.below) hnp hn25 ⟨p1, p2⟩ HS1.out HS.out HP.out).mono ?_
  rintro e w3 ⟨rfl, hb⟩
  replace hM := hM.ext hb
  clear hb
  go_wp2
  go_ret2
  exact ⟨by rw [HF.out]; rfl, (by apply Mem.below; (exact memA))⟩
end Go.Proofs.YtojfbcgfeojdfaaGreat
