/-
  The chance that cuts hold: both functions.
-/
import Derived.Test.YtojfbcgfeojdfaaGreatKScnC
import Derived.Test.YtojfbcgfeojdfaaGreatKDrawSmk
/-
  The chance that cuts hold: both functions.
-/
namespace Go.Proofs.YtojfbcgfeojdfaaGreat
set_option linter.unusedSimpArgs false
set_option linter.unusedVariables false
open Go.RowKit

theorem chance_no {W H : Int} {xs : List Int} {sc : List ScenarioI} {ss : List Int} {start : Int} {cu : List CutI} {ts : List Int} (h : (blazeB W H xs xs.length sc ss start && cutsB W H xs cu && caseB W H xs xs.length ss ts) = false) : chanceR W H xs sc ss start cu ts = ⟨0, 0, false⟩ := by
  unfold chanceR
  rw [h]
  rfl
theorem chance_yes {W H : Int} {xs : List Int} {sc : List ScenarioI} {ss : List Int} {start : Int} {cu : List CutI} {ts : List Int} (h1 : blazeB W H xs xs.length sc ss start = true) (h2 : cutsB W H xs cu = true) (h3 : caseB W H xs xs.length ss ts = true) : chanceR W H xs sc ss start cu ts = ⟨redA (wtS (sc.filter (hitB W.toNat xs.length xs ss start cu ts))) (wtS sc), redB (wtS (sc.filter (hitB W.toNat xs.length xs ss start cu ts))) (wtS sc), true⟩ := by
  unfold chanceR
  rw [h1, h2, h3]
  rfl
theorem blazeB_true {W H : Int} {xs : List Int} {n : Nat} {sc : List ScenarioI} {ss : List Int} {start : Int} (h : blazeB W H xs n sc ss start = true) : goodB 20 W H xs = true ∧ ensB sc = true ∧ setB n ss = true ∧ 0 ≤ start ∧ start ≤ 1000 := by
  unfold blazeB at h
  simp only [Bool.and_eq_true] at h
  exact ⟨h.1.1.1, h.1.1.2, h.1.2, inB_true h.2⟩
theorem scenB_ph {x : ScenarioI} (h : scenB x = true) : phasesB x.ph = true := by
  unfold scenB at h
  rw [Bool.and_eq_true] at h
  exact h.1
set_option maxRecDepth 100000 in
set_option maxHeartbeats 8000000 in
theorem hc1_any (W Hn : Nat) (a : Option Addr) (n c : Nat) (xs : List Int) (a2 : Option Addr) (n2 c2 : Nat) (ss : List Int) (start : Int) (a4 : Option Addr) (n4 c4 : Nat) (cu : List CutI) (a5 : Option Addr) (n5 c5 : Nat) (ts : List Int) (b1 b2 b3 b4 b5 : Nat) (v : ScenarioI) (w : World) (h : Ints w a n c xs) (h2 : Ints w a2 n2 c2 ss) (h4 : Rd FCut w a4 n4 c4 cu) (h5 : Ints w a5 n5 c5 ts) (hv : Rd FPhase w v.ad v.n v.c v.ph) (r1 : Row w b1 #[.int .i64 W, .int .i64 Hn, .slice a n c]) (r2 : Row w b2 #[.slice a2 n2 c2]) (r3 : Row w b3 #[.int .i64 start]) (r4 : Row w b4 #[.slice a4 n4 c4]) (r5 : Row w b5 #[.slice a5 n5 c5]) (hnp : 0 < n) (hn25 : n ≤ 25) (hW : 1 ≤ W ∧ W ≤ 5) (hx : ∀ x ∈ xs, 0 ≤ x ∧ x ≤ 20) (hst : 0 ≤ start ∧ start ≤ 1000) (hs : setB n ss = true) (hc : cutTo xs cu cu.length = true) (hp : phasesB v.ph = true) :
    Calls Tryz.prog 56 #[v.val, .pointer (some ⟨b1, 0, none⟩), .pointer (some ⟨b2, 0, none⟩), .pointer (some ⟨b3, 0, none⟩), .pointer (some ⟨b4, 0, none⟩), .pointer (some ⟨b5, 0, none⟩)] w fun e w' => e = .returned (.bool (hitB W n xs ss start cu ts v)) ∧ Below w.heap.size w w' := by
  have hM := Mem.start w
  obtain ⟨ad, m, cc, ph, wt⟩ := v
  dsimp only at hv hp
  have HX := Lib.hid hx; have HS := Lib.hid hs; have HC := Lib.hid hc; have HPH := Lib.hid hp
  clear hx hs hc hp
  obtain ⟨q, hq⟩ : ∃ q, hldB W n xs ph ss start cu ts = q := ⟨_, rfl⟩
  have HQ := Lib.hid hq
  have HF := Lib.hid (show hitB W n xs ss start cu ts ⟨ad, m, cc, ph, wt⟩ = q from hq)
  clear hq
  obtain ⟨k1, f1, l1⟩ := r1
  obtain ⟨k2, f2, l2⟩ := r2
  obtain ⟨k3, f3, l3⟩ := r3
  obtain ⟨k4, f4, l4⟩ := r4
  obtain ⟨k5, f5, l5⟩ := r5
  go_enter Tryz.func56, Tryz.ntmps56
  go_wp2_with fail
  apply Mem.atA
  · exact memA
  clear hM
  intro wst hM
  (try simp only [World.size_alloc, World.size_setCell, World.heap_drewN, heapDrew, Nat.add_assoc, Nat.reduceAdd, sA, List.cons_append, List.nil_append] at hM)
  (first | refine (hold_any W Hn a n c xs ad m cc ph a2 n2 c2 ss start a4 n4 c4 cu a5 n5 c5 ts _ (h.ext hM.below) (hv.ext hM.below) (h2.ext hM.below) (h4.ext hM.below) (h5.ext hM.below) hnp hn25 hW HX.out HPH.out hst HS.out HC.out).mono ?_)
  rw [HQ.out]
  rintro e wc1 ⟨rfl, hb⟩
  replace hM := hM.ext hb
  clear hb
  go_wp2
  go_ret
  exact ⟨rb HF.out.symm, (by apply Mem.below; (exact memA))⟩
theorem hc1_ans (W Hn : Nat) (a : Option Addr) (n c : Nat) (xs : List Int) (a2 : Option Addr) (n2 c2 : Nat) (ss : List Int) (start : Int) (a4 : Option Addr) (n4 c4 : Nat) (cu : List CutI) (a5 : Option Addr) (n5 c5 : Nat) (ts : List Int) (b1 b2 b3 b4 b5 : Nat) (sc : List ScenarioI) (w : World) (h : Ints w a n c xs) (h2 : Ints w a2 n2 c2 ss) (h4 : Rd FCut w a4 n4 c4 cu) (h5 : Ints w a5 n5 c5 ts) (hsc : ∀ x ∈ sc, Rd FPhase w x.ad x.n x.c x.ph) (r1 : Row w b1 #[.int .i64 W, .int .i64 Hn, .slice a n c]) (r2 : Row w b2 #[.slice a2 n2 c2]) (r3 : Row w b3 #[.int .i64 start]) (r4 : Row w b4 #[.slice a4 n4 c4]) (r5 : Row w b5 #[.slice a5 n5 c5]) (hnp : 0 < n) (hn25 : n ≤ 25) (hW : 1 ≤ W ∧ W ≤ 5) (hx : ∀ x ∈ xs, 0 ≤ x ∧ x ≤ 20) (hst : 0 ≤ start ∧ start ≤ 1000) (hs : setB n ss = true) (hc : cutTo xs cu cu.length = true) (hp : ∀ x ∈ sc, scenB x = true) : AnswersScenario 56 #[.pointer (some ⟨b1, 0, none⟩), .pointer (some ⟨b2, 0, none⟩), .pointer (some ⟨b3, 0, none⟩), .pointer (some ⟨b4, 0, none⟩), .pointer (some ⟨b5, 0, none⟩)] (hitB W n xs ss start cu ts) sc w :=
  fun v hv w' hb => hc1_any W Hn a n c xs a2 n2 c2 ss start a4 n4 c4 cu a5 n5 c5 ts b1 b2 b3 b4 b5 v w' (h.ext hb) (h2.ext hb) (h4.ext hb) (h5.ext hb) ((hsc v hv).ext hb) (Row.ext r1 hb) (Row.ext r2 hb) (Row.ext r3 hb) (Row.ext r4 hb) (Row.ext r5 hb) hnp hn25 hW hx hst hs hc (scenB_ph (hp v hv))
set_option maxRecDepth 100000 in
set_option maxHeartbeats 8000000 in
theorem implChance_any (W H : Int) (a : Option Addr) (n c : Nat) (xs : List Int) (a1 : Option Addr) (n1 c1 : Nat) (sc : List ScenarioI) (a2 : Option Addr) (n2 c2 : Nat) (ss : List Int) (start : Int) (a4 : Option Addr) (n4 c4 : Nat) (cu : List CutI) (a5 : Option Addr) (n5 c5 : Nat) (ts : List Int) (w : World) (h : Ints w a n c xs) (h1 : RdS w a1 n1 c1 sc) (h2 : Ints w a2 n2 c2 ss) (h4 : Rd FCut w a4 n4 c4 cu) (h5 : Ints w a5 n5 c5 ts) :
    Calls Tryz.prog 17 #[.agg #[.int .i64 W, .int .i64 H, .slice a n c], .slice a1 n1 c1, .slice a2 n2 c2, .int .i64 start, .slice a4 n4 c4, .slice a5 n5 c5] w fun e w' => e = .returned (.tuple #[.int .i64 (chanceR W H xs sc ss start cu ts).a, .int .i64 (chanceR W H xs sc ss start cu ts).b, .bool (chanceR W H xs sc ss start cu ts).ok]) ∧ Below w.heap.size w w' := by
  have hM := Mem.start w
  have hmf : ∀ (fn : Fn) (first cap : Array Value) (w : World), (Instr.makeFunc fn first cap).run Tryz.prog w = .ok (.func fn first cap) w := fun _ _ _ _ => rfl
  have HL := Lib.hid h.len
  obtain ⟨q1, hq1⟩ : ∃ q, blazeB W H xs n sc ss start = q := ⟨_, rfl⟩
  obtain ⟨q2, hq2⟩ : ∃ q, cutsB W H xs cu = q := ⟨_, rfl⟩
  obtain ⟨q3, hq3⟩ : ∃ q, caseB W H xs n ss ts = q := ⟨_, rfl⟩
  have HF := Lib.hid (fun (hh : (q1 && q2 && q3) = false) => chance_no (W := W) (H := H) (xs := xs) (sc := sc) (ss := ss) (start := start) (cu := cu) (ts := ts) (by rw [h.len, hq1, hq2, hq3]; exact hh))
  have HQ1 := Lib.hid hq1; have HQ2 := Lib.hid hq2; have HQ3 := Lib.hid hq3
  clear hq1 hq2 hq3
  cases q1
  · have HR := Lib.hid (HF.out rfl)
    go_enter Tryz.func17, Tryz.ntmps17
    go_wp2_with fail
    apply Mem.atA
    · exact memA
    clear hM
    intro wst hM
    (try simp only [World.size_alloc, World.size_setCell, World.heap_drewN, heapDrew, Nat.add_assoc, Nat.reduceAdd, sA, List.cons_append, List.nil_append] at hM)
    (first | refine (isBlaze_any W H a n c xs a1 n1 c1 sc a2 n2 c2 ss start _ (h.ext hM.below) (h1.ext hM.below) (h2.ext hM.below)).mono ?_)
    rw [HQ1.out]
    rintro e wc2 ⟨rfl, hb⟩
    replace hM := hM.ext hb
    clear hb
    go_wp2
    go_ret3
    exact ⟨by rw [HR.out]; rfl, (by apply Mem.below; (exact memA))⟩
  cases q2
  · have HR := Lib.hid (HF.out rfl)
    go_enter Tryz.func17, Tryz.ntmps17
    go_wp2_with fail
    apply Mem.atA
    · exact memA
    clear hM
    intro wst hM
    (try simp only [World.size_alloc, World.size_setCell, World.heap_drewN, heapDrew, Nat.add_assoc, Nat.reduceAdd, sA, List.cons_append, List.nil_append] at hM)
    (first | refine (isBlaze_any W H a n c xs a1 n1 c1 sc a2 n2 c2 ss start _ (h.ext hM.below) (h1.ext hM.below) (h2.ext hM.below)).mono ?_)
    rw [HQ1.out]
    rintro e wc3 ⟨rfl, hb⟩
    replace hM := hM.ext hb
    clear hb
    obtain ⟨k0, f0, l0⟩ := hM.row .here
    obtain ⟨k1, f1, l1⟩ := hM.row (.there .here)
    obtain ⟨k2, f2, l2⟩ := hM.row (.there (.there .here))
    obtain ⟨k3, f3, l3⟩ := hM.row (.there (.there (.there .here)))
    obtain ⟨k4, f4, l4⟩ := hM.row (.there (.there (.there (.there .here))))
    go_wp2_with fail
    clear k0 f0 l0 k1 f1 l1 k2 f2 l2 k3 f3 l3 k4 f4 l4
    apply Mem.atA
    · exact memA
    clear hM
    intro wst hM
    (try simp only [World.size_alloc, World.size_setCell, World.heap_drewN, heapDrew, Nat.add_assoc, Nat.reduceAdd, sA, List.cons_append, List.nil_append] at hM)
    (first | refine (areCuts_any W H a n c xs a4 n4 c4 cu _ (h.ext hM.below) (h4.ext hM.below)).mono ?_)
    rw [HQ2.out]
    rintro e wc4 ⟨rfl, hb⟩
    replace hM := hM.ext hb
    clear hb
    go_wp2
    go_ret3
    exact ⟨by rw [HR.out]; rfl, (by apply Mem.below; (exact memA))⟩
  cases q3
  · have HR := Lib.hid (HF.out rfl)
    go_enter Tryz.func17, Tryz.ntmps17
    go_wp2_with fail
    apply Mem.atA
    · exact memA
    clear hM
    intro wst hM
    (try simp only [World.size_alloc, World.size_setCell, World.heap_drewN, heapDrew, Nat.add_assoc, Nat.reduceAdd, sA, List.cons_append, List.nil_append] at hM)
    (first | refine (isBlaze_any W H a n c xs a1 n1 c1 sc a2 n2 c2 ss start _ (h.ext hM.below) (h1.ext hM.below) (h2.ext hM.below)).mono ?_)
    rw [HQ1.out]
    rintro e wc5 ⟨rfl, hb⟩
    replace hM := hM.ext hb
    clear hb
    obtain ⟨k0, f0, l0⟩ := hM.row .here
    obtain ⟨k1, f1, l1⟩ := hM.row (.there .here)
    obtain ⟨k2, f2, l2⟩ := hM.row (.there (.there .here))
    obtain ⟨k3, f3, l3⟩ := hM.row (.there (.there (.there .here)))
    obtain ⟨k4, f4, l4⟩ := hM.row (.there (.there (.there (.there .here))))
    go_wp2_with fail
    clear k0 f0 l0 k1 f1 l1 k2 f2 l2 k3 f3 l3 k4 f4 l4
    apply Mem.atA
    · exact memA
    clear hM
    intro wst hM
    (try simp only [World.size_alloc, World.size_setCell, World.heap_drewN, heapDrew, Nat.add_assoc, Nat.reduceAdd, sA, List.cons_append, List.nil_append] at hM)
    (first | refine (areCuts_any W H a n c xs a4 n4 c4 cu _ (h.ext hM.below) (h4.ext hM.below)).mono ?_)
    rw [HQ2.out]
    rintro e wc6 ⟨rfl, hb⟩
    replace hM := hM.ext hb
    clear hb
    obtain ⟨k0, f0, l0⟩ := hM.row .here
    obtain ⟨k1, f1, l1⟩ := hM.row (.there .here)
    obtain ⟨k2, f2, l2⟩ := hM.row (.there (.there .here))
    obtain ⟨k3, f3, l3⟩ := hM.row (.there (.there (.there .here)))
    obtain ⟨k4, f4, l4⟩ := hM.row (.there (.there (.there (.there .here))))
    go_wp2_with fail
    clear k0 f0 l0 k1 f1 l1 k2 f2 l2 k3 f3 l3 k4 f4 l4
    apply Mem.atA
    · exact memA
    clear hM
    intro wst hM
    (try simp only [World.size_alloc, World.size_setCell, World.heap_drewN, heapDrew, Nat.add_assoc, Nat.reduceAdd, sA, List.cons_append, List.nil_append] at hM)
    (first | refine (isCase_any W H a n c xs a2 n2 c2 ss a5 n5 c5 ts _ (h.ext hM.below) (h2.ext hM.below) (h5.ext hM.below)).mono ?_)
    rw [HQ3.out]
    rintro e wc7 ⟨rfl, hb⟩
    replace hM := hM.ext hb
    clear hb
    go_wp2
    go_ret3
    exact ⟨by rw [HR.out]; rfl, (by apply Mem.below; (exact memA))⟩
  have hbz := HQ1.out
  rw [← HL.out] at hbz
  have hcs := HQ3.out
  rw [← HL.out] at hcs
  have hyes := chance_yes hbz HQ2.out hcs
  clear hbz hcs
  obtain ⟨hg, hen, hs, hst⟩ := blazeB_true HQ1.out
  obtain ⟨-, hct, -⟩ := cutsB_true HQ2.out
  obtain ⟨hsc, hl1, hl4⟩ := ensB_true hen
  obtain ⟨Wn, Hn, rfl, rfl, p1, p2, p3, p4, hlen, h25, hx⟩ := goodB_true hg
  have hn25 : n ≤ 25 := by rw [← HL.out]; exact h25
  have hnp : 0 < n := by rw [← HL.out, hlen]; exact Nat.mul_pos p1 p3
  have hW : 1 ≤ Wn ∧ Wn ≤ 5 := ⟨p1, p2⟩
  rw [Int.toNat_natCast, HL.out] at hyes
  obtain ⟨f, hf⟩ : ∃ f, hitB Wn n xs ss start cu ts = f := ⟨_, rfl⟩
  rw [hf] at hyes
  have HY := Lib.hid hyes; have HHF := Lib.hid hf
  have HS := Lib.hid hs; have HCT := Lib.hid hct; have HX := Lib.hid hx; have HSC := Lib.hid hsc
  clear hg hen hs hct hlen h25 hx hsc hyes hf HF
  go_enter Tryz.func17, Tryz.ntmps17
  go_wp2_with fail
  apply Mem.atA
  · exact memA
  clear hM
  intro wst hM
  (try simp only [World.size_alloc, World.size_setCell, World.heap_drewN, heapDrew, Nat.add_assoc, Nat.reduceAdd, sA, List.cons_append, List.nil_append] at hM)
  (first | refine (isBlaze_any Wn Hn a n c xs a1 n1 c1 sc a2 n2 c2 ss start _ (h.ext hM.below) (h1.ext hM.below) (h2.ext hM.below)).mono ?_)
  rw [HQ1.out]
  rintro e wc8 ⟨rfl, hb⟩
  replace hM := hM.ext hb
  clear hb
  obtain ⟨k0, f0, l0⟩ := hM.row .here
  obtain ⟨k1, f1, l1⟩ := hM.row (.there .here)
  obtain ⟨k2, f2, l2⟩ := hM.row (.there (.there .here))
  obtain ⟨k3, f3, l3⟩ := hM.row (.there (.there (.there .here)))
  obtain ⟨k4, f4, l4⟩ := hM.row (.there (.there (.there (.there .here))))
  go_wp2_with fail
  clear k0 f0 l0 k1 f1 l1 k2 f2 l2 k3 f3 l3 k4 f4 l4
  apply Mem.atA
  · exact memA
  clear hM
  intro wst hM
  (try simp only [World.size_alloc, World.size_setCell, World.heap_drewN, heapDrew, Nat.add_assoc, Nat.reduceAdd, sA, List.cons_append, List.nil_append] at hM)
  (first | refine (areCuts_any Wn Hn a n c xs a4 n4 c4 cu _ (h.ext hM.below) (h4.ext hM.below)).mono ?_)
  rw [HQ2.out]
  rintro e wc9 ⟨rfl, hb⟩
  replace hM := hM.ext hb
  clear hb
  obtain ⟨k0, f0, l0⟩ := hM.row .here
  obtain ⟨k1, f1, l1⟩ := hM.row (.there .here)
  obtain ⟨k2, f2, l2⟩ := hM.row (.there (.there .here))
  obtain ⟨k3, f3, l3⟩ := hM.row (.there (.there (.there .here)))
  obtain ⟨k4, f4, l4⟩ := hM.row (.there (.there (.there (.there .here))))
  go_wp2_with fail
  clear k0 f0 l0 k1 f1 l1 k2 f2 l2 k3 f3 l3 k4 f4 l4
  apply Mem.atA
  · exact memA
  clear hM
  intro wst hM
  (try simp only [World.size_alloc, World.size_setCell, World.heap_drewN, heapDrew, Nat.add_assoc, Nat.reduceAdd, sA, List.cons_append, List.nil_append] at hM)
  (first | refine (isCase_any Wn Hn a n c xs a2 n2 c2 ss a5 n5 c5 ts _ (h.ext hM.below) (h2.ext hM.below) (h5.ext hM.below)).mono ?_)
  rw [HQ3.out]
  rintro e wc10 ⟨rfl, hb⟩
  replace hM := hM.ext hb
  clear hb
  go_wp2_with fail
  apply Mem.atA
  · exact memA
  clear hM
  intro wst hM
  (try simp only [World.size_alloc, World.size_setCell, World.heap_drewN, heapDrew, Nat.add_assoc, Nat.reduceAdd, sA, List.cons_append, List.nil_append] at hM)
  (first | refine (chance_any _ _ f a1 n1 c1 sc _ (h1.rd.ext hM.below) HSC.out hl1 hl4 (enters Tryz.func56 (by kernel_rfl) rfl) (by rw [← HHF.out]; exact hc1_ans Wn Hn a n c xs a2 n2 c2 ss start a4 n4 c4 cu a5 n5 c5 ts _ _ _ _ _ sc _ (h.ext hM.below) (h2.ext hM.below) (h4.ext hM.below) (h5.ext hM.below) (fun x hx => (h1.ph x hx).ext hM.below) (hM.row (.there (.there (.there (.there .here))))) (hM.row (.there (.there (.there .here)))) (hM.row (.there (.there .here))) (hM.row (.there .here)) (hM.row .here) hnp hn25 hW HX.out hst HS.out HCT.out HSC.out)).mono ?_)
  rintro e wc11 ⟨rfl, hb⟩
  replace hM := hM.ext hb
  clear hb
  go_wp2
  go_ret3
  exact ⟨by rw [HY.out]; rfl, (by apply Mem.below; (exact memA))⟩
set_option maxRecDepth 100000 in
set_option maxHeartbeats 8000000 in
theorem specChance_any (W H : Int) (a : Option Addr) (n c : Nat) (xs : List Int) (a1 : Option Addr) (n1 c1 : Nat) (sc : List ScenarioI) (a2 : Option Addr) (n2 c2 : Nat) (ss : List Int) (start : Int) (a4 : Option Addr) (n4 c4 : Nat) (cu : List CutI) (a5 : Option Addr) (n5 c5 : Nat) (ts : List Int) (w : World) (h : Ints w a n c xs) (h1 : RdS w a1 n1 c1 sc) (h2 : Ints w a2 n2 c2 ss) (h4 : Rd FCut w a4 n4 c4 cu) (h5 : Ints w a5 n5 c5 ts) :
    Calls Tryz.prog 18 #[.agg #[.int .i64 W, .int .i64 H, .slice a n c], .slice a1 n1 c1, .slice a2 n2 c2, .int .i64 start, .slice a4 n4 c4, .slice a5 n5 c5] w fun e w' => e = .returned (.tuple #[.int .i64 (chanceR W H xs sc ss start cu ts).a, .int .i64 (chanceR W H xs sc ss start cu ts).b, .bool (chanceR W H xs sc ss start cu ts).ok]) ∧ Below w.heap.size w w' := by
  have hM := Mem.start w
  skip
  have HL := Lib.hid h.len
  obtain ⟨q1, hq1⟩ : ∃ q, blazeB W H xs n sc ss start = q := ⟨_, rfl⟩
  obtain ⟨q2, hq2⟩ : ∃ q, cutsB W H xs cu = q := ⟨_, rfl⟩
  obtain ⟨q3, hq3⟩ : ∃ q, caseB W H xs n ss ts = q := ⟨_, rfl⟩
  have HF := Lib.hid (fun (hh : (q1 && q2 && q3) = false) => chance_no (W := W) (H := H) (xs := xs) (sc := sc) (ss := ss) (start := start) (cu := cu) (ts := ts) (by rw [h.len, hq1, hq2, hq3]; exact hh))
  have HQ1 := Lib.hid hq1; have HQ2 := Lib.hid hq2; have HQ3 := Lib.hid hq3
  clear hq1 hq2 hq3
  cases q1
  · have HR := Lib.hid (HF.out rfl)
    go_enter Tryz.func18, Tryz.ntmps18
    go_wp2_with fail
    apply Mem.atA
    · exact memA
    clear hM
    intro wst hM
    (try simp only [World.size_alloc, World.size_setCell, World.heap_drewN, heapDrew, Nat.add_assoc, Nat.reduceAdd, sA, List.cons_append, List.nil_append] at hM)
    (first | refine (l8Asked_any W H a n c xs a1 n1 c1 sc a2 n2 c2 ss start _ (h.ext hM.below) (h1.ext hM.below) (h2.ext hM.below)).mono ?_)
    rw [HQ1.out]
    rintro e wc12 ⟨rfl, hb⟩
    replace hM := hM.ext hb
    clear hb
    go_wp2
    go_ret3
    exact ⟨by rw [HR.out]; rfl, (by apply Mem.below; (exact memA))⟩
  cases q2
  · have HR := Lib.hid (HF.out rfl)
    go_enter Tryz.func18, Tryz.ntmps18
    go_wp2_with fail
    apply Mem.atA
    · exact memA
    clear hM
    intro wst hM
    (try simp only [World.size_alloc, World.size_setCell, World.heap_drewN, heapDrew, Nat.add_assoc, Nat.reduceAdd, sA, List.cons_append, List.nil_append] at hM)
    (first | refine (l8Asked_any W H a n c xs a1 n1 c1 sc a2 n2 c2 ss start _ (h.ext hM.below) (h1.ext hM.below) (h2.ext hM.below)).mono ?_)
    rw [HQ1.out]
    rintro e wc13 ⟨rfl, hb⟩
    replace hM := hM.ext hb
    clear hb
    obtain ⟨k0, f0, l0⟩ := hM.row .here
    go_wp2_with fail
    clear k0 f0 l0
    apply Mem.atA
    · exact memA
    clear hM
    intro wst hM
    (try simp only [World.size_alloc, World.size_setCell, World.heap_drewN, heapDrew, Nat.add_assoc, Nat.reduceAdd, sA, List.cons_append, List.nil_append] at hM)
    (first | refine (l25Good_any W H a n c xs a4 n4 c4 cu _ (h.ext hM.below) (h4.ext hM.below)).mono ?_)
    rw [HQ2.out]
    rintro e wc14 ⟨rfl, hb⟩
    replace hM := hM.ext hb
    clear hb
    go_wp2
    go_ret3
    exact ⟨by rw [HR.out]; rfl, (by apply Mem.below; (exact memA))⟩
  cases q3
  · have HR := Lib.hid (HF.out rfl)
    go_enter Tryz.func18, Tryz.ntmps18
    go_wp2_with fail
    apply Mem.atA
    · exact memA
    clear hM
    intro wst hM
    (try simp only [World.size_alloc, World.size_setCell, World.heap_drewN, heapDrew, Nat.add_assoc, Nat.reduceAdd, sA, List.cons_append, List.nil_append] at hM)
    (first | refine (l8Asked_any W H a n c xs a1 n1 c1 sc a2 n2 c2 ss start _ (h.ext hM.below) (h1.ext hM.below) (h2.ext hM.below)).mono ?_)
    rw [HQ1.out]
    rintro e wc15 ⟨rfl, hb⟩
    replace hM := hM.ext hb
    clear hb
    obtain ⟨k0, f0, l0⟩ := hM.row .here
    go_wp2_with fail
    clear k0 f0 l0
    apply Mem.atA
    · exact memA
    clear hM
    intro wst hM
    (try simp only [World.size_alloc, World.size_setCell, World.heap_drewN, heapDrew, Nat.add_assoc, Nat.reduceAdd, sA, List.cons_append, List.nil_append] at hM)
    (first | refine (l25Good_any W H a n c xs a4 n4 c4 cu _ (h.ext hM.below) (h4.ext hM.below)).mono ?_)
    rw [HQ2.out]
    rintro e wc16 ⟨rfl, hb⟩
    replace hM := hM.ext hb
    clear hb
    obtain ⟨k0, f0, l0⟩ := hM.row .here
    go_wp2_with fail
    clear k0 f0 l0
    apply Mem.atA
    · exact memA
    clear hM
    intro wst hM
    (try simp only [World.size_alloc, World.size_setCell, World.heap_drewN, heapDrew, Nat.add_assoc, Nat.reduceAdd, sA, List.cons_append, List.nil_append] at hM)
    (first | refine (l9Asked_any W H a n c xs a2 n2 c2 ss a5 n5 c5 ts _ (h.ext hM.below) (h2.ext hM.below) (h5.ext hM.below)).mono ?_)
    rw [HQ3.out]
    rintro e wc17 ⟨rfl, hb⟩
    replace hM := hM.ext hb
    clear hb
    go_wp2
    go_ret3
    exact ⟨by rw [HR.out]; rfl, (by apply Mem.below; (exact memA))⟩
  have hbz := HQ1.out
  rw [← HL.out] at hbz
  have hcs := HQ3.out
  rw [← HL.out] at hcs
  have hyes := chance_yes hbz HQ2.out hcs
  clear hbz hcs
  obtain ⟨hg, hen, hs, hst⟩ := blazeB_true HQ1.out
  obtain ⟨-, hct, -⟩ := cutsB_true HQ2.out
  obtain ⟨hsc, hl1, hl4⟩ := ensB_true hen
  obtain ⟨Wn, Hn, rfl, rfl, p1, p2, p3, p4, hlen, h25, hx⟩ := goodB_true hg
  have hn25 : n ≤ 25 := by rw [← HL.out]; exact h25
  have hnp : 0 < n := by rw [← HL.out, hlen]; exact Nat.mul_pos p1 p3
  have hW : 1 ≤ Wn ∧ Wn ≤ 5 := ⟨p1, p2⟩
  rw [Int.toNat_natCast, HL.out] at hyes
  obtain ⟨f, hf⟩ : ∃ f, hitB Wn n xs ss start cu ts = f := ⟨_, rfl⟩
  rw [hf] at hyes
  have HY := Lib.hid hyes; have HHF := Lib.hid hf
  have HS := Lib.hid hs; have HCT := Lib.hid hct; have HX := Lib.hid hx; have HSC := Lib.hid hsc
  clear hg hen hs hct hlen h25 hx hsc hyes hf HF
  go_enter Tryz.func18, Tryz.ntmps18
  go_wp2_with fail
  apply Mem.atA
  · exact memA
  clear hM
  intro wst hM
  (try simp only [World.size_alloc, World.size_setCell, World.heap_drewN, heapDrew, Nat.add_assoc, Nat.reduceAdd, sA, List.cons_append, List.nil_append] at hM)
  (first | refine (l8Asked_any Wn Hn a n c xs a1 n1 c1 sc a2 n2 c2 ss start _ (h.ext hM.below) (h1.ext hM.below) (h2.ext hM.below)).mono ?_)
  rw [HQ1.out]
  rintro e wc18 ⟨rfl, hb⟩
  replace hM := hM.ext hb
  clear hb
  obtain ⟨k0, f0, l0⟩ := hM.row .here
  go_wp2_with fail
  clear k0 f0 l0
  apply Mem.atA
  · exact memA
  clear hM
  intro wst hM
  (try simp only [World.size_alloc, World.size_setCell, World.heap_drewN, heapDrew, Nat.add_assoc, Nat.reduceAdd, sA, List.cons_append, List.nil_append] at hM)
  (first | refine (l25Good_any Wn Hn a n c xs a4 n4 c4 cu _ (h.ext hM.below) (h4.ext hM.below)).mono ?_)
  rw [HQ2.out]
  rintro e wc19 ⟨rfl, hb⟩
  replace hM := hM.ext hb
  clear hb
  obtain ⟨k0, f0, l0⟩ := hM.row .here
  go_wp2_with fail
  clear k0 f0 l0
  apply Mem.atA
  · exact memA
  clear hM
  intro wst hM
  (try simp only [World.size_alloc, World.size_setCell, World.heap_drewN, heapDrew, Nat.add_assoc, Nat.reduceAdd, sA, List.cons_append, List.nil_append] at hM)
  (first | refine (l9Asked_any Wn Hn a n c xs a2 n2 c2 ss a5 n5 c5 ts _ (h.ext hM.below) (h2.ext hM.below) (h5.ext hM.below)).mono ?_)
  rw [HQ3.out]
  rintro e wc20 ⟨rfl, hb⟩
  replace hM := hM.ext hb
  clear hb
  have HB := Lib.hid (fun k => wt_bnds (p := f) HSC.out hl4 k)
  have HTF := Lib.hid (fun k (hk : k < n1) => wtf_take (p := f) (sc := sc) (k := k) (by rw [h1.rd.len]; exact hk))
  have HMM := Lib.hid (fun k (hk : k < n1) => getD_mem' (sc := sc) (k := k) (by rw [h1.rd.len]; exact hk))
  have HSL := Lib.hid h1.rd.len
  have hrm : n1 ≤ 4 := by rw [← h1.rd.len]; exact hl4
  have hn1p : 1 ≤ n1 := by rw [← h1.rd.len]; exact hl1
  go_wp2_with fail
  go_loopw [15, 16] (fun s15 s16 wr => ∃ k : Nat, k ≤ n1 ∧ s16 = .int .i64 k ∧ s15 = .int .i64 (wtS ((sc.take k).filter f)) ∧ Mem w.heap.size w wr [rowE w.heap.size 26 #[.int .i64 Wn, .int .i64 Hn, .slice a n c]]) (fun _ s16 _ => n1 - (intOf s16).toNat)
  case atStart => exact ⟨0, Nat.zero_le _, rfl, rfl, hM⟩
  case round =>
    clear hM
    obtain ⟨k, hk, rfl, rfl, hM⟩ := hrel
    by_cases hlt : k < n1
    · obtain ⟨bl, offl, rfl, -, -⟩ := h1.rd.at' _ hlt
      obtain ⟨-, hc0, hc1⟩ := (h1.rd.ext hM.below).cellScenario hlt
      have htf := HTF.out k hlt
      have hb := (HB.out k).2
      have hmm := HMM.out k hlt
      have hph := h1.ph _ hmm
      obtain ⟨v, hv⟩ : ∃ v, sc.getD k ScenarioI.zero = v := ⟨_, rfl⟩
      rw [hv] at hc0 hc1 hmm htf hph
      have hpb := scenB_ph (HSC.out _ hmm)
      have hw := scen_wt (HSC.out _ hmm)
      have HV := Lib.hid hv
      clear hv
      obtain ⟨y, hy⟩ : ∃ y, f v = y := ⟨_, rfl⟩
      rw [hy] at htf
      rw [← HHF.out] at hy
      obtain ⟨ad, m, cc, ph, wt⟩ := v
      dsimp only at hc0 hc1 hw htf hph hpb
      have HHY := Lib.hid (show hldB Wn n xs ph ss start cu ts = y from hy)
      have HPB := Lib.hid hpb
      clear hy hmm hpb
      generalize wtS ((sc.take k).filter f) = qf at htf hb ⊢
      have HTF2 := Lib.hid htf
      clear htf
      have i0 : (0 : Int) ≤ (k : Int) := by omega
      have i1 : (k : Int) < (n1 : Int) := by omega
      have hwr2 : IntKind.i64.wrap (qf + wt) = qf + wt := wrap_in (by omega)
      clear hc0 hc1
      go_wp2_with fail
      apply Mem.atWpA
      · exact memA
      clear hM
      intro wst hM
      (try simp only [World.size_alloc, World.size_setCell, World.heap_drewN, heapDrew, Nat.add_assoc, Nat.reduceAdd, sA, List.cons_append, List.nil_append] at hM)
      refine AtF.startA hM hM 10 (by kernel_rfl) ?_
      clear hM
      intro wd hM
      have hS := hM
      refine AtF.tp 0 ?_ 44 [] ?_ hS ?_
      rotate_left
      · (intro wS hSw; (try dsimp only at hSw); have kr0 := (Mem.row hSw .here).cell; have hd0 := ((h1.rd.ext hSw.below).cellScenario hlt).2.1; rw [HV.out] at hd0; dsimp only at hd0; go_simp; (try rw [if_neg (by omega)]); try with_reducible rfl)
      simp only [Act.put, sA]
      refine AtF.tp 1 ?_ 45 [5, 4, 3] ?_ hS ?_
      rotate_left
      · (intro wS hSw; (try dsimp only at hSw); go_simp; (try rw [if_neg (by omega)]); try with_reducible rfl)
      simp only [Act.put, sA]
      refine AtF.tp 2 ?_ 46 [5, 4, 3] ?_ hS ?_
      rotate_left
      · (intro wS hSw; (try dsimp only at hSw); go_simp; (try rw [if_neg (by omega)]); try with_reducible rfl)
      simp only [Act.put, sA]
      refine AtF.tp 3 ?_ 47 [5, 4] ?_ hS ?_
      rotate_left
      · (intro wS hSw; (try dsimp only at hSw); have kr0 := (Mem.row hSw .here).cell; have hd0 := ((h1.rd.ext hSw.below).cellScenario hlt).2.1; rw [HV.out] at hd0; dsimp only at hd0; go_simp; (try rw [if_neg (by omega)]); try with_reducible rfl)
      simp only [Act.put, sA]
      refine AtF.tp 4 ?_ 48 [5] ?_ hS ?_
      rotate_left
      · (intro wS hSw; (try dsimp only at hSw); go_simp; (try rw [if_neg (by omega)]); try with_reducible rfl)
      simp only [Act.put, sA]
      refine AtF.tp 5 ?_ 49 [] ?_ hS ?_
      rotate_left
      · (intro wS hSw; (try dsimp only at hSw); have kr0 := (Mem.row hSw .here).cell; have hd0 := ((h1.rd.ext hSw.below).cellScenario hlt).2.1; rw [HV.out] at hd0; dsimp only at hd0; go_simp; (try rw [if_neg (by omega)]); try with_reducible rfl)
      simp only [Act.put, sA]
      refine AtF.tp 6 ?_ 50 [] ?_ hS ?_
      rotate_left
      · (intro wS hSw; (try dsimp only at hSw); go_simp; (try rw [if_neg (by omega)]); try with_reducible rfl)
      simp only [Act.put, sA]
      refine AtF.tp 7 ?_ 51 [] ?_ hS ?_
      rotate_left
      · (intro wS hSw; (try dsimp only at hSw); go_simp; (try rw [if_neg (by omega)]); try with_reducible rfl)
      simp only [Act.put, sA]
      refine AtF.tp 8 ?_ 52 [] ?_ hS ?_
      rotate_left
      · (intro wS hSw; (try dsimp only at hSw); go_simp; (try rw [if_neg (by omega)]); try with_reducible rfl)
      simp only [Act.put, sA]
      refine AtF.tp 9 ?_ 53 [] ?_ hS ?_
      rotate_left
      · (intro wS hSw; (try dsimp only at hSw); go_simp; (try rw [if_neg (by omega)]); try with_reducible rfl)
      simp only [Act.put, sA]
      refine AtF.last (by kernel_rfl) rfl (by kernel_rfl) ?_
      intro K hK
      clear hS
      go_simp
      refine (l25Hold_any Wn Hn a n c xs ad m cc ph a2 n2 c2 ss start a4 n4 c4 cu a5 n5 c5 ts _ (h.ext hM.below) (hph.ext hM.below) (h2.ext hM.below) (h4.ext hM.below) (h5.ext hM.below) hnp hn25 hW HX.out HPB.out hst HS.out HCT.out).mono ?_
      rw [HHY.out]
      rintro e w3 ⟨rfl, hb9⟩
      replace hM := hM.ext hb9
      clear hb9
      dsimp only
      refine hK.out _ _ ?_
      clear hK K
      cases y
      · go_wp2
        go_roundw
        case rel => exact ⟨k + 1, by omega, by go_num, by rw [HTF2.out]; simp, by (exact memA)⟩
        case measure => simp [intOf]; omega
      · obtain ⟨-, hc0, hc1⟩ := (h1.rd.ext hM.below).cellScenario hlt
        rw [HV.out] at hc0 hc1
        dsimp only at hc0 hc1
        go_wp2
        go_roundw
        case rel => exact ⟨k + 1, by omega, by go_num, by rw [HTF2.out]; simp, by (exact memA)⟩
        case measure => simp [intOf]; omega
    · obtain rfl : k = n1 := by omega
      have hb := (HB.out k).2
      have hb2 := (HB.out k).1
      have HTK := Lib.hid (List.take_of_length_le (show sc.length ≤ k by rw [HSL.out]; exact Nat.le_refl _))
      rw [HTK.out] at hb hb2 ⊢
      have hps := wtS_bnd HSC.out
      rw [HSL.out] at hps
      obtain ⟨r1, hr1⟩ : ∃ q, wtS (sc.filter f) = q := ⟨_, rfl⟩
      obtain ⟨r2, hr2⟩ : ∃ q, wtS sc = q := ⟨_, rfl⟩
      rw [hr1] at hb ⊢
      rw [hr2] at hb2 hps
      have HY2 := HY.out
      rw [hr1, hr2] at HY2
      have HR1 := Lib.hid hr1; have HR2 := Lib.hid hr2; have HR := Lib.hid HY2
      clear hr1 hr2 HY2 HY
      go_wp2_with fail
      apply Mem.atA
      · exact memA
      clear hM
      intro wst hM
      (try simp only [World.size_alloc, World.size_setCell, World.heap_drewN, heapDrew, Nat.add_assoc, Nat.reduceAdd, sA, List.cons_append, List.nil_append] at hM)
      (first | refine (l8All_any a1 k c1 sc _ (h1.rd.ext hM.below) HSC.out hl4).mono ?_)
      rw [HR2.out]
      rintro e wc21 ⟨rfl, rfl⟩
      go_wp2_with fail
      apply Mem.atA
      · exact memA
      clear hM
      intro wst hM
      (try simp only [World.size_alloc, World.size_setCell, World.heap_drewN, heapDrew, Nat.add_assoc, Nat.reduceAdd, sA, List.cons_append, List.nil_append] at hM)
      (first | refine (l8Reduce_any r1 r2 _ (by omega) (by omega)).mono ?_)
      rintro e wc22 ⟨rfl, hb⟩
      replace hM := hM.ext hb
      clear hb
      go_wp2
      go_ret3
      exact ⟨by rw [HR.out]; rfl, (by apply Mem.below; (exact memA))⟩
end Go.Proofs.YtojfbcgfeojdfaaGreat
