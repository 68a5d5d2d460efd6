/-
  Do the cuts hold: both sides.
-/
import Derived.Test.YtojfbcgfeojdfaaGreatKRegA
import Derived.Test.YtojfbcgfeojdfaaGreatKFire
import Derived.Test.YtojfbcgfeojdfaaGreatKCutsG
/-
  Do the cuts hold: both sides.
-/
namespace Go.Proofs.YtojfbcgfeojdfaaGreat
set_option linter.unusedSimpArgs false
set_option linter.unusedVariables false
open Go.RowKit

set_option maxRecDepth 100000 in
set_option maxHeartbeats 30000000 in
theorem implHold_any (W H : Int) (a : Option Addr) (n c : Nat) (xs : List Int) (a1 : Option Addr) (n1 c1 : Nat) (ph : List PhaseI) (a2 : Option Addr) (n2 c2 : Nat) (ss : List Int) (start : Int) (a4 : Option Addr) (n4 c4 : Nat) (cu : List CutI) (a5 : Option Addr) (n5 c5 : Nat) (ts : List Int) (w : World) (h : Ints w a n c xs) (h1 : Rd FPhase w a1 n1 c1 ph) (h2 : Ints w a2 n2 c2 ss) (h4 : Rd FCut w a4 n4 c4 cu) (h5 : Ints w a5 n5 c5 ts) :
    Calls Tryz.prog 7 #[.agg #[.int .i64 W, .int .i64 H, .slice a n c], .slice a1 n1 c1, .slice a2 n2 c2, .int .i64 start, .slice a4 n4 c4, .slice a5 n5 c5] w (fun e w' => e = .returned (.tuple #[.bool (doHoldR W H xs ph ss start cu ts).a, .bool (doHoldR W H xs ph ss start cu ts).ok]) ∧ Below w.heap.size w w') := by
  have hM := Mem.start w
  have HL := Lib.hid h.len
  obtain ⟨q1, hq1⟩ : ∃ q, askB W H xs n ph ss start = q := ⟨_, rfl⟩
  obtain ⟨q2, hq2⟩ : ∃ q, cutsB W H xs cu = q := ⟨_, rfl⟩
  obtain ⟨q3, hq3⟩ : ∃ q, caseB W H xs n ss ts = q := ⟨_, rfl⟩
  have HF := Lib.hid (show doHoldR W H xs ph ss start cu ts = if q1 && q2 && q3 then ⟨hldB W.toNat n xs ph ss start cu ts, true⟩ else ⟨false, false⟩ by rw [doHoldR, h.len, hq1, hq2, hq3])
  have HQ1 := Lib.hid hq1; have HQ2 := Lib.hid hq2; have HQ3 := Lib.hid hq3
  clear hq1 hq2 hq3
  cases q1
  · have HR := Lib.hid (show doHoldR W H xs ph ss start cu ts = ⟨false, false⟩ from HF.out)
    go_enter Tryz.func7, Tryz.ntmps7
    go_wp2_with fail
    apply Mem.atA
    · exact memA
    clear hM
    intro wst hM
    (try simp only [World.size_alloc, World.size_setCell, World.heap_drewN, heapDrew, Nat.add_assoc, Nat.reduceAdd, sA, List.cons_append, List.nil_append] at hM)
    apply Calls.mono
    · (apply isFire_any) <;> (first | (show (_ : Prop); with_reducible assumption) | (apply Hid.out; with_reducible assumption) | (apply Mem.intsR hM; (repeat' (first | with_reducible exact In.here | with_reducible apply In.there)); done) | (apply Ints.ext (hb := hM.below); with_reducible assumption) | (apply Rd.ext (hb := hM.below); with_reducible assumption) | (apply Mem.row hM; (repeat' (first | with_reducible exact In.here | with_reducible apply In.there)); done) | (apply Row.ext (hb := hM.below); with_reducible assumption) | exact ⟨by omega, by omega⟩ | omega | (trace_state; fail))
    rw [HQ1.out]
    rintro e wc1 ⟨rfl, hb⟩
    replace hM := hM.ext hb
    clear hb
    go_wp2
    go_ret2
    exact ⟨by rw [HR.out]; rfl, (by apply Mem.below; (exact memA))⟩
  cases q2
  · have HR := Lib.hid (show doHoldR W H xs ph ss start cu ts = ⟨false, false⟩ from HF.out)
    go_enter Tryz.func7, Tryz.ntmps7
    go_wp2_with fail
    apply Mem.atA
    · exact memA
    clear hM
    intro wst hM
    (try simp only [World.size_alloc, World.size_setCell, World.heap_drewN, heapDrew, Nat.add_assoc, Nat.reduceAdd, sA, List.cons_append, List.nil_append] at hM)
    apply Calls.mono
    · (apply isFire_any) <;> (first | (show (_ : Prop); with_reducible assumption) | (apply Hid.out; with_reducible assumption) | (apply Mem.intsR hM; (repeat' (first | with_reducible exact In.here | with_reducible apply In.there)); done) | (apply Ints.ext (hb := hM.below); with_reducible assumption) | (apply Rd.ext (hb := hM.below); with_reducible assumption) | (apply Mem.row hM; (repeat' (first | with_reducible exact In.here | with_reducible apply In.there)); done) | (apply Row.ext (hb := hM.below); with_reducible assumption) | exact ⟨by omega, by omega⟩ | omega | (trace_state; fail))
    rw [HQ1.out]
    rintro e wc2 ⟨rfl, hb⟩
    replace hM := hM.ext hb
    clear hb
    obtain ⟨k0, f0, l0⟩ := hM.row .here
    go_wp2_with fail
    clear k0 f0 l0
    apply Mem.atA
    · exact memA
    clear hM
    intro wst hM
    (try simp only [World.size_alloc, World.size_setCell, World.heap_drewN, heapDrew, Nat.add_assoc, Nat.reduceAdd, sA, List.cons_append, List.nil_append] at hM)
    apply Calls.mono
    · (apply areCuts_any) <;> (first | (show (_ : Prop); with_reducible assumption) | (apply Hid.out; with_reducible assumption) | (apply Mem.intsR hM; (repeat' (first | with_reducible exact In.here | with_reducible apply In.there)); done) | (apply Ints.ext (hb := hM.below); with_reducible assumption) | (apply Rd.ext (hb := hM.below); with_reducible assumption) | (apply Mem.row hM; (repeat' (first | with_reducible exact In.here | with_reducible apply In.there)); done) | (apply Row.ext (hb := hM.below); with_reducible assumption) | exact ⟨by omega, by omega⟩ | omega | (trace_state; fail))
    rw [HQ2.out]
    rintro e wc3 ⟨rfl, hb⟩
    replace hM := hM.ext hb
    clear hb
    go_wp2
    go_ret2
    exact ⟨by rw [HR.out]; rfl, (by apply Mem.below; (exact memA))⟩
  cases q3
  · have HR := Lib.hid (show doHoldR W H xs ph ss start cu ts = ⟨false, false⟩ from HF.out)
    go_enter Tryz.func7, Tryz.ntmps7
    go_wp2_with fail
    apply Mem.atA
    · exact memA
    clear hM
    intro wst hM
    (try simp only [World.size_alloc, World.size_setCell, World.heap_drewN, heapDrew, Nat.add_assoc, Nat.reduceAdd, sA, List.cons_append, List.nil_append] at hM)
    apply Calls.mono
    · (apply isFire_any) <;> (first | (show (_ : Prop); with_reducible assumption) | (apply Hid.out; with_reducible assumption) | (apply Mem.intsR hM; (repeat' (first | with_reducible exact In.here | with_reducible apply In.there)); done) | (apply Ints.ext (hb := hM.below); with_reducible assumption) | (apply Rd.ext (hb := hM.below); with_reducible assumption) | (apply Mem.row hM; (repeat' (first | with_reducible exact In.here | with_reducible apply In.there)); done) | (apply Row.ext (hb := hM.below); with_reducible assumption) | exact ⟨by omega, by omega⟩ | omega | (trace_state; fail))
    rw [HQ1.out]
    rintro e wc4 ⟨rfl, hb⟩
    replace hM := hM.ext hb
    clear hb
    obtain ⟨k0, f0, l0⟩ := hM.row .here
    go_wp2_with fail
    clear k0 f0 l0
    apply Mem.atA
    · exact memA
    clear hM
    intro wst hM
    (try simp only [World.size_alloc, World.size_setCell, World.heap_drewN, heapDrew, Nat.add_assoc, Nat.reduceAdd, sA, List.cons_append, List.nil_append] at hM)
    apply Calls.mono
    · (apply areCuts_any) <;> (first | (show (_ : Prop); with_reducible assumption) | (apply Hid.out; with_reducible assumption) | (apply Mem.intsR hM; (repeat' (first | with_reducible exact In.here | with_reducible apply In.there)); done) | (apply Ints.ext (hb := hM.below); with_reducible assumption) | (apply Rd.ext (hb := hM.below); with_reducible assumption) | (apply Mem.row hM; (repeat' (first | with_reducible exact In.here | with_reducible apply In.there)); done) | (apply Row.ext (hb := hM.below); with_reducible assumption) | exact ⟨by omega, by omega⟩ | omega | (trace_state; fail))
    rw [HQ2.out]
    rintro e wc5 ⟨rfl, hb⟩
    replace hM := hM.ext hb
    clear hb
    obtain ⟨k0, f0, l0⟩ := hM.row .here
    go_wp2_with fail
    clear k0 f0 l0
    apply Mem.atA
    · exact memA
    clear hM
    intro wst hM
    (try simp only [World.size_alloc, World.size_setCell, World.heap_drewN, heapDrew, Nat.add_assoc, Nat.reduceAdd, sA, List.cons_append, List.nil_append] at hM)
    apply Calls.mono
    · (apply isCase_any _ _ _ _ _ xs) <;> (first | (show (_ : Prop); with_reducible assumption) | (apply Hid.out; with_reducible assumption) | (apply Mem.intsR hM; (repeat' (first | with_reducible exact In.here | with_reducible apply In.there)); done) | (apply Ints.ext (hb := hM.below); with_reducible assumption) | (apply Rd.ext (hb := hM.below); with_reducible assumption) | (apply Mem.row hM; (repeat' (first | with_reducible exact In.here | with_reducible apply In.there)); done) | (apply Row.ext (hb := hM.below); with_reducible assumption) | exact ⟨by omega, by omega⟩ | omega | (trace_state; fail))
    rw [HQ3.out]
    rintro e wc6 ⟨rfl, hb⟩
    replace hM := hM.ext hb
    clear hb
    go_wp2
    go_ret2
    exact ⟨by rw [HR.out]; rfl, (by apply Mem.below; (exact memA))⟩
  obtain ⟨hg, hp, hs, hst⟩ := askB_true HQ1.out
  obtain ⟨-, hct, -⟩ := cutsB_true HQ2.out
  obtain ⟨Wn, Hn, rfl, rfl, p1, p2, p3, p4, hlen, h25, hx⟩ := goodB_true hg
  have hn25 : n ≤ 25 := by rw [← HL.out]; exact h25
  have hnp : 0 < n := by rw [← HL.out, hlen]; exact Nat.mul_pos p1 p3
  have hW : 1 ≤ Wn ∧ Wn ≤ 5 := ⟨p1, p2⟩
  have HR := Lib.hid (show doHoldR Wn Hn xs ph ss start cu ts = ⟨hldB Wn n xs ph ss start cu ts, true⟩ from HF.out)
  have HP := Lib.hid hp; have HS := Lib.hid hs; have HCT := Lib.hid hct; have HX := Lib.hid hx
  clear hg hp hs hct hlen h25 hx
  go_enter Tryz.func7, Tryz.ntmps7
  go_wp2_with fail
  apply Mem.atA
  · exact memA
  clear hM
  intro wst hM
  (try simp only [World.size_alloc, World.size_setCell, World.heap_drewN, heapDrew, Nat.add_assoc, Nat.reduceAdd, sA, List.cons_append, List.nil_append] at hM)
  apply Calls.mono
  · (apply isFire_any) <;> (first | (show (_ : Prop); with_reducible assumption) | (apply Hid.out; with_reducible assumption) | (apply Mem.intsR hM; (repeat' (first | with_reducible exact In.here | with_reducible apply In.there)); done) | (apply Ints.ext (hb := hM.below); with_reducible assumption) | (apply Rd.ext (hb := hM.below); with_reducible assumption) | (apply Mem.row hM; (repeat' (first | with_reducible exact In.here | with_reducible apply In.there)); done) | (apply Row.ext (hb := hM.below); with_reducible assumption) | exact ⟨by omega, by omega⟩ | omega | (trace_state; fail))
  rw [HQ1.out]
  rintro e wc7 ⟨rfl, hb⟩
  replace hM := hM.ext hb
  clear hb
  obtain ⟨k0, f0, l0⟩ := hM.row .here
  go_wp2_with fail
  clear k0 f0 l0
  apply Mem.atA
  · exact memA
  clear hM
  intro wst hM
  (try simp only [World.size_alloc, World.size_setCell, World.heap_drewN, heapDrew, Nat.add_assoc, Nat.reduceAdd, sA, List.cons_append, List.nil_append] at hM)
  apply Calls.mono
  · (apply areCuts_any) <;> (first | (show (_ : Prop); with_reducible assumption) | (apply Hid.out; with_reducible assumption) | (apply Mem.intsR hM; (repeat' (first | with_reducible exact In.here | with_reducible apply In.there)); done) | (apply Ints.ext (hb := hM.below); with_reducible assumption) | (apply Rd.ext (hb := hM.below); with_reducible assumption) | (apply Mem.row hM; (repeat' (first | with_reducible exact In.here | with_reducible apply In.there)); done) | (apply Row.ext (hb := hM.below); with_reducible assumption) | exact ⟨by omega, by omega⟩ | omega | (trace_state; fail))
  rw [HQ2.out]
  rintro e wc8 ⟨rfl, hb⟩
  replace hM := hM.ext hb
  clear hb
  obtain ⟨k0, f0, l0⟩ := hM.row .here
  go_wp2_with fail
  clear k0 f0 l0
  apply Mem.atA
  · exact memA
  clear hM
  intro wst hM
  (try simp only [World.size_alloc, World.size_setCell, World.heap_drewN, heapDrew, Nat.add_assoc, Nat.reduceAdd, sA, List.cons_append, List.nil_append] at hM)
  apply Calls.mono
  · (apply isCase_any _ _ _ _ _ xs) <;> (first | (show (_ : Prop); with_reducible assumption) | (apply Hid.out; with_reducible assumption) | (apply Mem.intsR hM; (repeat' (first | with_reducible exact In.here | with_reducible apply In.there)); done) | (apply Ints.ext (hb := hM.below); with_reducible assumption) | (apply Rd.ext (hb := hM.below); with_reducible assumption) | (apply Mem.row hM; (repeat' (first | with_reducible exact In.here | with_reducible apply In.there)); done) | (apply Row.ext (hb := hM.below); with_reducible assumption) | exact ⟨by omega, by omega⟩ | omega | (trace_state; fail))
  rw [HQ3.out]
  rintro e wc9 ⟨rfl, hb⟩
  replace hM := hM.ext hb
  clear hb
  obtain ⟨k0, f0, l0⟩ := hM.row .here
  go_wp2_with fail
  clear k0 f0 l0
  apply Mem.atA
  · exact memA
  clear hM
  intro wst hM
  (try simp only [World.size_alloc, World.size_setCell, World.heap_drewN, heapDrew, Nat.add_assoc, Nat.reduceAdd, sA, List.cons_append, List.nil_append] at hM)
  (first | refine (hold_any Wn Hn a n c xs a1 n1 c1 ph a2 n2 c2 ss start a4 n4 c4 cu a5 n5 c5 ts _ (h.ext hM.below) (h1.ext hM.below) (h2.ext hM.below) (h4.ext hM.below) (h5.ext hM.below) hnp hn25 hW HX.out HP.out hst HS.out HCT.out).mono ?_)
  rintro e wc10 ⟨rfl, hb⟩
  replace hM := hM.ext hb
  clear hb
  go_wp2
  go_ret2
  exact ⟨by rw [HR.out]; rfl, (by apply Mem.below; (exact memA))⟩
set_option maxRecDepth 100000 in
set_option maxHeartbeats 30000000 in
theorem specHold_any (W H : Int) (a : Option Addr) (n c : Nat) (xs : List Int) (a1 : Option Addr) (n1 c1 : Nat) (ph : List PhaseI) (a2 : Option Addr) (n2 c2 : Nat) (ss : List Int) (start : Int) (a4 : Option Addr) (n4 c4 : Nat) (cu : List CutI) (a5 : Option Addr) (n5 c5 : Nat) (ts : List Int) (w : World) (h : Ints w a n c xs) (h1 : Rd FPhase w a1 n1 c1 ph) (h2 : Ints w a2 n2 c2 ss) (h4 : Rd FCut w a4 n4 c4 cu) (h5 : Ints w a5 n5 c5 ts) :
    Calls Tryz.prog 8 #[.agg #[.int .i64 W, .int .i64 H, .slice a n c], .slice a1 n1 c1, .slice a2 n2 c2, .int .i64 start, .slice a4 n4 c4, .slice a5 n5 c5] w (fun e w' => e = .returned (.tuple #[.bool (doHoldR W H xs ph ss start cu ts).a, .bool (doHoldR W H xs ph ss start cu ts).ok]) ∧ Below w.heap.size w w') := by
  have hM := Mem.start w
  have HL := Lib.hid h.len
  obtain ⟨q1, hq1⟩ : ∃ q, askB W H xs n ph ss start = q := ⟨_, rfl⟩
  obtain ⟨q2, hq2⟩ : ∃ q, cutsB W H xs cu = q := ⟨_, rfl⟩
  obtain ⟨q3, hq3⟩ : ∃ q, caseB W H xs n ss ts = q := ⟨_, rfl⟩
  have HF := Lib.hid (show doHoldR W H xs ph ss start cu ts = if q1 && q2 && q3 then ⟨hldB W.toNat n xs ph ss start cu ts, true⟩ else ⟨false, false⟩ by rw [doHoldR, h.len, hq1, hq2, hq3])
  have HQ1 := Lib.hid hq1; have HQ2 := Lib.hid hq2; have HQ3 := Lib.hid hq3
  clear hq1 hq2 hq3
  cases q1
  · have HR := Lib.hid (show doHoldR W H xs ph ss start cu ts = ⟨false, false⟩ from HF.out)
    go_enter Tryz.func8, Tryz.ntmps8
    go_wp2_with fail
    apply Mem.atA
    · exact memA
    clear hM
    intro wst hM
    (try simp only [World.size_alloc, World.size_setCell, World.heap_drewN, heapDrew, Nat.add_assoc, Nat.reduceAdd, sA, List.cons_append, List.nil_append] at hM)
    apply Calls.mono
    · (apply l4Asked_any) <;> (first | (show (_ : Prop); with_reducible assumption) | (apply Hid.out; with_reducible assumption) | (apply Mem.intsR hM; (repeat' (first | with_reducible exact In.here | with_reducible apply In.there)); done) | (apply Ints.ext (hb := hM.below); with_reducible assumption) | (apply Rd.ext (hb := hM.below); with_reducible assumption) | (apply Mem.row hM; (repeat' (first | with_reducible exact In.here | with_reducible apply In.there)); done) | (apply Row.ext (hb := hM.below); with_reducible assumption) | exact ⟨by omega, by omega⟩ | omega | (trace_state; fail))
    rw [HQ1.out]
    rintro e wc11 ⟨rfl, hb⟩
    replace hM := hM.ext hb
    clear hb
    go_wp2
    go_ret2
    exact ⟨by rw [HR.out]; rfl, (by apply Mem.below; (exact memA))⟩
  cases q2
  · have HR := Lib.hid (show doHoldR W H xs ph ss start cu ts = ⟨false, false⟩ from HF.out)
    go_enter Tryz.func8, Tryz.ntmps8
    go_wp2_with fail
    apply Mem.atA
    · exact memA
    clear hM
    intro wst hM
    (try simp only [World.size_alloc, World.size_setCell, World.heap_drewN, heapDrew, Nat.add_assoc, Nat.reduceAdd, sA, List.cons_append, List.nil_append] at hM)
    apply Calls.mono
    · (apply l4Asked_any) <;> (first | (show (_ : Prop); with_reducible assumption) | (apply Hid.out; with_reducible assumption) | (apply Mem.intsR hM; (repeat' (first | with_reducible exact In.here | with_reducible apply In.there)); done) | (apply Ints.ext (hb := hM.below); with_reducible assumption) | (apply Rd.ext (hb := hM.below); with_reducible assumption) | (apply Mem.row hM; (repeat' (first | with_reducible exact In.here | with_reducible apply In.there)); done) | (apply Row.ext (hb := hM.below); with_reducible assumption) | exact ⟨by omega, by omega⟩ | omega | (trace_state; fail))
    rw [HQ1.out]
    rintro e wc12 ⟨rfl, hb⟩
    replace hM := hM.ext hb
    clear hb
    obtain ⟨k0, f0, l0⟩ := hM.row .here
    go_wp2_with fail
    clear k0 f0 l0
    apply Mem.atA
    · exact memA
    clear hM
    intro wst hM
    (try simp only [World.size_alloc, World.size_setCell, World.heap_drewN, heapDrew, Nat.add_assoc, Nat.reduceAdd, sA, List.cons_append, List.nil_append] at hM)
    apply Calls.mono
    · (apply l25Good_any) <;> (first | (show (_ : Prop); with_reducible assumption) | (apply Hid.out; with_reducible assumption) | (apply Mem.intsR hM; (repeat' (first | with_reducible exact In.here | with_reducible apply In.there)); done) | (apply Ints.ext (hb := hM.below); with_reducible assumption) | (apply Rd.ext (hb := hM.below); with_reducible assumption) | (apply Mem.row hM; (repeat' (first | with_reducible exact In.here | with_reducible apply In.there)); done) | (apply Row.ext (hb := hM.below); with_reducible assumption) | exact ⟨by omega, by omega⟩ | omega | (trace_state; fail))
    rw [HQ2.out]
    rintro e wc13 ⟨rfl, hb⟩
    replace hM := hM.ext hb
    clear hb
    go_wp2
    go_ret2
    exact ⟨by rw [HR.out]; rfl, (by apply Mem.below; (exact memA))⟩
  cases q3
  · have HR := Lib.hid (show doHoldR W H xs ph ss start cu ts = ⟨false, false⟩ from HF.out)
    go_enter Tryz.func8, Tryz.ntmps8
    go_wp2_with fail
    apply Mem.atA
    · exact memA
    clear hM
    intro wst hM
    (try simp only [World.size_alloc, World.size_setCell, World.heap_drewN, heapDrew, Nat.add_assoc, Nat.reduceAdd, sA, List.cons_append, List.nil_append] at hM)
    apply Calls.mono
    · (apply l4Asked_any) <;> (first | (show (_ : Prop); with_reducible assumption) | (apply Hid.out; with_reducible assumption) | (apply Mem.intsR hM; (repeat' (first | with_reducible exact In.here | with_reducible apply In.there)); done) | (apply Ints.ext (hb := hM.below); with_reducible assumption) | (apply Rd.ext (hb := hM.below); with_reducible assumption) | (apply Mem.row hM; (repeat' (first | with_reducible exact In.here | with_reducible apply In.there)); done) | (apply Row.ext (hb := hM.below); with_reducible assumption) | exact ⟨by omega, by omega⟩ | omega | (trace_state; fail))
    rw [HQ1.out]
    rintro e wc14 ⟨rfl, hb⟩
    replace hM := hM.ext hb
    clear hb
    obtain ⟨k0, f0, l0⟩ := hM.row .here
    go_wp2_with fail
    clear k0 f0 l0
    apply Mem.atA
    · exact memA
    clear hM
    intro wst hM
    (try simp only [World.size_alloc, World.size_setCell, World.heap_drewN, heapDrew, Nat.add_assoc, Nat.reduceAdd, sA, List.cons_append, List.nil_append] at hM)
    apply Calls.mono
    · (apply l25Good_any) <;> (first | (show (_ : Prop); with_reducible assumption) | (apply Hid.out; with_reducible assumption) | (apply Mem.intsR hM; (repeat' (first | with_reducible exact In.here | with_reducible apply In.there)); done) | (apply Ints.ext (hb := hM.below); with_reducible assumption) | (apply Rd.ext (hb := hM.below); with_reducible assumption) | (apply Mem.row hM; (repeat' (first | with_reducible exact In.here | with_reducible apply In.there)); done) | (apply Row.ext (hb := hM.below); with_reducible assumption) | exact ⟨by omega, by omega⟩ | omega | (trace_state; fail))
    rw [HQ2.out]
    rintro e wc15 ⟨rfl, hb⟩
    replace hM := hM.ext hb
    clear hb
    obtain ⟨k0, f0, l0⟩ := hM.row .here
    go_wp2_with fail
    clear k0 f0 l0
    apply Mem.atA
    · exact memA
    clear hM
    intro wst hM
    (try simp only [World.size_alloc, World.size_setCell, World.heap_drewN, heapDrew, Nat.add_assoc, Nat.reduceAdd, sA, List.cons_append, List.nil_append] at hM)
    apply Calls.mono
    · (apply l9Asked_any _ _ _ _ _ xs) <;> (first | (show (_ : Prop); with_reducible assumption) | (apply Hid.out; with_reducible assumption) | (apply Mem.intsR hM; (repeat' (first | with_reducible exact In.here | with_reducible apply In.there)); done) | (apply Ints.ext (hb := hM.below); with_reducible assumption) | (apply Rd.ext (hb := hM.below); with_reducible assumption) | (apply Mem.row hM; (repeat' (first | with_reducible exact In.here | with_reducible apply In.there)); done) | (apply Row.ext (hb := hM.below); with_reducible assumption) | exact ⟨by omega, by omega⟩ | omega | (trace_state; fail))
    rw [HQ3.out]
    rintro e wc16 ⟨rfl, hb⟩
    replace hM := hM.ext hb
    clear hb
    go_wp2
    go_ret2
    exact ⟨by rw [HR.out]; rfl, (by apply Mem.below; (exact memA))⟩
  obtain ⟨hg, hp, hs, hst⟩ := askB_true HQ1.out
  obtain ⟨-, hct, -⟩ := cutsB_true HQ2.out
  obtain ⟨Wn, Hn, rfl, rfl, p1, p2, p3, p4, hlen, h25, hx⟩ := goodB_true hg
  have hn25 : n ≤ 25 := by rw [← HL.out]; exact h25
  have hnp : 0 < n := by rw [← HL.out, hlen]; exact Nat.mul_pos p1 p3
  have hW : 1 ≤ Wn ∧ Wn ≤ 5 := ⟨p1, p2⟩
  have HR := Lib.hid (show doHoldR Wn Hn xs ph ss start cu ts = ⟨hldB Wn n xs ph ss start cu ts, true⟩ from HF.out)
  have HP := Lib.hid hp; have HS := Lib.hid hs; have HCT := Lib.hid hct; have HX := Lib.hid hx
  clear hg hp hs hct hlen h25 hx
  go_enter Tryz.func8, Tryz.ntmps8
  go_wp2_with fail
  apply Mem.atA
  · exact memA
  clear hM
  intro wst hM
  (try simp only [World.size_alloc, World.size_setCell, World.heap_drewN, heapDrew, Nat.add_assoc, Nat.reduceAdd, sA, List.cons_append, List.nil_append] at hM)
  apply Calls.mono
  · (apply l4Asked_any) <;> (first | (show (_ : Prop); with_reducible assumption) | (apply Hid.out; with_reducible assumption) | (apply Mem.intsR hM; (repeat' (first | with_reducible exact In.here | with_reducible apply In.there)); done) | (apply Ints.ext (hb := hM.below); with_reducible assumption) | (apply Rd.ext (hb := hM.below); with_reducible assumption) | (apply Mem.row hM; (repeat' (first | with_reducible exact In.here | with_reducible apply In.there)); done) | (apply Row.ext (hb := hM.below); with_reducible assumption) | exact ⟨by omega, by omega⟩ | omega | (trace_state; fail))
  rw [HQ1.out]
  rintro e wc17 ⟨rfl, hb⟩
  replace hM := hM.ext hb
  clear hb
  obtain ⟨k0, f0, l0⟩ := hM.row .here
  go_wp2_with fail
  clear k0 f0 l0
  apply Mem.atA
  · exact memA
  clear hM
  intro wst hM
  (try simp only [World.size_alloc, World.size_setCell, World.heap_drewN, heapDrew, Nat.add_assoc, Nat.reduceAdd, sA, List.cons_append, List.nil_append] at hM)
  apply Calls.mono
  · (apply l25Good_any) <;> (first | (show (_ : Prop); with_reducible assumption) | (apply Hid.out; with_reducible assumption) | (apply Mem.intsR hM; (repeat' (first | with_reducible exact In.here | with_reducible apply In.there)); done) | (apply Ints.ext (hb := hM.below); with_reducible assumption) | (apply Rd.ext (hb := hM.below); with_reducible assumption) | (apply Mem.row hM; (repeat' (first | with_reducible exact In.here | with_reducible apply In.there)); done) | (apply Row.ext (hb := hM.below); with_reducible assumption) | exact ⟨by omega, by omega⟩ | omega | (trace_state; fail))
  rw [HQ2.out]
  rintro e wc18 ⟨rfl, hb⟩
  replace hM := hM.ext hb
  clear hb
  obtain ⟨k0, f0, l0⟩ := hM.row .here
  go_wp2_with fail
  clear k0 f0 l0
  apply Mem.atA
  · exact memA
  clear hM
  intro wst hM
  (try simp only [World.size_alloc, World.size_setCell, World.heap_drewN, heapDrew, Nat.add_assoc, Nat.reduceAdd, sA, List.cons_append, List.nil_append] at hM)
  apply Calls.mono
  · (apply l9Asked_any _ _ _ _ _ xs) <;> (first | (show (_ : Prop); with_reducible assumption) | (apply Hid.out; with_reducible assumption) | (apply Mem.intsR hM; (repeat' (first | with_reducible exact In.here | with_reducible apply In.there)); done) | (apply Ints.ext (hb := hM.below); with_reducible assumption) | (apply Rd.ext (hb := hM.below); with_reducible assumption) | (apply Mem.row hM; (repeat' (first | with_reducible exact In.here | with_reducible apply In.there)); done) | (apply Row.ext (hb := hM.below); with_reducible assumption) | exact ⟨by omega, by omega⟩ | omega | (trace_state; fail))
  rw [HQ3.out]
  rintro e wc19 ⟨rfl, hb⟩
  replace hM := hM.ext hb
  clear hb
  obtain ⟨k0, f0, l0⟩ := hM.row .here
  go_wp2_with fail
  clear k0 f0 l0
  apply Mem.atA
  · exact memA
  clear hM
  intro wst hM
  (try simp only [World.size_alloc, World.size_setCell, World.heap_drewN, heapDrew, Nat.add_assoc, Nat.reduceAdd, sA, List.cons_append, List.nil_append] at hM)
  (first | refine (l25Hold_any Wn Hn a n c xs a1 n1 c1 ph a2 n2 c2 ss start a4 n4 c4 cu a5 n5 c5 ts _ (h.ext hM.below) (h1.ext hM.below) (h2.ext hM.below) (h4.ext hM.below) (h5.ext hM.below) hnp hn25 hW HX.out HP.out hst HS.out HCT.out).mono ?_)
  rintro e wc20 ⟨rfl, hb⟩
  replace hM := hM.ext hb
  clear hb
  go_wp2
  go_ret2
  exact ⟨by rw [HR.out]; rfl, (by apply Mem.below; (exact memA))⟩

end Go.Proofs.YtojfbcgfeojdfaaGreat
