/-
  The chance that cuts hold: both sides.
-/
import Derived.Test.YtojfbcgfeojdfaaGreatKFrac
import Derived.Test.YtojfbcgfeojdfaaGreatKDoHold
import Derived.Test.YtojfbcgfeojdfaaGreatKPhases
import Derived.Test.YtojfbcgfeojdfaaGreatKPhasesS
import Derived.Test.YtojfbcgfeojdfaaGreatKArrD
/-
  The chance that cuts hold: both sides.
-/
namespace Go.Proofs.YtojfbcgfeojdfaaGreat
set_option linter.unusedSimpArgs false
set_option linter.unusedVariables false
open Go.RowKit

def scenB (x : ScenarioI) : Bool := phasesB x.ph && inB x.wt 1 100
def ensB (xs : List ScenarioI) : Bool := xs.all scenB && inB xs.length 1 4
def wtS : List ScenarioI → Int
  | [] => 0
  | x :: xs => x.wt + wtS xs
theorem wtS_snoc (xs : List ScenarioI) (y : ScenarioI) : wtS (xs ++ [y]) = wtS xs + y.wt := by
  induction xs with
  | nil => simp [wtS]
  | cons x xs ih => rw [List.cons_append, wtS, wtS, ih]; omega
theorem wtS_bnd {xs : List ScenarioI} (h : ∀ x ∈ xs, scenB x = true) : (xs.length : Int) ≤ wtS xs ∧ wtS xs ≤ 100 * xs.length := by
  induction xs with
  | nil => simp [wtS]
  | cons x xs ih =>
    have h1 := ih (fun y hy => h y (List.mem_cons_of_mem _ hy))
    have h2 := h x (List.mem_cons_self ..)
    unfold scenB at h2
    rw [Bool.and_eq_true] at h2
    have h3 := inB_true h2.2
    rw [wtS, List.length_cons]
    push_cast
    omega
theorem wtS_fil {p : ScenarioI → Bool} {xs : List ScenarioI} (h : ∀ x ∈ xs, scenB x = true) : 0 ≤ wtS (xs.filter p) ∧ wtS (xs.filter p) ≤ 100 * xs.length := by
  have h1 := wtS_bnd (xs := xs.filter p) (fun x hx => h x (List.mem_filter.1 hx).1)
  have h2 := List.length_filter_le p xs
  omega
theorem fil_snoc {p : ScenarioI → Bool} (xs : List ScenarioI) (y : ScenarioI) : wtS ((xs ++ [y]).filter p) = wtS (xs.filter p) + if p y = true then y.wt else 0 := by
  rw [List.filter_append]
  cases h : p y
  · simp [h]
  · rw [List.filter_cons_of_pos h, List.filter_nil, wtS_snoc]; rfl
def blazeB (W H : Int) (xs : List Int) (n : Nat) (sc : List ScenarioI) (ss : List Int) (start : Int) : Bool := goodB 20 W H xs && ensB sc && setB n ss && inB start 0 1000
structure Ch3 where
  a : Int
  b : Int
  ok : Bool
noncomputable def hitB (W n : Nat) (xs : List Int) (ss : List Int) (start : Int) (cu : List CutI) (ts : List Int) (x : ScenarioI) : Bool := hldB W n xs x.ph ss start cu ts
noncomputable def chanceR (W H : Int) (xs : List Int) (sc : List ScenarioI) (ss : List Int) (start : Int) (cu : List CutI) (ts : List Int) : Ch3 :=
  if blazeB W H xs xs.length sc ss start && cutsB W H xs cu && caseB W H xs xs.length ss ts then ⟨redA (wtS (sc.filter (hitB W.toNat xs.length xs ss start cu ts))) (wtS sc), redB (wtS (sc.filter (hitB W.toNat xs.length xs ss start cu ts))) (wtS sc), true⟩ else ⟨0, 0, false⟩
theorem ensB_true {sc : List ScenarioI} (h : ensB sc = true) : (∀ x ∈ sc, scenB x = true) ∧ 1 ≤ sc.length ∧ sc.length ≤ 4 := by
  unfold ensB at h
  rw [Bool.and_eq_true, List.all_eq_true] at h
  have := inB_true h.2
  exact ⟨h.1, by omega, by omega⟩

theorem ens1_any (x : ScenarioI) (w : World) (h : Rd FPhase w x.ad x.n x.c x.ph) : Calls Tryz.prog 138 #[x.val] w fun e w' => e = .returned (.bool (scenB x)) ∧ Below w.heap.size w w' := by
  have hM := Mem.start w
  obtain ⟨ad, n, c, ph, wt⟩ := x
  dsimp only at h
  cases hp : phasesB ph
  · have HF := Lib.hid (show scenB ⟨ad, n, c, ph, wt⟩ = false by unfold scenB; dsimp only; rw [hp]; rfl)
    have HP := Lib.hid hp; clear hp
    go_enter Tryz.func138, Tryz.ntmps138
    go_wp2_with fail
    apply Mem.atA
    · exact memA
    clear hM
    intro wst hM
    (try simp only [World.size_alloc, World.size_setCell, World.heap_drewN, heapDrew, Nat.add_assoc, Nat.reduceAdd, sA, List.cons_append, List.nil_append] at hM)
    (first | refine (arePhases_any ad n c ph _ (h.ext hM.below)).mono ?_)
    rw [HP.out]
    rintro e wc1 ⟨rfl, hb⟩
    replace hM := hM.ext hb
    clear hb
    go_wp2
    go_ret
    exact ⟨rb (by rw [HF.out]), (by apply Mem.below; (exact memA))⟩
  · have HF := Lib.hid (show scenB ⟨ad, n, c, ph, wt⟩ = inB wt 1 100 by unfold scenB; dsimp only; rw [hp]; rfl)
    have HP := Lib.hid hp; clear hp
    go_enter Tryz.func138, Tryz.ntmps138
    go_wp2_with fail
    apply Mem.atA
    · exact memA
    clear hM
    intro wst hM
    (try simp only [World.size_alloc, World.size_setCell, World.heap_drewN, heapDrew, Nat.add_assoc, Nat.reduceAdd, sA, List.cons_append, List.nil_append] at hM)
    (first | refine (arePhases_any ad n c ph _ (h.ext hM.below)).mono ?_)
    rw [HP.out]
    rintro e wc2 ⟨rfl, hb⟩
    replace hM := hM.ext hb
    clear hb
    obtain ⟨k0, f0, l0⟩ := hM.row .here
    go_wp2_with fail
    clear k0 f0 l0
    apply Mem.atA
    · exact memA
    clear hM
    intro wst hM
    (try simp only [World.size_alloc, World.size_setCell, World.heap_drewN, heapDrew, Nat.add_assoc, Nat.reduceAdd, sA, List.cons_append, List.nil_append] at hM)
    (first | refine (in_any wt 1 100 _).mono ?_)
    rintro e wc3 ⟨rfl, rfl⟩
    go_wp2
    go_ret
    exact ⟨rb (by rw [HF.out]), (by apply Mem.below; (exact memA))⟩
theorem ens1_ans {a : Option Addr} {n c : Nat} {sc : List ScenarioI} {w : World} (h : RdS w a n c sc) : AnswersScenario 138 #[] scenB sc w := fun v hv w' hb => ens1_any v w' ((h.ph v hv).ext hb)
set_option maxRecDepth 100000 in
set_option maxHeartbeats 8000000 in
theorem isEnsemble_any (a : Option Addr) (n c : Nat) (sc : List ScenarioI) (w : World) (h : RdS w a n c sc) : Calls Tryz.prog 103 #[.slice a n c] w fun e w' => e = .returned (.bool (ensB sc)) ∧ Below w.heap.size w w' := by
  have hM := Mem.start w
  have HL := Lib.hid h.rd.len
  cases hi : inB (n : Int) 1 4
  · have HF := Lib.hid (show ensB sc = false by unfold ensB; rw [h.rd.len, hi, Bool.and_false])
    have HI := Lib.hid hi; clear hi
    go_enter Tryz.func103, Tryz.ntmps103
    go_wp2_with fail
    apply Mem.atA
    · exact memA
    clear hM
    intro wst hM
    (try simp only [World.size_alloc, World.size_setCell, World.heap_drewN, heapDrew, Nat.add_assoc, Nat.reduceAdd, sA, List.cons_append, List.nil_append] at hM)
    (first | refine (in_any (n : Int) 1 4 _).mono ?_)
    rw [HI.out]
    rintro e wc4 ⟨rfl, rfl⟩
    go_wp2
    go_ret
    exact ⟨rb (by rw [HF.out]), (by apply Mem.below; (exact memA))⟩
  · have HF := Lib.hid (show ensB sc = sc.all scenB by unfold ensB; rw [h.rd.len, hi, Bool.and_true])
    have HI := Lib.hid hi; clear hi
    obtain ⟨q, hq⟩ : ∃ q, sc.all scenB = q := ⟨_, rfl⟩
    have HQ := Lib.hid hq; clear hq
    go_enter Tryz.func103, Tryz.ntmps103
    go_wp2_with fail
    apply Mem.atA
    · exact memA
    clear hM
    intro wst hM
    (try simp only [World.size_alloc, World.size_setCell, World.heap_drewN, heapDrew, Nat.add_assoc, Nat.reduceAdd, sA, List.cons_append, List.nil_append] at hM)
    (first | refine (in_any (n : Int) 1 4 _).mono ?_)
    rw [HI.out]
    rintro e wc5 ⟨rfl, rfl⟩
    go_wp2_with fail
    apply Mem.atA
    · exact memA
    clear hM
    intro wst hM
    (try simp only [World.size_alloc, World.size_setCell, World.heap_drewN, heapDrew, Nat.add_assoc, Nat.reduceAdd, sA, List.cons_append, List.nil_append] at hM)
    (first | refine (allScenario_any _ _ scenB a n c sc _ (h.rd.ext hM.below) (enters Tryz.func138 (by kernel_rfl) rfl) (ens1_ans (h.ext hM.below))).mono ?_)
    rw [HQ.out]
    rintro e wc6 ⟨rfl, hb⟩
    replace hM := hM.ext hb
    clear hb
    go_wp2
    go_ret
    exact ⟨rb (by rw [HF.out, HQ.out]), (by apply Mem.below; (exact memA))⟩
set_option maxRecDepth 100000 in
set_option maxHeartbeats 8000000 in
theorem isBlaze_any (W H : Int) (a : Option Addr) (n c : Nat) (xs : List Int) (a1 : Option Addr) (n1 c1 : Nat) (sc : List ScenarioI) (a2 : Option Addr) (n2 c2 : Nat) (ss : List Int) (start : Int) (w : World) (h : Ints w a n c xs) (h1 : RdS w a1 n1 c1 sc) (h2 : Ints w a2 n2 c2 ss) :
    Calls Tryz.prog 54 #[.agg #[.int .i64 W, .int .i64 H, .slice a n c], .slice a1 n1 c1, .slice a2 n2 c2, .int .i64 start] w fun e w' => e = .returned (.bool (blazeB W H xs n sc ss start)) ∧ Below w.heap.size w w' := by
  have hM := Mem.start w
  have HL := Lib.hid h.len
  obtain ⟨q1, hq1⟩ : ∃ q, goodB 20 W H xs = q := ⟨_, rfl⟩
  obtain ⟨q2, hq2⟩ : ∃ q, ensB sc = q := ⟨_, rfl⟩
  obtain ⟨q3, hq3⟩ : ∃ q, setB n ss = q := ⟨_, rfl⟩
  obtain ⟨q4, hq4⟩ : ∃ q, inB start 0 1000 = q := ⟨_, rfl⟩
  have HF := Lib.hid (show blazeB W H xs n sc ss start = (q1 && q2 && q3 && q4) by rw [blazeB, hq1, hq2, hq3, hq4])
  have HQ1 := Lib.hid hq1; have HQ2 := Lib.hid hq2; have HQ3 := Lib.hid hq3; have HQ4 := Lib.hid hq4
  clear hq1 hq2 hq3 hq4
  cases q1
  · skip
    go_enter Tryz.func54, Tryz.ntmps54
    go_wp2_with fail
    apply Mem.atA
    · exact memA
    clear hM
    intro wst hM
    (try simp only [World.size_alloc, World.size_setCell, World.heap_drewN, heapDrew, Nat.add_assoc, Nat.reduceAdd, sA, List.cons_append, List.nil_append] at hM)
    apply Calls.mono
    · (apply IsTerrain_any W H a n c xs) <;> (first | (show (_ : Prop); with_reducible assumption) | (apply Hid.out; with_reducible assumption) | (apply Mem.intsR hM; (repeat' (first | with_reducible exact In.here | with_reducible apply In.there)); done) | (apply Ints.ext (hb := hM.below); with_reducible assumption) | (apply Rd.ext (hb := hM.below); with_reducible assumption) | (apply Mem.row hM; (repeat' (first | with_reducible exact In.here | with_reducible apply In.there)); done) | (apply Row.ext (hb := hM.below); with_reducible assumption) | exact ⟨by omega, by omega⟩ | omega | (trace_state; fail))
    rw [HQ1.out]
    rintro e wc7 ⟨rfl, hb⟩
    replace hM := hM.ext hb
    clear hb
    go_wp2
    go_ret
    exact ⟨rb (by rw [HF.out]; rfl), (by apply Mem.below; (exact memA))⟩
  have hn25 : n ≤ 25 := by rw [← HL.out]; exact goodB_25 HQ1.out
  cases q2
  · skip
    go_enter Tryz.func54, Tryz.ntmps54
    go_wp2_with fail
    apply Mem.atA
    · exact memA
    clear hM
    intro wst hM
    (try simp only [World.size_alloc, World.size_setCell, World.heap_drewN, heapDrew, Nat.add_assoc, Nat.reduceAdd, sA, List.cons_append, List.nil_append] at hM)
    apply Calls.mono
    · (apply IsTerrain_any W H a n c xs) <;> (first | (show (_ : Prop); with_reducible assumption) | (apply Hid.out; with_reducible assumption) | (apply Mem.intsR hM; (repeat' (first | with_reducible exact In.here | with_reducible apply In.there)); done) | (apply Ints.ext (hb := hM.below); with_reducible assumption) | (apply Rd.ext (hb := hM.below); with_reducible assumption) | (apply Mem.row hM; (repeat' (first | with_reducible exact In.here | with_reducible apply In.there)); done) | (apply Row.ext (hb := hM.below); with_reducible assumption) | exact ⟨by omega, by omega⟩ | omega | (trace_state; fail))
    rw [HQ1.out]
    rintro e wc8 ⟨rfl, hb⟩
    replace hM := hM.ext hb
    clear hb
    obtain ⟨k0, f0, l0⟩ := hM.row .here
    go_wp2_with fail
    clear k0 f0 l0
    apply Mem.atA
    · exact memA
    clear hM
    intro wst hM
    (try simp only [World.size_alloc, World.size_setCell, World.heap_drewN, heapDrew, Nat.add_assoc, Nat.reduceAdd, sA, List.cons_append, List.nil_append] at hM)
    (first | refine (isEnsemble_any a1 n1 c1 sc _ (h1.ext hM.below)).mono ?_)
    rw [HQ2.out]
    rintro e wc9 ⟨rfl, hb⟩
    replace hM := hM.ext hb
    clear hb
    go_wp2
    go_ret
    exact ⟨rb (by rw [HF.out]; rfl), (by apply Mem.below; (exact memA))⟩
  cases q3
  · skip
    go_enter Tryz.func54, Tryz.ntmps54
    go_wp2_with fail
    apply Mem.atA
    · exact memA
    clear hM
    intro wst hM
    (try simp only [World.size_alloc, World.size_setCell, World.heap_drewN, heapDrew, Nat.add_assoc, Nat.reduceAdd, sA, List.cons_append, List.nil_append] at hM)
    apply Calls.mono
    · (apply IsTerrain_any W H a n c xs) <;> (first | (show (_ : Prop); with_reducible assumption) | (apply Hid.out; with_reducible assumption) | (apply Mem.intsR hM; (repeat' (first | with_reducible exact In.here | with_reducible apply In.there)); done) | (apply Ints.ext (hb := hM.below); with_reducible assumption) | (apply Rd.ext (hb := hM.below); with_reducible assumption) | (apply Mem.row hM; (repeat' (first | with_reducible exact In.here | with_reducible apply In.there)); done) | (apply Row.ext (hb := hM.below); with_reducible assumption) | exact ⟨by omega, by omega⟩ | omega | (trace_state; fail))
    rw [HQ1.out]
    rintro e wc10 ⟨rfl, hb⟩
    replace hM := hM.ext hb
    clear hb
    obtain ⟨k0, f0, l0⟩ := hM.row .here
    go_wp2_with fail
    clear k0 f0 l0
    apply Mem.atA
    · exact memA
    clear hM
    intro wst hM
    (try simp only [World.size_alloc, World.size_setCell, World.heap_drewN, heapDrew, Nat.add_assoc, Nat.reduceAdd, sA, List.cons_append, List.nil_append] at hM)
    (first | refine (isEnsemble_any a1 n1 c1 sc _ (h1.ext hM.below)).mono ?_)
    rw [HQ2.out]
    rintro e wc11 ⟨rfl, hb⟩
    replace hM := hM.ext hb
    clear hb
    obtain ⟨k0, f0, l0⟩ := hM.row .here
    go_wp2_with fail
    clear k0 f0 l0
    apply Mem.atA
    · exact memA
    clear hM
    intro wst hM
    (try simp only [World.size_alloc, World.size_setCell, World.heap_drewN, heapDrew, Nat.add_assoc, Nat.reduceAdd, sA, List.cons_append, List.nil_append] at hM)
    (first | refine (isSet_any _ _ a n c a2 n2 c2 ss _ (h2.ext hM.below) hn25).mono ?_)
    rw [HQ3.out]
    rintro e wc12 ⟨rfl, hb⟩
    replace hM := hM.ext hb
    clear hb
    go_wp2
    go_ret
    exact ⟨rb (by rw [HF.out]; rfl), (by apply Mem.below; (exact memA))⟩
  go_enter Tryz.func54, Tryz.ntmps54
  go_wp2_with fail
  apply Mem.atA
  · exact memA
  clear hM
  intro wst hM
  (try simp only [World.size_alloc, World.size_setCell, World.heap_drewN, heapDrew, Nat.add_assoc, Nat.reduceAdd, sA, List.cons_append, List.nil_append] at hM)
  apply Calls.mono
  · (apply IsTerrain_any W H a n c xs) <;> (first | (show (_ : Prop); with_reducible assumption) | (apply Hid.out; with_reducible assumption) | (apply Mem.intsR hM; (repeat' (first | with_reducible exact In.here | with_reducible apply In.there)); done) | (apply Ints.ext (hb := hM.below); with_reducible assumption) | (apply Rd.ext (hb := hM.below); with_reducible assumption) | (apply Mem.row hM; (repeat' (first | with_reducible exact In.here | with_reducible apply In.there)); done) | (apply Row.ext (hb := hM.below); with_reducible assumption) | exact ⟨by omega, by omega⟩ | omega | (trace_state; fail))
  rw [HQ1.out]
  rintro e wc13 ⟨rfl, hb⟩
  replace hM := hM.ext hb
  clear hb
  obtain ⟨k0, f0, l0⟩ := hM.row .here
  go_wp2_with fail
  clear k0 f0 l0
  apply Mem.atA
  · exact memA
  clear hM
  intro wst hM
  (try simp only [World.size_alloc, World.size_setCell, World.heap_drewN, heapDrew, Nat.add_assoc, Nat.reduceAdd, sA, List.cons_append, List.nil_append] at hM)
  (first | refine (isEnsemble_any a1 n1 c1 sc _ (h1.ext hM.below)).mono ?_)
  rw [HQ2.out]
  rintro e wc14 ⟨rfl, hb⟩
  replace hM := hM.ext hb
  clear hb
  obtain ⟨k0, f0, l0⟩ := hM.row .here
  go_wp2_with fail
  clear k0 f0 l0
  apply Mem.atA
  · exact memA
  clear hM
  intro wst hM
  (try simp only [World.size_alloc, World.size_setCell, World.heap_drewN, heapDrew, Nat.add_assoc, Nat.reduceAdd, sA, List.cons_append, List.nil_append] at hM)
  (first | refine (isSet_any _ _ a n c a2 n2 c2 ss _ (h2.ext hM.below) hn25).mono ?_)
  rw [HQ3.out]
  rintro e wc15 ⟨rfl, hb⟩
  replace hM := hM.ext hb
  clear hb
  go_wp2_with fail
  apply Mem.atA
  · exact memA
  clear hM
  intro wst hM
  (try simp only [World.size_alloc, World.size_setCell, World.heap_drewN, heapDrew, Nat.add_assoc, Nat.reduceAdd, sA, List.cons_append, List.nil_append] at hM)
  (first | refine (in_any start 0 1000 _).mono ?_)
  rw [HQ4.out]
  rintro e wc16 ⟨rfl, rfl⟩
  go_wp2
  go_ret
  exact ⟨rb (by rw [HF.out]; cases q4 <;> rfl), (by apply Mem.below; (exact memA))⟩
set_option maxRecDepth 100000 in
set_option maxHeartbeats 8000000 in
theorem l8Good_any (a : Option Addr) (n c : Nat) (sc : List ScenarioI) (w : World) (h : RdS w a n c sc) : Calls Tryz.prog 105 #[.slice a n c] w fun e w' => e = .returned (.bool (ensB sc)) ∧ Below w.heap.size w w' := by
  have hM := Mem.start w
  have HL := Lib.hid h.rd.len
  have hrm := h.rd.nroom
  have HBAD := Lib.hid (fun k (hk : k < n) (hf : scenB (sc.getD k ScenarioI.zero) = false) => show ensB sc = false by
    unfold ensB
    have : sc.all scenB = false := by
      rw [List.all_eq_false]
      refine ⟨sc.getD k ScenarioI.zero, ?_, by rw [hf]; decide⟩
      rw [List.getD_eq_getElem?_getD, List.getElem?_eq_getElem (by rw [h.rd.len]; exact hk)]
      exact List.getElem_mem _
    rw [this, Bool.false_and])
  have HEND := Lib.hid (fun (ht : (sc.take n).all scenB = true) => show ensB sc = inB (n : Int) 1 4 by
    rw [List.take_of_length_le (by rw [h.rd.len]; exact Nat.le_refl _)] at ht
    unfold ensB
    rw [ht, h.rd.len, Bool.true_and])
  go_enter Tryz.func105, Tryz.ntmps105
  go_wp2_with fail
  go_loopw [3] (fun s3 wr => ∃ k : Nat, k ≤ n ∧ s3 = .int .i64 k ∧ (sc.take k).all scenB = true ∧ Mem w.heap.size w wr []) (fun s3 _ => n - (intOf s3).toNat)
  case atStart => exact ⟨0, Nat.zero_le _, rfl, rfl, hM⟩
  case round =>
    clear hM
    obtain ⟨k, hk, rfl, hto, hM⟩ := hrel
    have HTO := Lib.hid hto; clear hto
    by_cases hlt : k < n
    · obtain ⟨bl, offl, rfl, -, -⟩ := h.rd.at' _ hlt
      obtain ⟨-, hc0, hc1⟩ := (h.rd.ext hM.below).cellScenario hlt
      have hts : (sc.take (k + 1)).all scenB = (scenB (sc.getD k ScenarioI.zero)) := by
        rw [take_succV (z := ScenarioI.zero) (by rw [HL.out]; exact hlt), List.all_append, HTO.out]
        simp
      have hph := h.ph (sc.getD k ScenarioI.zero) (by
        rw [List.getD_eq_getElem?_getD, List.getElem?_eq_getElem (by rw [HL.out]; exact hlt)]
        exact List.getElem_mem _)
      have hbad := HBAD.out k hlt
      obtain ⟨v, hv⟩ : ∃ v, sc.getD k ScenarioI.zero = v := ⟨_, rfl⟩
      rw [hv] at hc0 hc1 hts hph hbad
      have HV := Lib.hid hv
      clear hv
      obtain ⟨ad, m, cc, ph, wt⟩ := v
      dsimp only at hc0 hc1 hph
      have HTS := Lib.hid hts; have HB := Lib.hid hbad
      clear hts hbad
      have i0 : (0 : Int) ≤ (k : Int) := by omega
      have i1 : (k : Int) < (n : Int) := by omega
      obtain ⟨q1, hq1⟩ : ∃ q, phasesB ph = q := ⟨_, rfl⟩
      obtain ⟨q2, hq2⟩ : ∃ q, inB wt 1 100 = q := ⟨_, rfl⟩
      have HS := Lib.hid (show scenB ⟨ad, m, cc, ph, wt⟩ = (q1 && q2) by unfold scenB; dsimp only; rw [hq1, hq2])
      have HQ1 := Lib.hid hq1; have HQ2 := Lib.hid hq2
      clear hq1 hq2
      go_wp2_with fail
      apply Mem.atA
      · exact memA
      clear hM
      intro wst hM
      (try simp only [World.size_alloc, World.size_setCell, World.heap_drewN, heapDrew, Nat.add_assoc, Nat.reduceAdd, sA, List.cons_append, List.nil_append] at hM)
      (first | refine (l4Phases_any ad m cc ph _ (hph.ext hM.below)).mono ?_)
      rw [HQ1.out]
      rintro e wc17 ⟨rfl, hb⟩
      replace hM := hM.ext hb
      clear hb
      obtain ⟨-, hc0, hc1⟩ := (h.rd.ext hM.below).cellScenario hlt
      rw [HV.out] at hc0 hc1
      dsimp only at hc0 hc1
      cases q1
      · have HR := Lib.hid (HB.out HS.out)
        go_wp2
        go_ret
        exact ⟨rb (by rw [HR.out]), (by apply Mem.below; (exact memA))⟩
      go_wp2_with fail
      apply Mem.atA
      · exact memA
      clear hM
      intro wst hM
      (try simp only [World.size_alloc, World.size_setCell, World.heap_drewN, heapDrew, Nat.add_assoc, Nat.reduceAdd, sA, List.cons_append, List.nil_append] at hM)
      (first | refine (l1In_any wt 1 100 _).mono ?_)
      rw [HQ2.out]
      rintro e wc18 ⟨rfl, rfl⟩
      cases q2
      · have HR := Lib.hid (HB.out HS.out)
        go_wp2
        go_ret
        exact ⟨rb (by rw [HR.out]), (by apply Mem.below; (exact memA))⟩
      go_wp2
      go_roundw
      case rel => exact ⟨k + 1, by omega, by go_num, by rw [HTS.out, HS.out]; rfl, hM⟩
      case measure => simp [intOf]; omega
    · obtain rfl : k = n := by omega
      have HR := Lib.hid (HEND.out HTO.out)
      go_wp2_with fail
      apply Mem.atA
      · exact memA
      clear hM
      intro wst hM
      (try simp only [World.size_alloc, World.size_setCell, World.heap_drewN, heapDrew, Nat.add_assoc, Nat.reduceAdd, sA, List.cons_append, List.nil_append] at hM)
      (first | refine (l1In_any (k : Int) 1 4 _).mono ?_)
      rintro e wc19 ⟨rfl, rfl⟩
      go_wp2
      go_ret
      exact ⟨rb HR.out.symm, (by apply Mem.below; (exact memA))⟩
set_option maxRecDepth 100000 in
set_option maxHeartbeats 8000000 in
theorem l8Asked_any (W H : Int) (a : Option Addr) (n c : Nat) (xs : List Int) (a1 : Option Addr) (n1 c1 : Nat) (sc : List ScenarioI) (a2 : Option Addr) (n2 c2 : Nat) (ss : List Int) (start : Int) (w : World) (h : Ints w a n c xs) (h1 : RdS w a1 n1 c1 sc) (h2 : Ints w a2 n2 c2 ss) :
    Calls Tryz.prog 57 #[.agg #[.int .i64 W, .int .i64 H, .slice a n c], .slice a1 n1 c1, .slice a2 n2 c2, .int .i64 start] w fun e w' => e = .returned (.bool (blazeB W H xs n sc ss start)) ∧ Below w.heap.size w w' := by
  have hM := Mem.start w
  obtain ⟨q1, hq1⟩ : ∃ q, (goodB 20 W H xs && setB n ss) = q := ⟨_, rfl⟩
  obtain ⟨q2, hq2⟩ : ∃ q, ensB sc = q := ⟨_, rfl⟩
  obtain ⟨q4, hq4⟩ : ∃ q, inB start 0 1000 = q := ⟨_, rfl⟩
  have HF := Lib.hid (show blazeB W H xs n sc ss start = (q1 && q2 && q4) by
    rw [blazeB, ← hq1, hq2, hq4]
    cases goodB 20 W H xs <;> cases q2 <;> cases setB n ss <;> rfl)
  have HQ1 := Lib.hid hq1; have HQ2 := Lib.hid hq2; have HQ4 := Lib.hid hq4
  clear hq1 hq2 hq4
  cases q1
  · skip
    go_enter Tryz.func57, Tryz.ntmps57
    go_wp2_with fail
    apply Mem.atA
    · exact memA
    clear hM
    intro wst hM
    (try simp only [World.size_alloc, World.size_setCell, World.heap_drewN, heapDrew, Nat.add_assoc, Nat.reduceAdd, sA, List.cons_append, List.nil_append] at hM)
    (first | refine (l2Set_any W H a n c xs a2 n2 c2 ss _ (h.ext hM.below) (h2.ext hM.below)).mono ?_)
    rw [HQ1.out]
    rintro e wc20 ⟨rfl, hb⟩
    replace hM := hM.ext hb
    clear hb
    go_wp2
    go_ret
    exact ⟨rb (by rw [HF.out]; rfl), (by apply Mem.below; (exact memA))⟩
  cases q2
  · skip
    go_enter Tryz.func57, Tryz.ntmps57
    go_wp2_with fail
    apply Mem.atA
    · exact memA
    clear hM
    intro wst hM
    (try simp only [World.size_alloc, World.size_setCell, World.heap_drewN, heapDrew, Nat.add_assoc, Nat.reduceAdd, sA, List.cons_append, List.nil_append] at hM)
    (first | refine (l2Set_any W H a n c xs a2 n2 c2 ss _ (h.ext hM.below) (h2.ext hM.below)).mono ?_)
    rw [HQ1.out]
    rintro e wc21 ⟨rfl, hb⟩
    replace hM := hM.ext hb
    clear hb
    go_wp2_with fail
    apply Mem.atA
    · exact memA
    clear hM
    intro wst hM
    (try simp only [World.size_alloc, World.size_setCell, World.heap_drewN, heapDrew, Nat.add_assoc, Nat.reduceAdd, sA, List.cons_append, List.nil_append] at hM)
    (first | refine (l8Good_any a1 n1 c1 sc _ (h1.ext hM.below)).mono ?_)
    rw [HQ2.out]
    rintro e wc22 ⟨rfl, hb⟩
    replace hM := hM.ext hb
    clear hb
    go_wp2
    go_ret
    exact ⟨rb (by rw [HF.out]; rfl), (by apply Mem.below; (exact memA))⟩
  go_enter Tryz.func57, Tryz.ntmps57
  go_wp2_with fail
  apply Mem.atA
  · exact memA
  clear hM
  intro wst hM
  (try simp only [World.size_alloc, World.size_setCell, World.heap_drewN, heapDrew, Nat.add_assoc, Nat.reduceAdd, sA, List.cons_append, List.nil_append] at hM)
  (first | refine (l2Set_any W H a n c xs a2 n2 c2 ss _ (h.ext hM.below) (h2.ext hM.below)).mono ?_)
  rw [HQ1.out]
  rintro e wc23 ⟨rfl, hb⟩
  replace hM := hM.ext hb
  clear hb
  go_wp2_with fail
  apply Mem.atA
  · exact memA
  clear hM
  intro wst hM
  (try simp only [World.size_alloc, World.size_setCell, World.heap_drewN, heapDrew, Nat.add_assoc, Nat.reduceAdd, sA, List.cons_append, List.nil_append] at hM)
  (first | refine (l8Good_any a1 n1 c1 sc _ (h1.ext hM.below)).mono ?_)
  rw [HQ2.out]
  rintro e wc24 ⟨rfl, hb⟩
  replace hM := hM.ext hb
  clear hb
  go_wp2_with fail
  apply Mem.atA
  · exact memA
  clear hM
  intro wst hM
  (try simp only [World.size_alloc, World.size_setCell, World.heap_drewN, heapDrew, Nat.add_assoc, Nat.reduceAdd, sA, List.cons_append, List.nil_append] at hM)
  (first | refine (l1In_any start 0 1000 _).mono ?_)
  rw [HQ4.out]
  rintro e wc25 ⟨rfl, rfl⟩
  go_wp2
  go_ret
  exact ⟨rb (by rw [HF.out]; cases q4 <;> rfl), (by apply Mem.below; (exact memA))⟩
end Go.Proofs.YtojfbcgfeojdfaaGreat
