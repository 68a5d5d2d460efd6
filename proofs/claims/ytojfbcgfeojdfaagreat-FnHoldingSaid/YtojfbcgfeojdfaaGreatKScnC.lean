/-
  The chance that cuts hold: sums of weights.
-/
import Derived.Test.YtojfbcgfeojdfaaGreatKScnH
/-
  The chance that cuts hold: sums of weights.
-/
namespace Go.Proofs.YtojfbcgfeojdfaaGreat
set_option linter.unusedSimpArgs false
set_option linter.unusedVariables false
open Go.RowKit

theorem wts_take {sc : List ScenarioI} {k : Nat} (hk : k < sc.length) : wtS (sc.take (k + 1)) = wtS (sc.take k) + (sc.getD k ScenarioI.zero).wt := by
  rw [take_succV (z := ScenarioI.zero) hk, wtS_snoc]
theorem wtf_take {p : ScenarioI → Bool} {sc : List ScenarioI} {k : Nat} (hk : k < sc.length) : wtS ((sc.take (k + 1)).filter p) = wtS ((sc.take k).filter p) + if p (sc.getD k ScenarioI.zero) = true then (sc.getD k ScenarioI.zero).wt else 0 := by
  rw [take_succV (z := ScenarioI.zero) hk, fil_snoc]
theorem wt_bnds {p : ScenarioI → Bool} {sc : List ScenarioI} (h : ∀ x ∈ sc, scenB x = true) (hl : sc.length ≤ 4) (k : Nat) : (0 ≤ wtS (sc.take k) ∧ wtS (sc.take k) ≤ 400) ∧ (0 ≤ wtS ((sc.take k).filter p) ∧ wtS ((sc.take k).filter p) ≤ 400) := by
  have h1 := wtS_bnd (xs := sc.take k) (fun x hx => h x (List.mem_of_mem_take hx))
  have h2 := wtS_fil (p := p) (xs := sc.take k) (fun x hx => h x (List.mem_of_mem_take hx))
  have h3 : (sc.take k).length ≤ 4 := by rw [List.length_take]; omega
  omega
theorem scen_wt {x : ScenarioI} (h : scenB x = true) : 1 ≤ x.wt ∧ x.wt ≤ 100 := by
  unfold scenB at h
  rw [Bool.and_eq_true] at h
  exact inB_true h.2
theorem getD_mem' {sc : List ScenarioI} {k : Nat} (hk : k < sc.length) : sc.getD k ScenarioI.zero ∈ sc := by
  rw [List.getD_eq_getElem?_getD, List.getElem?_eq_getElem hk]
  exact List.getElem_mem _
set_option maxRecDepth 100000 in
set_option maxHeartbeats 8000000 in
theorem l8All_any (a : Option Addr) (n c : Nat) (sc : List ScenarioI) (w : World) (h : Rd FScenario w a n c sc) (hs : ∀ x ∈ sc, scenB x = true) (hl : sc.length ≤ 4) : Calls Tryz.prog 59 #[.slice a n c] w fun e w' => e = .returned (.int .i64 (wtS sc)) ∧ w = w' := by
  have HL := Lib.hid h.len
  have HB := Lib.hid (fun k => (wt_bnds (p := fun _ => true) hs hl k).1)
  have HT := Lib.hid (fun k (hk : k < n) => wts_take (sc := sc) (k := k) (by rw [h.len]; exact hk))
  have HW := Lib.hid (fun k (hk : k < n) => scen_wt (hs _ (getD_mem' (sc := sc) (k := k) (by rw [h.len]; exact hk))))
  have hrm : n ≤ 4 := by rw [← h.len]; exact hl
  clear hs
  go_enter Tryz.func59, Tryz.ntmps59
  go_wp2
  go_loop [3, 4] (fun s3 s4 => ∃ k : Nat, k ≤ n ∧ s4 = .int .i64 k ∧ s3 = .int .i64 (wtS (sc.take k))) (fun _ s4 => n - (intOf s4).toNat)
  case atStart => exact ⟨0, Nat.zero_le _, rfl, rfl⟩
  case round =>
    obtain ⟨k, hk, rfl, rfl⟩ := hrel
    by_cases hlt : k < n
    · obtain ⟨bl, offl, rfl, -, -⟩ := h.at' _ hlt
      obtain ⟨-, hc0, hc1⟩ := h.cellScenario hlt
      have hts := HT.out k hlt
      have hb := HB.out k
      have hw := HW.out k hlt
      obtain ⟨v, hv⟩ : ∃ v, sc.getD k ScenarioI.zero = v := ⟨_, rfl⟩
      rw [hv] at hc0 hc1 hts hw
      clear hv
      obtain ⟨ad, m, cc, ph, wt⟩ := v
      dsimp only at hc0 hc1 hts hw
      generalize wtS (sc.take k) = q at hts hb ⊢
      have HTS := Lib.hid hts
      clear hts
      have i0 : (0 : Int) ≤ (k : Int) := by omega
      have i1 : (k : Int) < (n : Int) := by omega
      have hwr : IntKind.i64.wrap (q + wt) = q + wt := wrap_in (by omega)
      go_wp2
      go_round
      case rel => exact ⟨k + 1, by omega, by go_num, by rw [HTS.out]⟩
      case measure => simp [intOf]; omega
    · obtain rfl : k = n := by omega
      go_wp2
      go_ret
      exact ⟨ri (by rw [List.take_of_length_le (by rw [HL.out]; exact Nat.le_refl _)]), rfl⟩
set_option maxRecDepth 100000 in
set_option maxHeartbeats 8000000 in
theorem chance_any (f : FuncId) (caps : Array Value) (p : ScenarioI → Bool) (a : Option Addr) (n c : Nat) (sc : List ScenarioI) (w : World) (h : Rd FScenario w a n c sc) (hs : ∀ x ∈ sc, scenB x = true) (hl1 : 1 ≤ sc.length) (hl : sc.length ≤ 4) (hcf : ∀ args w, (callFunc f args).run Tryz.prog w = .ok (.enter f args) w) (hf : AnswersScenario f caps p sc w) :
    Calls Tryz.prog 55 #[.slice a n c, .func (.func f) #[] caps] w fun e w' => e = .returned (.tuple #[.int .i64 (redA (wtS (sc.filter p)) (wtS sc)), .int .i64 (redB (wtS (sc.filter p)) (wtS sc))]) ∧ Below w.heap.size w w' := by
  have hM := Mem.start w
  have HL := Lib.hid h.len
  have HB := Lib.hid (fun k => wt_bnds (p := p) hs hl k)
  have HT := Lib.hid (fun k (hk : k < n) => wts_take (sc := sc) (k := k) (by rw [h.len]; exact hk))
  have HTF := Lib.hid (fun k (hk : k < n) => wtf_take (p := p) (sc := sc) (k := k) (by rw [h.len]; exact hk))
  have HMM := Lib.hid (fun k (hk : k < n) => getD_mem' (sc := sc) (k := k) (by rw [h.len]; exact hk))
  have HW := Lib.hid (fun k (hk : k < n) => scen_wt (hs _ (getD_mem' (sc := sc) (k := k) (by rw [h.len]; exact hk))))
  have HPOS := Lib.hid (wtS_bnd hs)
  have hrm : n ≤ 4 := by rw [← h.len]; exact hl
  have HFF := Lib.hid hf
  clear hs hf
  go_enter Tryz.func55, Tryz.ntmps55
  go_wp2_with fail
  go_loopw [6, 7, 12] (fun s6 s7 s12 wr => ∃ k : Nat, k ≤ n ∧ s12 = .int .i64 k ∧ s6 = .int .i64 (wtS ((sc.take k).filter p)) ∧ s7 = .int .i64 (wtS (sc.take k)) ∧ Mem w.heap.size w wr []) (fun _ _ s12 _ => n - (intOf s12).toNat)
  case atStart => exact ⟨0, Nat.zero_le _, rfl, rfl, rfl, hM⟩
  case round =>
    clear hM
    obtain ⟨k, hk, rfl, rfl, rfl, hM⟩ := hrel
    by_cases hlt : k < n
    · obtain ⟨bl, offl, rfl, -, -⟩ := h.at' _ hlt
      obtain ⟨-, hc0, hc1⟩ := (h.ext hM.below).cellScenario hlt
      have hts := HT.out k hlt
      have htf := HTF.out k hlt
      have hb := HB.out k
      have hw := HW.out k hlt
      have hmm := HMM.out k hlt
      obtain ⟨v, hv⟩ : ∃ v, sc.getD k ScenarioI.zero = v := ⟨_, rfl⟩
      rw [hv] at hc0 hc1 hts hw hmm htf
      clear hv
      obtain ⟨y, hy⟩ : ∃ y, p v = y := ⟨_, rfl⟩
      rw [hy] at htf
      have HCL := Lib.hid (fun w' hb' => HFF.out v hmm w' hb')
      rw [hy] at HCL
      clear hy hmm
      obtain ⟨ad, m, cc, ph, wt⟩ := v
      dsimp only at hc0 hc1 hts hw htf
      generalize wtS (sc.take k) = q at hts hb ⊢
      generalize wtS ((sc.take k).filter p) = qf at htf hb ⊢
      have HTS := Lib.hid hts; have HTF2 := Lib.hid htf
      clear hts htf
      have i0 : (0 : Int) ≤ (k : Int) := by omega
      have i1 : (k : Int) < (n : Int) := by omega
      have hwr : IntKind.i64.wrap (q + wt) = q + wt := wrap_in (by omega)
      have hwr2 : IntKind.i64.wrap (qf + wt) = qf + wt := wrap_in (by omega)
      go_wp2_with fail
      apply Mem.atA
      · exact memA
      clear hM
      intro wst hM
      (try simp only [World.size_alloc, World.size_setCell, World.heap_drewN, heapDrew, Nat.add_assoc, Nat.reduceAdd, sA, List.cons_append, List.nil_append] at hM)
      refine (HCL.out _ hM.below).mono ?_
      rintro o w1 ⟨rfl, hb1⟩
      replace hM := hM.ext hb1
      clear hb1
      cases y
      · go_wp2
        go_roundw
        case rel => exact ⟨k + 1, by omega, by go_num, by rw [HTF2.out]; simp, by rw [HTS.out], hM.tail⟩
        case measure => simp [intOf]; omega
      · skip
        obtain ⟨k0, f0, l0⟩ := hM.row .here
        go_wp2
        go_roundw
        case rel => exact ⟨k + 1, by omega, by go_num, by rw [HTF2.out]; simp, by rw [HTS.out], hM.tail⟩
        case measure => simp [intOf]; omega
    · obtain rfl : k = n := by omega
      have hb := HB.out k
      have HTK := Lib.hid (List.take_of_length_le (show sc.length ≤ k by rw [HL.out]; exact Nat.le_refl _))
      rw [HTK.out] at hb ⊢
      have hp := HPOS.out
      have hk1 : 1 ≤ k := by rw [← HL.out]; exact hl1
      rw [HL.out] at hp
      obtain ⟨q1, hq1⟩ : ∃ q, wtS (sc.filter p) = q := ⟨_, rfl⟩
      obtain ⟨q2, hq2⟩ : ∃ q, wtS sc = q := ⟨_, rfl⟩
      rw [hq1, hq2] at hb ⊢
      rw [hq2] at hp
      have HQ1 := Lib.hid hq1; have HQ2 := Lib.hid hq2
      clear hq1 hq2
      go_wp2_with fail
      apply Mem.atA
      · exact memA
      clear hM
      intro wst hM
      (try simp only [World.size_alloc, World.size_setCell, World.heap_drewN, heapDrew, Nat.add_assoc, Nat.reduceAdd, sA, List.cons_append, List.nil_append] at hM)
      (first | refine (fraction_any q1 q2 _ (by omega) (by omega)).mono ?_)
      rintro e wc1 ⟨rfl, hb⟩
      replace hM := hM.ext hb
      clear hb
      go_wp2
      go_ret2
      exact ⟨by rw [HQ1.out, HQ2.out]; rfl, (by apply Mem.below; (exact memA))⟩
end Go.Proofs.YtojfbcgfeojdfaaGreat
