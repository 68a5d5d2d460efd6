/-
  Speeds and work that is done: the walks.
-/
import Derived.Test.YtojfbcgfeojdfaaGreatCSpeed
import Derived.Test.YtojfbcgfeojdfaaGreatCNear2
import Derived.Deep.LoopGhost
/-
  Speeds and work that is done: the walks.
-/
namespace Go.Proofs.YtojfbcgfeojdfaaGreat
set_option linter.unusedSimpArgs false
set_option linter.unusedVariables false
open Go.RowKit

set_option maxRecDepth 100000 in
set_option maxHeartbeats 30000000 in
theorem speedAt_any (a1 : Option Addr) (n1 c1 : Nat) (ph : List PhaseI) (t : Int) (w : World) (h1 : Rd FPhase w a1 n1 c1 ph) :
    Calls Tryz.prog 133 #[.slice a1 n1 c1, .int .i64 t] w (fun e w' => e = .returned (.int .i64 (spd ph t)) ∧ Below w.heap.size w w') := by
  have hM := Mem.start w
  have hrm := h1.nroom
  have HL := Lib.hid h1.len
  have HT := Lib.hid (show spd (ph.take n1) t = spd ph t by rw [List.take_of_length_le (by rw [h1.len]; exact Nat.le_refl _)])
  go_enter Tryz.func133, Tryz.ntmps133
  go_wp2_with fail
  go_loopw [5, 10] (fun s5 s10 wr => ∃ k : Nat, k ≤ n1 ∧ s10 = .int .i64 k ∧ s5 = .int .i64 (spd (ph.take k) t) ∧ Mem w.heap.size w wr []) (fun _ s10 _ => n1 - (intOf s10).toNat)
  case atStart => exact ⟨0, Nat.zero_le _, rfl, rfl, hM⟩
  case round =>
    clear hM
    obtain ⟨k, hk, rfl, rfl, hM⟩ := hrel
    by_cases hlt : k < n1
    · obtain ⟨bl, offl, rfl, -, -⟩ := h1.at' _ hlt
      obtain ⟨-, hc0, hc1⟩ := (h1.ext hM.below).cellPhase hlt
      have hsu := spd_take (l := ph) (t := t) (k := k) (by rw [HL.out]; exact hlt)
      obtain ⟨v, hv⟩ : ∃ v, ph.getD k PhaseI.zero = v := ⟨_, rfl⟩
      obtain ⟨sp, hsp⟩ : ∃ v, spd (ph.take k) t = v := ⟨_, rfl⟩
      rw [hv] at hc0 hc1 hsu
      rw [hsp] at hsu ⊢
      obtain ⟨vf, vs⟩ := v
      dsimp only at hc0 hc1 hsu
      have HSU := Lib.hid hsu
      clear hsu hv hsp
      have i0 : (0 : Int) ≤ (k : Int) := by omega
      have i1 : (k : Int) < (n1 : Int) := by omega
      by_cases hp : vf ≤ t
      · have HE := Lib.hid (HSU.out.trans (if_pos hp))
        go_wp2
        go_roundw
        case rel =>
          refine ⟨k + 1, by omega, by go_num, by rw [HE.out], ?_⟩
          apply Mem.pick (is := [])
          · (repeat' (first | with_reducible exact hM | with_reducible exact hMp | with_reducible apply Mem.drew | with_reducible apply Mem.drewN | with_reducible apply Mem.alloc | with_reducible apply Mem.set | with_reducible exact Sto.row | ((with_reducible refine Sto.rowEq2 ?_ ?_); omega; rfl) | ((with_reducible refine Sto.rowEq ?_); omega) | with_reducible apply Sto.int | with_reducible apply Sto.there | with_reducible assumption | (unfold I64; omega) | (with_reducible (have hMx := Mem.undrew hM; exact hMx)) | (with_reducible (have hMx := Mem.undrew hMp; exact hMx))))
          · decide
          · rfl
        case measure => simp [intOf]; omega
      · have HE := Lib.hid (HSU.out.trans (if_neg hp))
        go_wp2
        go_roundw
        case rel =>
          refine ⟨k + 1, by omega, by go_num, by rw [HE.out], ?_⟩
          apply Mem.pick (is := [])
          · (repeat' (first | with_reducible exact hM | with_reducible exact hMp | with_reducible apply Mem.drew | with_reducible apply Mem.drewN | with_reducible apply Mem.alloc | with_reducible apply Mem.set | with_reducible exact Sto.row | ((with_reducible refine Sto.rowEq2 ?_ ?_); omega; rfl) | ((with_reducible refine Sto.rowEq ?_); omega) | with_reducible apply Sto.int | with_reducible apply Sto.there | with_reducible assumption | (unfold I64; omega) | (with_reducible (have hMx := Mem.undrew hM; exact hMx)) | (with_reducible (have hMx := Mem.undrew hMp; exact hMx))))
          · decide
          · rfl
        case measure => simp [intOf]; omega
    · obtain rfl : k = n1 := by omega
      rw [HT.out]
      go_wp2
      go_ret
      exact ⟨rfl, hM.below⟩

set_option maxRecDepth 100000 in
set_option maxHeartbeats 30000000 in
theorem l4Speed_any (a1 : Option Addr) (n1 c1 : Nat) (ph : List PhaseI) (t : Int) (w : World) (h1 : Rd FPhase w a1 n1 c1 ph) (hp : phasesB ph = true) (ht : 0 ≤ t) :
    Calls Tryz.prog 136 #[.slice a1 n1 c1, .int .i64 t] w (fun e w' => e = .returned (.int .i64 (spd ph t)) ∧ Below w.heap.size w w') := by
  have hM := Mem.start w
  have HL := Lib.hid h1.len
  obtain ⟨hok, hl1, hl6⟩ := phasesB_true hp
  rw [h1.len] at hl1 hl6 hok
  have HOK := Lib.hid hok
  have HP := Lib.hid hp
  clear hp hok
  go_enter Tryz.func136, Tryz.ntmps136
  go_wp2_with fail
  go_loopw [5] (fun s5 wr => ∃ k : Nat, k < n1 ∧ s5 = .int .i64 k ∧ (ph.getD k PhaseI.zero).fr ≤ t ∧ Mem w.heap.size w wr []) (fun s5 _ => n1 - (intOf s5).toNat)
  case atStart => exact ⟨0, by omega, rfl, by rw [(phOK_true (HOK.out 0 (by omega))).2.2.1 rfl]; exact ht, hM⟩
  case round =>
    clear hM
    obtain ⟨k, hk, rfl, hfr, hM⟩ := hrel
    have HFR := Lib.hid hfr; clear hfr
    have i0 : (0 : Int) ≤ (k : Int) := by omega
    have hwk : IntKind.i64.wrap ((k : Int) + 1) = ((k + 1 : Nat) : Int) := by rw [wrap_in (by omega)]; omega
    obtain ⟨bl, offl, rfl, -, -⟩ := h1.at' _ hk
    obtain ⟨-, hd0, hd1⟩ := (h1.ext hM.below).cellPhase hk
    obtain ⟨s, hs⟩ : ∃ s, (ph.getD k PhaseI.zero).sp = s := ⟨_, rfl⟩
    rw [hs] at hd1
    have HS := Lib.hid hs
    clear hs hd0
    by_cases hlt : k + 1 < n1
    · obtain ⟨-, hc0, hc1⟩ := (h1.ext hM.below).cellPhase hlt
      have i1 : ((k + 1 : Nat) : Int) < (n1 : Int) := by omega
      obtain ⟨v, hv⟩ : ∃ v, (ph.getD (k + 1) PhaseI.zero).fr = v := ⟨_, rfl⟩
      rw [hv] at hc0
      have HV := Lib.hid hv
      clear hv
      by_cases hp : v ≤ t
      · go_wp2
        go_roundw
        case rel => exact ⟨k + 1, hlt, by go_num, by rw [HV.out]; exact hp, hM⟩
        case measure => simp [intOf]; omega
      · have HA := Lib.hid (spd_at HP.out (by rw [HL.out]; exact hk) HFR.out (fun _ => by rw [HV.out]; omega))
        go_wp2
        go_ret
        exact ⟨ri (by rw [HA.out, HS.out]), hM.below⟩
    · have i1 : ¬ ((k + 1 : Nat) : Int) < (n1 : Int) := by omega
      have HA := Lib.hid (spd_at HP.out (by rw [HL.out]; exact hk) HFR.out (fun h => by rw [HL.out] at h; omega))
      go_wp2
      go_ret
      exact ⟨ri (by rw [HA.out, HS.out]), hM.below⟩

set_option maxRecDepth 100000 in
set_option maxHeartbeats 30000000 in
theorem done_any (a1 : Option Addr) (n1 c1 : Nat) (ph : List PhaseI) (t : Int) (wk : Int) (w : World) (h1 : Rd FPhase w a1 n1 c1 ph) (hp : phasesB ph = true) (ht : 0 ≤ t ∧ t ≤ 100000) (hw : wk ≤ 1000 ∧ -10 ≤ wk) :
    Calls Tryz.prog 95 #[.slice a1 n1 c1, .int .i64 t, .int .i64 wk] w (fun e w' => e = .returned (.int .i64 (doneT (spd ph) t wk)) ∧ Below w.heap.size w w') := by
  have hM := Mem.start w
  have HP := Lib.hid hp
  obtain ⟨D, hD⟩ : ∃ D, doneT (spd ph) t wk = D := ⟨_, rfl⟩
  rw [hD]
  have HD := Lib.hid hD
  clear hp hD
  go_enter Tryz.func95, Tryz.ntmps95
  go_wp2_with fail
  go_loopg [1, 2] 2000 (fun gh s1 s2 wr => ∃ tt ww : Int, s1 = .int .i64 tt ∧ s2 = .int .i64 ww ∧ 0 ≤ tt ∧ tt + gh ≤ 102000 ∧ ww ≤ gh ∧ -10 ≤ ww ∧ doneT (spd ph) tt ww = D ∧ Mem w.heap.size w wr [])
  case atStart => exact ⟨t, wk, rfl, rfl, by omega, by omega, by omega, by omega, HD.out, hM⟩
  case round =>
    clear hM
    obtain ⟨tt, ww, rfl, rfl, ht0, htg, hwg, hw10, hd, hM⟩ := hrel
    have HDD := Lib.hid hd; clear hd
    by_cases hw0 : 0 < ww
    · have hst := (doneT_step (fun t h => (spd_pos HP.out (t := t) h).1) ht0 hw0).symm.trans HDD.out
      obtain ⟨hs1, hs9⟩ := spd_pos HP.out ht0
      have hcap := spd_cap HP.out ht0
      obtain ⟨sp, hsp⟩ : ∃ s, spd ph tt = s := ⟨_, rfl⟩
      rw [hsp] at hs1 hs9 hst hcap
      have HST := Lib.hid hst; have HSP := Lib.hid hsp; have HCAP := Lib.hid hcap
      clear hst hsp hcap
      have hwr : IntKind.i64.wrap (ww - sp) = ww - sp := wrap_in (by omega)
      have hwt : IntKind.i64.wrap (tt + 1) = tt + 1 := wrap_in (by omega)
      by_cases hmt : tt ≤ 9999
      · have HC := Lib.hid (show spd ph tt = sp from HSP.out)
        go_wp2_with fail
        apply Mem.atA
        · (repeat' (first | with_reducible exact hM | with_reducible exact hMp | with_reducible apply Mem.drew | with_reducible apply Mem.drewN | with_reducible apply Mem.alloc | with_reducible apply Mem.set | with_reducible exact Sto.row | ((with_reducible refine Sto.rowEq2 ?_ ?_); omega; rfl) | ((with_reducible refine Sto.rowEq ?_); omega) | with_reducible apply Sto.int | with_reducible apply Sto.there | with_reducible assumption | (unfold I64; omega) | (with_reducible (have hMx := Mem.undrew hM; exact hMx)) | (with_reducible (have hMx := Mem.undrew hMp; exact hMx))))
        clear hM
        intro wst hM
        (try simp only [World.size_alloc, World.size_setCell, World.heap_drewN, heapDrew, Nat.add_assoc, Nat.reduceAdd, List.setIfInBounds_toArray, List.set_cons_zero, List.set_cons_succ, List.cons_append, List.nil_append] at hM)
        apply Calls.mono
        · (apply speedAt_any) <;> (first | (show (_ : Prop); with_reducible assumption) | (apply Hid.out; with_reducible assumption) | (apply Mem.intsR hM; (repeat' (first | with_reducible exact In.here | with_reducible apply In.there)); done) | (apply Ints.ext (hb := hM.below); with_reducible assumption) | (apply Rd.ext (hb := hM.below); with_reducible assumption) | (apply Mem.row hM; (repeat' (first | with_reducible exact In.here | with_reducible apply In.there)); done) | (apply Row.ext (hb := hM.below); with_reducible assumption) | exact ⟨by omega, by omega⟩ | omega | (trace_state; fail))
        rw [HC.out]
        rintro e wc1 ⟨rfl, hb⟩
        replace hM := hM.ext hb
        clear hb
        go_wp2
        go_roundg (gk - 1)
        case measure => omega
        case rel => exact ⟨tt + 1, ww - sp, rfl, rfl, by omega, by omega, by omega, by omega, HST.out, hM⟩
      · have HC := Lib.hid (show spd ph 9999 = sp by have := HCAP.out; rwa [show min tt 9999 = 9999 by omega] at this)
        go_wp2_with fail
        apply Mem.atA
        · (repeat' (first | with_reducible exact hM | with_reducible exact hMp | with_reducible apply Mem.drew | with_reducible apply Mem.drewN | with_reducible apply Mem.alloc | with_reducible apply Mem.set | with_reducible exact Sto.row | ((with_reducible refine Sto.rowEq2 ?_ ?_); omega; rfl) | ((with_reducible refine Sto.rowEq ?_); omega) | with_reducible apply Sto.int | with_reducible apply Sto.there | with_reducible assumption | (unfold I64; omega) | (with_reducible (have hMx := Mem.undrew hM; exact hMx)) | (with_reducible (have hMx := Mem.undrew hMp; exact hMx))))
        clear hM
        intro wst hM
        (try simp only [World.size_alloc, World.size_setCell, World.heap_drewN, heapDrew, Nat.add_assoc, Nat.reduceAdd, List.setIfInBounds_toArray, List.set_cons_zero, List.set_cons_succ, List.cons_append, List.nil_append] at hM)
        apply Calls.mono
        · (apply speedAt_any) <;> (first | (show (_ : Prop); with_reducible assumption) | (apply Hid.out; with_reducible assumption) | (apply Mem.intsR hM; (repeat' (first | with_reducible exact In.here | with_reducible apply In.there)); done) | (apply Ints.ext (hb := hM.below); with_reducible assumption) | (apply Rd.ext (hb := hM.below); with_reducible assumption) | (apply Mem.row hM; (repeat' (first | with_reducible exact In.here | with_reducible apply In.there)); done) | (apply Row.ext (hb := hM.below); with_reducible assumption) | exact ⟨by omega, by omega⟩ | omega | (trace_state; fail))
        rw [HC.out]
        rintro e wc2 ⟨rfl, hb⟩
        replace hM := hM.ext hb
        clear hb
        go_wp2
        go_roundg (gk - 1)
        case measure => omega
        case rel => exact ⟨tt + 1, ww - sp, rfl, rfl, by omega, by omega, by omega, by omega, HST.out, hM⟩
    · have hst := (doneT_stop (sp := spd ph) (t := tt) (w := ww) (by omega)).symm.trans HDD.out
      have HST := Lib.hid hst
      clear hst
      go_wp2
      go_ret
      exact ⟨ri HST.out, hM.below⟩

set_option maxRecDepth 100000 in
set_option maxHeartbeats 30000000 in
theorem l4Done_any (a1 : Option Addr) (n1 c1 : Nat) (ph : List PhaseI) (t : Int) (wk : Int) (w : World) (h1 : Rd FPhase w a1 n1 c1 ph) (hp : phasesB ph = true) (ht : 0 ≤ t ∧ t ≤ 100000) (hw : wk ≤ 1000 ∧ -10 ≤ wk) :
    Calls Tryz.prog 99 #[.slice a1 n1 c1, .int .i64 t, .int .i64 wk] w (fun e w' => e = .returned (.int .i64 (doneT (spd ph) t wk)) ∧ Below w.heap.size w w') := by
  have hM := Mem.start w
  have HP := Lib.hid hp
  obtain ⟨D, hD⟩ : ∃ D, doneT (spd ph) t wk = D := ⟨_, rfl⟩
  rw [hD]
  have HD := Lib.hid hD
  clear hp hD
  go_enter Tryz.func99, Tryz.ntmps99
  go_wp2_with fail
  go_loopg [1, 2] 2000 (fun gh s1 s2 wr => ∃ tt ww : Int, s1 = .int .i64 tt ∧ s2 = .int .i64 ww ∧ 0 ≤ tt ∧ tt + gh ≤ 102000 ∧ ww ≤ gh ∧ -10 ≤ ww ∧ doneT (spd ph) tt ww = D ∧ Mem w.heap.size w wr [])
  case atStart => exact ⟨t, wk, rfl, rfl, by omega, by omega, by omega, by omega, HD.out, hM⟩
  case round =>
    clear hM
    obtain ⟨tt, ww, rfl, rfl, ht0, htg, hwg, hw10, hd, hM⟩ := hrel
    have HDD := Lib.hid hd; clear hd
    by_cases hw0 : 0 < ww
    · have hst := (doneT_step (fun t h => (spd_pos HP.out (t := t) h).1) ht0 hw0).symm.trans HDD.out
      obtain ⟨hs1, hs9⟩ := spd_pos HP.out ht0
      obtain ⟨sp, hsp⟩ : ∃ s, spd ph tt = s := ⟨_, rfl⟩
      rw [hsp] at hs1 hs9 hst
      have HST := Lib.hid hst; have HSP := Lib.hid hsp
      clear hst hsp
      have hwr : IntKind.i64.wrap (ww - sp) = ww - sp := wrap_in (by omega)
      have hwt : IntKind.i64.wrap (tt + 1) = tt + 1 := wrap_in (by omega)
      go_wp2_with fail
      apply Mem.atA
      · (repeat' (first | with_reducible exact hM | with_reducible exact hMp | with_reducible apply Mem.drew | with_reducible apply Mem.drewN | with_reducible apply Mem.alloc | with_reducible apply Mem.set | with_reducible exact Sto.row | ((with_reducible refine Sto.rowEq2 ?_ ?_); omega; rfl) | ((with_reducible refine Sto.rowEq ?_); omega) | with_reducible apply Sto.int | with_reducible apply Sto.there | with_reducible assumption | (unfold I64; omega) | (with_reducible (have hMx := Mem.undrew hM; exact hMx)) | (with_reducible (have hMx := Mem.undrew hMp; exact hMx))))
      clear hM
      intro wst hM
      (try simp only [World.size_alloc, World.size_setCell, World.heap_drewN, heapDrew, Nat.add_assoc, Nat.reduceAdd, List.setIfInBounds_toArray, List.set_cons_zero, List.set_cons_succ, List.cons_append, List.nil_append] at hM)
      apply Calls.mono
      · (apply l4Speed_any) <;> (first | (show (_ : Prop); with_reducible assumption) | (apply Hid.out; with_reducible assumption) | (apply Mem.intsR hM; (repeat' (first | with_reducible exact In.here | with_reducible apply In.there)); done) | (apply Ints.ext (hb := hM.below); with_reducible assumption) | (apply Rd.ext (hb := hM.below); with_reducible assumption) | (apply Mem.row hM; (repeat' (first | with_reducible exact In.here | with_reducible apply In.there)); done) | (apply Row.ext (hb := hM.below); with_reducible assumption) | exact ⟨by omega, by omega⟩ | omega | (trace_state; fail))
      rw [HSP.out]
      rintro e wc3 ⟨rfl, hb⟩
      replace hM := hM.ext hb
      clear hb
      go_wp2
      go_roundg (gk - 1)
      case measure => omega
      case rel => exact ⟨tt + 1, ww - sp, rfl, rfl, by omega, by omega, by omega, by omega, HST.out, hM⟩
    · have hst := (doneT_stop (sp := spd ph) (t := tt) (w := ww) (by omega)).symm.trans HDD.out
      have HST := Lib.hid hst
      clear hst
      go_wp2
      go_ret
      exact ⟨ri HST.out, hM.below⟩
end Go.Proofs.YtojfbcgfeojdfaaGreat
