/-
  Valid incidents.
-/
import Derived.Test.YtpflnmejbialjaaGreatDoorVNear
import Derived.Test.YtpflnmejbialjaaGreatDoorVNear2
import Derived.Test.YtpflnmejbialjaaGreatDoorVFlood
/-
  Valid incidents.
-/
namespace Go.Proofs.YtpflnmejbialjaaGreatDoor
set_option linter.unusedSimpArgs false
set_option linter.unusedVariables false
open Go.RowKit

theorem range_all_succ (p : Nat → Bool) (k : Nat) : (List.range (k + 1)).all p = ((List.range k).all p && p k) := by
  rw [List.range_succ, List.all_append]
  simp
theorem range_all_false {p : Nat → Bool} {n k : Nat} (hk : k < n) (h : p k = false) : (List.range n).all p = false :=
  List.all_eq_false.2 ⟨k, List.mem_range.2 hk, by simp [h]⟩
/-- is a cell of an incident valid -/
def okC (xs fs ws : List Int) (c : Nat) : Bool := !((xs.getD c 0 == 0) && (fs.getD c 0 != 0)) && inB (fs.getD c 0) (-1) (xs.getD c 0) && inB (ws.getD c 0) 0 5
def incB (W H : Int) (xs fs ws : List Int) (t : Int) : Bool := goodB 20 W H xs && decide (fs.length = xs.length) && decide (ws.length = xs.length) && inB t 0 9999 && (List.range xs.length).all (okC xs fs ws)
theorem incB_true {W H : Int} {xs fs ws : List Int} {t : Int} (h : incB W H xs fs ws t = true) : goodB 20 W H xs = true ∧ fs.length = xs.length ∧ ws.length = xs.length ∧ (0 ≤ t ∧ t ≤ 9999) ∧ ∀ c, c < xs.length → okC xs fs ws c = true := by
  unfold incB at h
  simp only [Bool.and_eq_true, decide_eq_true_eq, List.all_eq_true, List.mem_range] at h
  exact ⟨h.1.1.1.1, h.1.1.1.2, h.1.1.2, inB_true h.1.2, h.2⟩

set_option maxRecDepth 100000 in
set_option maxHeartbeats 30000000 in
theorem isTick_any (t : Int) (w : World) :
    Calls Tryz.prog 51 #[.int .i64 t] w ((fun e w' => e = .returned (.bool (inB t 0 9999)) ∧ w = w')) := by
  go_enter Tryz.func51, Tryz.ntmps51
  go_wp2_with fail
  refine (in_any _ _ _ _).mono ?_
  rintro e w1 ⟨rfl, rfl⟩
  go_wp2
  go_ret
  exact ⟨rfl, rfl⟩
set_option maxRecDepth 100000 in
set_option maxHeartbeats 30000000 in
theorem l4Tick_any (t : Int) (w : World) :
    Calls Tryz.prog 46 #[.int .i64 t] w ((fun e w' => e = .returned (.bool (inB t 0 9999)) ∧ w = w')) := by
  go_enter Tryz.func46, Tryz.ntmps46
  go_wp2_with fail
  refine (l1In_any _ _ _ _).mono ?_
  rintro e w1 ⟨rfl, rfl⟩
  go_wp2
  go_ret
  exact ⟨rfl, rfl⟩

set_option maxRecDepth 100000 in
set_option maxHeartbeats 30000000 in
theorem IsIncident_any (W H : Int) (a : Option Addr) (n c : Nat) (xs : List Int) (af : Option Addr) (nf cf : Nat) (fs : List Int) (aw : Option Addr) (nw cw : Nat) (ws : List Int) (t : Int) (w : World) (h : Ints w a n c xs) (hf : Ints w af nf cf fs) (hw : Ints w aw nw cw ws) :
    Calls Tryz.prog 36 #[.agg #[.int .i64 W, .int .i64 H, .slice a n c, .slice af nf cf, .slice aw nw cw, .int .i64 t]] w (fun e w' => e = .returned (.bool (incB W H xs fs ws t)) ∧ Below w.heap.size w w') := by
  have hM := Mem.start w
  have HL := Lib.hid h.len
  have HLF := Lib.hid hf.len
  have HLW := Lib.hid hw.len
  have hrm := h.room
  have hrf := hf.room
  have hrw := hw.room
  obtain ⟨g, hg⟩ : ∃ g, goodB 20 W H xs = g := ⟨_, rfl⟩
  have HF := Lib.hid (show incB W H xs fs ws t = (g && decide (nf = n) && decide (nw = n) && inB t 0 9999 && (List.range n).all (okC xs fs ws)) by rw [incB, hg, h.len, hf.len, hw.len])
  have HG := Lib.hid hg
  clear hg
  go_enter Tryz.func36, Tryz.ntmps36
  go_wp2_with fail
  apply Mem.atA
  · (repeat' (first | with_reducible exact hM | with_reducible exact hMp | with_reducible apply Mem.drew | with_reducible apply Mem.drewN | with_reducible apply Mem.alloc | with_reducible apply Mem.set | with_reducible exact Sto.row | ((with_reducible refine Sto.rowEq2 ?_ ?_); omega; rfl) | ((with_reducible refine Sto.rowEq ?_); omega) | with_reducible apply Sto.int | with_reducible apply Sto.there | with_reducible assumption | (unfold I64; omega) | (with_reducible (have hMx := Mem.undrew hM; exact hMx)) | (with_reducible (have hMx := Mem.undrew hMp; exact hMx))))
  clear hM
  intro wst hM
  (try simp only [World.size_alloc, World.size_setCell, World.heap_drewN, heapDrew, Nat.add_assoc, Nat.reduceAdd, List.setIfInBounds_toArray, List.set_cons_zero, List.set_cons_succ, List.cons_append, List.nil_append] at hM)
  apply Calls.mono
  · (apply IsTerrain_any W H a n c xs) <;> (first | (show (_ : Prop); with_reducible assumption) | (apply Hid.out; with_reducible assumption) | (apply Mem.intsR hM; (repeat' (first | with_reducible exact In.here | with_reducible apply In.there)); done) | (apply Ints.ext (hb := hM.below); with_reducible assumption) | (apply Rd.ext (hb := hM.below); with_reducible assumption) | (apply Mem.row hM; (repeat' (first | with_reducible exact In.here | with_reducible apply In.there)); done) | (apply Row.ext (hb := hM.below); with_reducible assumption) | exact ⟨by omega, by omega⟩ | omega | (trace_state; fail))
  rw [HG.out]
  rintro e wc1 ⟨rfl, hb⟩
  replace hM := hM.ext hb
  clear hb
  cases g
  · skip
    obtain ⟨k0, f0, l0⟩ := hM.row .here
    go_wp2
    go_ret
    exact ⟨rb (by rw [HF.out]; rfl), (by apply Mem.below; (repeat' (first | with_reducible exact hM | with_reducible exact hMp | with_reducible apply Mem.drew | with_reducible apply Mem.drewN | with_reducible apply Mem.alloc | with_reducible apply Mem.set | with_reducible exact Sto.row | ((with_reducible refine Sto.rowEq2 ?_ ?_); omega; rfl) | ((with_reducible refine Sto.rowEq ?_); omega) | with_reducible apply Sto.int | with_reducible apply Sto.there | with_reducible assumption | (unfold I64; omega) | (with_reducible (have hMx := Mem.undrew hM; exact hMx)) | (with_reducible (have hMx := Mem.undrew hMp; exact hMx)))))⟩
  obtain ⟨k0, f0, l0⟩ := hM.row .here
  by_cases e1 : nf = n
  rotate_left
  · have he : ((nf : Int) != (n : Int)) = true := by simp; omega
    have HE := Lib.hid (decide_eq_false e1)
    clear e1
    go_wp2
    go_ret
    exact ⟨rb (by rw [HF.out, HE.out]; rfl), (by apply Mem.below; (repeat' (first | with_reducible exact hM | with_reducible exact hMp | with_reducible apply Mem.drew | with_reducible apply Mem.drewN | with_reducible apply Mem.alloc | with_reducible apply Mem.set | with_reducible exact Sto.row | ((with_reducible refine Sto.rowEq2 ?_ ?_); omega; rfl) | ((with_reducible refine Sto.rowEq ?_); omega) | with_reducible apply Sto.int | with_reducible apply Sto.there | with_reducible assumption | (unfold I64; omega) | (with_reducible (have hMx := Mem.undrew hM; exact hMx)) | (with_reducible (have hMx := Mem.undrew hMp; exact hMx)))))⟩
  subst e1
  by_cases e2 : nw = nf
  rotate_left
  · have he : ((nw : Int) != (nf : Int)) = true := by simp; omega
    have HE := Lib.hid (decide_eq_false e2)
    clear e2
    go_wp2
    go_ret
    exact ⟨rb (by rw [HF.out, HE.out, Bool.and_false]; rfl), (by apply Mem.below; (repeat' (first | with_reducible exact hM | with_reducible exact hMp | with_reducible apply Mem.drew | with_reducible apply Mem.drewN | with_reducible apply Mem.alloc | with_reducible apply Mem.set | with_reducible exact Sto.row | ((with_reducible refine Sto.rowEq2 ?_ ?_); omega; rfl) | ((with_reducible refine Sto.rowEq ?_); omega) | with_reducible apply Sto.int | with_reducible apply Sto.there | with_reducible assumption | (unfold I64; omega) | (with_reducible (have hMx := Mem.undrew hM; exact hMx)) | (with_reducible (have hMx := Mem.undrew hMp; exact hMx)))))⟩
  subst e2
  obtain ⟨q, hq⟩ : ∃ q, inB t 0 9999 = q := ⟨_, rfl⟩
  have HQ := Lib.hid hq
  clear hq
  replace HF := Lib.hid (show incB W H xs fs ws t = (q && (List.range nw).all (okC xs fs ws)) by rw [HF.out, HQ.out, decide_eq_true rfl]; rfl)
  go_wp2_with fail
  apply Mem.atA
  · (repeat' (first | with_reducible exact hM | with_reducible exact hMp | with_reducible apply Mem.drew | with_reducible apply Mem.drewN | with_reducible apply Mem.alloc | with_reducible apply Mem.set | with_reducible exact Sto.row | ((with_reducible refine Sto.rowEq2 ?_ ?_); omega; rfl) | ((with_reducible refine Sto.rowEq ?_); omega) | with_reducible apply Sto.int | with_reducible apply Sto.there | with_reducible assumption | (unfold I64; omega) | (with_reducible (have hMx := Mem.undrew hM; exact hMx)) | (with_reducible (have hMx := Mem.undrew hMp; exact hMx))))
  clear hM
  intro wst hM
  (try simp only [World.size_alloc, World.size_setCell, World.heap_drewN, heapDrew, Nat.add_assoc, Nat.reduceAdd, List.setIfInBounds_toArray, List.set_cons_zero, List.set_cons_succ, List.cons_append, List.nil_append] at hM)
  apply Calls.mono
  · (apply isTick_any) <;> (first | (show (_ : Prop); with_reducible assumption) | (apply Hid.out; with_reducible assumption) | (apply Mem.intsR hM; (repeat' (first | with_reducible exact In.here | with_reducible apply In.there)); done) | (apply Ints.ext (hb := hM.below); with_reducible assumption) | (apply Rd.ext (hb := hM.below); with_reducible assumption) | (apply Mem.row hM; (repeat' (first | with_reducible exact In.here | with_reducible apply In.there)); done) | (apply Row.ext (hb := hM.below); with_reducible assumption) | exact ⟨by omega, by omega⟩ | omega | (trace_state; fail))
  rw [HQ.out]
  rintro e wc2 ⟨rfl, rfl⟩
  clear k0 f0 l0
  obtain ⟨k0, f0, l0⟩ := hM.row .here
  cases q
  · go_wp2
    go_ret
    exact ⟨rb (by rw [HF.out]; rfl), (by apply Mem.below; (repeat' (first | with_reducible exact hM | with_reducible exact hMp | with_reducible apply Mem.drew | with_reducible apply Mem.drewN | with_reducible apply Mem.alloc | with_reducible apply Mem.set | with_reducible exact Sto.row | ((with_reducible refine Sto.rowEq2 ?_ ?_); omega; rfl) | ((with_reducible refine Sto.rowEq ?_); omega) | with_reducible apply Sto.int | with_reducible apply Sto.there | with_reducible assumption | (unfold I64; omega) | (with_reducible (have hMx := Mem.undrew hM; exact hMx)) | (with_reducible (have hMx := Mem.undrew hMp; exact hMx)))))⟩
  go_wp2_with fail
  clear k0 f0 l0
  go_loopw [38] (fun i wr => ∃ k : Nat, k ≤ nw ∧ i = .int .i64 k ∧ (List.range k).all (okC xs fs ws) = true ∧ Mem w.heap.size w wr [rowE w.heap.size 37 #[.int .i64 W, .int .i64 H, .slice a nw c, .slice af nw cf, .slice aw nw cw, .int .i64 t]]) (fun i _ => nw - (intOf i).toNat)
  case atStart => exact ⟨0, Nat.zero_le _, rfl, by simp, hM⟩
  case round =>
    clear hM
    obtain ⟨k, hk, rfl, hall, hM⟩ := hrel
    have HA := Lib.hid hall; clear hall
    by_cases hlt : k < nw
    · obtain ⟨ba, offa, rfl, -, -⟩ := h.at' _ hlt
      have hcx := (h.ext hM.below).get hlt
      obtain ⟨bx, offx, rfl, -, -⟩ := hf.at' _ hlt
      have hcf := (hf.ext hM.below).get hlt
      obtain ⟨bz, offz, rfl, -, -⟩ := hw.at' _ hlt
      have hcz := (hw.ext hM.below).get hlt
      obtain ⟨x, hx⟩ : ∃ x, xs.getD k 0 = x := ⟨_, rfl⟩
      obtain ⟨f, hff⟩ : ∃ x, fs.getD k 0 = x := ⟨_, rfl⟩
      obtain ⟨z, hz⟩ : ∃ x, ws.getD k 0 = x := ⟨_, rfl⟩
      obtain ⟨q1, hq1⟩ : ∃ q, inB f (-1) x = q := ⟨_, rfl⟩
      obtain ⟨q2, hq2⟩ : ∃ q, inB z 0 5 = q := ⟨_, rfl⟩
      have hok : okC xs fs ws k = (!((x == 0) && (f != 0)) && q1 && q2) := by rw [okC, hx, hff, hz, hq1, hq2]
      have hsu := range_all_succ (okC xs fs ws) k
      have hfa := range_all_false (p := okC xs fs ws) hlt
      rw [hok] at hsu hfa
      rw [hx] at hcx
      rw [hff] at hcf
      rw [hz] at hcz
      have HSU := Lib.hid hsu; have HFA := Lib.hid hfa; have HQ1 := Lib.hid hq1; have HQ2 := Lib.hid hq2
      clear hsu hfa hok hx hff hz hq1 hq2
      have i0 : (0 : Int) ≤ (k : Int) := by omega
      have i1 : (k : Int) < (nw : Int) := by omega
      obtain ⟨k0, f0, l0⟩ := hM.row .here
      by_cases hbad : x = 0 ∧ f ≠ 0
      · have hx0 : (x == 0) = true := by simpa using hbad.1
        have hf0 : (f != 0) = true := by simpa using hbad.2
        have HB := Lib.hid (show (!((x == 0) && (f != 0)) && q1 && q2) = false by rw [hx0, hf0]; rfl)
        clear hbad
        go_wp2
        go_ret
        exact ⟨rb (by rw [HF.out, HFA.out HB.out]; rfl), (by apply Mem.below; (repeat' (first | with_reducible exact hM | with_reducible exact hMp | with_reducible apply Mem.drew | with_reducible apply Mem.drewN | with_reducible apply Mem.alloc | with_reducible apply Mem.set | with_reducible exact Sto.row | ((with_reducible refine Sto.rowEq2 ?_ ?_); omega; rfl) | ((with_reducible refine Sto.rowEq ?_); omega) | with_reducible apply Sto.int | with_reducible apply Sto.there | with_reducible assumption | (unfold I64; omega) | (with_reducible (have hMx := Mem.undrew hM; exact hMx)) | (with_reducible (have hMx := Mem.undrew hMp; exact hMx)))))⟩
      have HB := Lib.hid (show (!((x == 0) && (f != 0)) && q1 && q2) = (q1 && q2) by
        have : ((x == 0) && (f != 0)) = false := by
          rw [Bool.and_eq_false_iff]
          by_cases h1 : x = 0
          · exact .inr (by simpa using fun e => hbad ⟨h1, e⟩)
          · exact .inl (by simpa using h1)
        rw [this]; rfl)
      have hsp : ((x == 0) = true ∧ (f != 0) = false) ∨ (x == 0) = false := by
        by_cases h1 : x = 0
        · exact .inl ⟨by simpa using h1, by simpa using fun e => hbad ⟨h1, e⟩⟩
        · exact .inr (by simpa using h1)
      clear hbad
      rcases hsp with ⟨hx0, hf0⟩ | hx0
      all_goals
        go_wp2_with fail
        apply Calls.mono
        · (apply in_any) <;> (first | (show (_ : Prop); with_reducible assumption) | (apply Hid.out; with_reducible assumption) | (apply Mem.intsR hM; (repeat' (first | with_reducible exact In.here | with_reducible apply In.there)); done) | (apply Ints.ext (hb := hM.below); with_reducible assumption) | (apply Rd.ext (hb := hM.below); with_reducible assumption) | (apply Mem.row hM; (repeat' (first | with_reducible exact In.here | with_reducible apply In.there)); done) | (apply Row.ext (hb := hM.below); with_reducible assumption) | exact ⟨by omega, by omega⟩ | omega | (trace_state; fail))
        rw [HQ1.out]
        rintro e wc3 ⟨rfl, rfl⟩
        cases q1
        · go_wp2
          go_ret
          exact ⟨rb (by rw [HF.out, HFA.out HB.out]; rfl), (by apply Mem.below; (repeat' (first | with_reducible exact hM | with_reducible exact hMp | with_reducible apply Mem.drew | with_reducible apply Mem.drewN | with_reducible apply Mem.alloc | with_reducible apply Mem.set | with_reducible exact Sto.row | ((with_reducible refine Sto.rowEq2 ?_ ?_); omega; rfl) | ((with_reducible refine Sto.rowEq ?_); omega) | with_reducible apply Sto.int | with_reducible apply Sto.there | with_reducible assumption | (unfold I64; omega) | (with_reducible (have hMx := Mem.undrew hM; exact hMx)) | (with_reducible (have hMx := Mem.undrew hMp; exact hMx)))))⟩
        go_wp2_with fail
        apply Calls.mono
        · (apply in_any) <;> (first | (show (_ : Prop); with_reducible assumption) | (apply Hid.out; with_reducible assumption) | (apply Mem.intsR hM; (repeat' (first | with_reducible exact In.here | with_reducible apply In.there)); done) | (apply Ints.ext (hb := hM.below); with_reducible assumption) | (apply Rd.ext (hb := hM.below); with_reducible assumption) | (apply Mem.row hM; (repeat' (first | with_reducible exact In.here | with_reducible apply In.there)); done) | (apply Row.ext (hb := hM.below); with_reducible assumption) | exact ⟨by omega, by omega⟩ | omega | (trace_state; fail))
        rw [HQ2.out]
        rintro e wc4 ⟨rfl, rfl⟩
        cases q2
        · go_wp2
          go_ret
          exact ⟨rb (by rw [HF.out, HFA.out HB.out]; rfl), (by apply Mem.below; (repeat' (first | with_reducible exact hM | with_reducible exact hMp | with_reducible apply Mem.drew | with_reducible apply Mem.drewN | with_reducible apply Mem.alloc | with_reducible apply Mem.set | with_reducible exact Sto.row | ((with_reducible refine Sto.rowEq2 ?_ ?_); omega; rfl) | ((with_reducible refine Sto.rowEq ?_); omega) | with_reducible apply Sto.int | with_reducible apply Sto.there | with_reducible assumption | (unfold I64; omega) | (with_reducible (have hMx := Mem.undrew hM; exact hMx)) | (with_reducible (have hMx := Mem.undrew hMp; exact hMx)))))⟩
        go_wp2
        go_roundw
        case rel => exact ⟨k + 1, by omega, by go_num, by rw [HSU.out, HA.out, HB.out]; rfl, by (repeat' (first | with_reducible exact hM | with_reducible exact hMp | with_reducible apply Mem.drew | with_reducible apply Mem.drewN | with_reducible apply Mem.alloc | with_reducible apply Mem.set | with_reducible exact Sto.row | ((with_reducible refine Sto.rowEq2 ?_ ?_); omega; rfl) | ((with_reducible refine Sto.rowEq ?_); omega) | with_reducible apply Sto.int | with_reducible apply Sto.there | with_reducible assumption | (unfold I64; omega) | (with_reducible (have hMx := Mem.undrew hM; exact hMx)) | (with_reducible (have hMx := Mem.undrew hMp; exact hMx))))⟩
        case measure => simp [intOf]; omega
    · obtain rfl : k = nw := by omega
      go_wp2
      go_ret
      exact ⟨rb (by rw [HF.out, HA.out]; rfl), (by apply Mem.below; (repeat' (first | with_reducible exact hM | with_reducible exact hMp | with_reducible apply Mem.drew | with_reducible apply Mem.drewN | with_reducible apply Mem.alloc | with_reducible apply Mem.set | with_reducible exact Sto.row | ((with_reducible refine Sto.rowEq2 ?_ ?_); omega; rfl) | ((with_reducible refine Sto.rowEq ?_); omega) | with_reducible apply Sto.int | with_reducible apply Sto.there | with_reducible assumption | (unfold I64; omega) | (with_reducible (have hMx := Mem.undrew hM; exact hMx)) | (with_reducible (have hMx := Mem.undrew hMp; exact hMx)))))⟩
set_option maxRecDepth 100000 in
set_option maxHeartbeats 30000000 in
theorem l21Good_any (W H : Int) (a : Option Addr) (n c : Nat) (xs : List Int) (af : Option Addr) (nf cf : Nat) (fs : List Int) (aw : Option Addr) (nw cw : Nat) (ws : List Int) (t : Int) (w : World) (h : Ints w a n c xs) (hf : Ints w af nf cf fs) (hw : Ints w aw nw cw ws) :
    Calls Tryz.prog 30 #[.agg #[.int .i64 W, .int .i64 H, .slice a n c, .slice af nf cf, .slice aw nw cw, .int .i64 t]] w (fun e w' => e = .returned (.bool (incB W H xs fs ws t)) ∧ Below w.heap.size w w') := by
  have hM := Mem.start w
  have HL := Lib.hid h.len
  have HLF := Lib.hid hf.len
  have HLW := Lib.hid hw.len
  have hrm := h.room
  have hrf := hf.room
  have hrw := hw.room
  obtain ⟨g, hg⟩ : ∃ g, goodB 20 W H xs = g := ⟨_, rfl⟩
  have HF := Lib.hid (show incB W H xs fs ws t = (g && decide (nf = n) && decide (nw = n) && inB t 0 9999 && (List.range n).all (okC xs fs ws)) by rw [incB, hg, h.len, hf.len, hw.len])
  have HG := Lib.hid hg
  clear hg
  go_enter Tryz.func30, Tryz.ntmps30
  go_wp2_with fail
  apply Mem.atA
  · (repeat' (first | with_reducible exact hM | with_reducible exact hMp | with_reducible apply Mem.drew | with_reducible apply Mem.drewN | with_reducible apply Mem.alloc | with_reducible apply Mem.set | with_reducible exact Sto.row | ((with_reducible refine Sto.rowEq2 ?_ ?_); omega; rfl) | ((with_reducible refine Sto.rowEq ?_); omega) | with_reducible apply Sto.int | with_reducible apply Sto.there | with_reducible assumption | (unfold I64; omega) | (with_reducible (have hMx := Mem.undrew hM; exact hMx)) | (with_reducible (have hMx := Mem.undrew hMp; exact hMx))))
  clear hM
  intro wst hM
  (try simp only [World.size_alloc, World.size_setCell, World.heap_drewN, heapDrew, Nat.add_assoc, Nat.reduceAdd, List.setIfInBounds_toArray, List.set_cons_zero, List.set_cons_succ, List.cons_append, List.nil_append] at hM)
  apply Calls.mono
  · (apply l2Good_any W H a n c xs) <;> (first | (show (_ : Prop); with_reducible assumption) | (apply Hid.out; with_reducible assumption) | (apply Mem.intsR hM; (repeat' (first | with_reducible exact In.here | with_reducible apply In.there)); done) | (apply Ints.ext (hb := hM.below); with_reducible assumption) | (apply Rd.ext (hb := hM.below); with_reducible assumption) | (apply Mem.row hM; (repeat' (first | with_reducible exact In.here | with_reducible apply In.there)); done) | (apply Row.ext (hb := hM.below); with_reducible assumption) | exact ⟨by omega, by omega⟩ | omega | (trace_state; fail))
  rw [HG.out]
  rintro e wc5 ⟨rfl, hb⟩
  replace hM := hM.ext hb
  clear hb
  cases g
  · skip
    obtain ⟨k0, f0, l0⟩ := hM.row .here
    go_wp2
    go_ret
    exact ⟨rb (by rw [HF.out]; rfl), (by apply Mem.below; (repeat' (first | with_reducible exact hM | with_reducible exact hMp | with_reducible apply Mem.drew | with_reducible apply Mem.drewN | with_reducible apply Mem.alloc | with_reducible apply Mem.set | with_reducible exact Sto.row | ((with_reducible refine Sto.rowEq2 ?_ ?_); omega; rfl) | ((with_reducible refine Sto.rowEq ?_); omega) | with_reducible apply Sto.int | with_reducible apply Sto.there | with_reducible assumption | (unfold I64; omega) | (with_reducible (have hMx := Mem.undrew hM; exact hMx)) | (with_reducible (have hMx := Mem.undrew hMp; exact hMx)))))⟩
  obtain ⟨k0, f0, l0⟩ := hM.row .here
  by_cases e1 : nf = n
  rotate_left
  · have he : ((nf : Int) != (n : Int)) = true := by simp; omega
    have HE := Lib.hid (decide_eq_false e1)
    clear e1
    go_wp2
    go_ret
    exact ⟨rb (by rw [HF.out, HE.out]; rfl), (by apply Mem.below; (repeat' (first | with_reducible exact hM | with_reducible exact hMp | with_reducible apply Mem.drew | with_reducible apply Mem.drewN | with_reducible apply Mem.alloc | with_reducible apply Mem.set | with_reducible exact Sto.row | ((with_reducible refine Sto.rowEq2 ?_ ?_); omega; rfl) | ((with_reducible refine Sto.rowEq ?_); omega) | with_reducible apply Sto.int | with_reducible apply Sto.there | with_reducible assumption | (unfold I64; omega) | (with_reducible (have hMx := Mem.undrew hM; exact hMx)) | (with_reducible (have hMx := Mem.undrew hMp; exact hMx)))))⟩
  subst e1
  by_cases e2 : nw = nf
  rotate_left
  · have he : ((nw : Int) != (nf : Int)) = true := by simp; omega
    have HE := Lib.hid (decide_eq_false e2)
    clear e2
    go_wp2
    go_ret
    exact ⟨rb (by rw [HF.out, HE.out, Bool.and_false]; rfl), (by apply Mem.below; (repeat' (first | with_reducible exact hM | with_reducible exact hMp | with_reducible apply Mem.drew | with_reducible apply Mem.drewN | with_reducible apply Mem.alloc | with_reducible apply Mem.set | with_reducible exact Sto.row | ((with_reducible refine Sto.rowEq2 ?_ ?_); omega; rfl) | ((with_reducible refine Sto.rowEq ?_); omega) | with_reducible apply Sto.int | with_reducible apply Sto.there | with_reducible assumption | (unfold I64; omega) | (with_reducible (have hMx := Mem.undrew hM; exact hMx)) | (with_reducible (have hMx := Mem.undrew hMp; exact hMx)))))⟩
  subst e2
  obtain ⟨q, hq⟩ : ∃ q, inB t 0 9999 = q := ⟨_, rfl⟩
  have HQ := Lib.hid hq
  clear hq
  replace HF := Lib.hid (show incB W H xs fs ws t = (q && (List.range nw).all (okC xs fs ws)) by rw [HF.out, HQ.out, decide_eq_true rfl]; rfl)
  go_wp2_with fail
  apply Mem.atA
  · (repeat' (first | with_reducible exact hM | with_reducible exact hMp | with_reducible apply Mem.drew | with_reducible apply Mem.drewN | with_reducible apply Mem.alloc | with_reducible apply Mem.set | with_reducible exact Sto.row | ((with_reducible refine Sto.rowEq2 ?_ ?_); omega; rfl) | ((with_reducible refine Sto.rowEq ?_); omega) | with_reducible apply Sto.int | with_reducible apply Sto.there | with_reducible assumption | (unfold I64; omega) | (with_reducible (have hMx := Mem.undrew hM; exact hMx)) | (with_reducible (have hMx := Mem.undrew hMp; exact hMx))))
  clear hM
  intro wst hM
  (try simp only [World.size_alloc, World.size_setCell, World.heap_drewN, heapDrew, Nat.add_assoc, Nat.reduceAdd, List.setIfInBounds_toArray, List.set_cons_zero, List.set_cons_succ, List.cons_append, List.nil_append] at hM)
  apply Calls.mono
  · (apply l4Tick_any) <;> (first | (show (_ : Prop); with_reducible assumption) | (apply Hid.out; with_reducible assumption) | (apply Mem.intsR hM; (repeat' (first | with_reducible exact In.here | with_reducible apply In.there)); done) | (apply Ints.ext (hb := hM.below); with_reducible assumption) | (apply Rd.ext (hb := hM.below); with_reducible assumption) | (apply Mem.row hM; (repeat' (first | with_reducible exact In.here | with_reducible apply In.there)); done) | (apply Row.ext (hb := hM.below); with_reducible assumption) | exact ⟨by omega, by omega⟩ | omega | (trace_state; fail))
  rw [HQ.out]
  rintro e wc6 ⟨rfl, rfl⟩
  clear k0 f0 l0
  obtain ⟨k0, f0, l0⟩ := hM.row .here
  cases q
  · go_wp2
    go_ret
    exact ⟨rb (by rw [HF.out]; rfl), (by apply Mem.below; (repeat' (first | with_reducible exact hM | with_reducible exact hMp | with_reducible apply Mem.drew | with_reducible apply Mem.drewN | with_reducible apply Mem.alloc | with_reducible apply Mem.set | with_reducible exact Sto.row | ((with_reducible refine Sto.rowEq2 ?_ ?_); omega; rfl) | ((with_reducible refine Sto.rowEq ?_); omega) | with_reducible apply Sto.int | with_reducible apply Sto.there | with_reducible assumption | (unfold I64; omega) | (with_reducible (have hMx := Mem.undrew hM; exact hMx)) | (with_reducible (have hMx := Mem.undrew hMp; exact hMx)))))⟩
  go_wp2_with fail
  clear k0 f0 l0
  go_loopw [4] (fun i wr => ∃ k : Nat, k ≤ nw ∧ i = .int .i64 k ∧ (List.range k).all (okC xs fs ws) = true ∧ Mem w.heap.size w wr [rowE w.heap.size 37 #[.int .i64 W, .int .i64 H, .slice a nw c, .slice af nw cf, .slice aw nw cw, .int .i64 t]]) (fun i _ => nw - (intOf i).toNat)
  case atStart => exact ⟨0, Nat.zero_le _, rfl, by simp, hM⟩
  case round =>
    clear hM
    obtain ⟨k, hk, rfl, hall, hM⟩ := hrel
    have HA := Lib.hid hall; clear hall
    by_cases hlt : k < nw
    · obtain ⟨ba, offa, rfl, -, -⟩ := h.at' _ hlt
      have hcx := (h.ext hM.below).get hlt
      obtain ⟨bx, offx, rfl, -, -⟩ := hf.at' _ hlt
      have hcf := (hf.ext hM.below).get hlt
      obtain ⟨bz, offz, rfl, -, -⟩ := hw.at' _ hlt
      have hcz := (hw.ext hM.below).get hlt
      obtain ⟨x, hx⟩ : ∃ x, xs.getD k 0 = x := ⟨_, rfl⟩
      obtain ⟨f, hff⟩ : ∃ x, fs.getD k 0 = x := ⟨_, rfl⟩
      obtain ⟨z, hz⟩ : ∃ x, ws.getD k 0 = x := ⟨_, rfl⟩
      obtain ⟨q1, hq1⟩ : ∃ q, inB f (-1) x = q := ⟨_, rfl⟩
      obtain ⟨q2, hq2⟩ : ∃ q, inB z 0 5 = q := ⟨_, rfl⟩
      have hok : okC xs fs ws k = (!((x == 0) && (f != 0)) && q1 && q2) := by rw [okC, hx, hff, hz, hq1, hq2]
      have hsu := range_all_succ (okC xs fs ws) k
      have hfa := range_all_false (p := okC xs fs ws) hlt
      rw [hok] at hsu hfa
      rw [hx] at hcx
      rw [hff] at hcf
      rw [hz] at hcz
      have HSU := Lib.hid hsu; have HFA := Lib.hid hfa; have HQ1 := Lib.hid hq1; have HQ2 := Lib.hid hq2
      clear hsu hfa hok hx hff hz hq1 hq2
      have i0 : (0 : Int) ≤ (k : Int) := by omega
      have i1 : (k : Int) < (nw : Int) := by omega
      obtain ⟨k0, f0, l0⟩ := hM.row .here
      have HOK := Lib.hid (show ∀ b : Bool, ((x == 0) && (f != 0)) = b → (!((x == 0) && (f != 0)) && q1 && q2) = (!b && q1 && q2) from fun b hb => by rw [hb])
      go_wp2_with fail
      apply Calls.mono
      · (apply l1In_any) <;> (first | (show (_ : Prop); with_reducible assumption) | (apply Hid.out; with_reducible assumption) | (apply Mem.intsR hM; (repeat' (first | with_reducible exact In.here | with_reducible apply In.there)); done) | (apply Ints.ext (hb := hM.below); with_reducible assumption) | (apply Rd.ext (hb := hM.below); with_reducible assumption) | (apply Mem.row hM; (repeat' (first | with_reducible exact In.here | with_reducible apply In.there)); done) | (apply Row.ext (hb := hM.below); with_reducible assumption) | exact ⟨by omega, by omega⟩ | omega | (trace_state; fail))
      rw [HQ1.out]
      rintro e wc7 ⟨rfl, rfl⟩
      cases q1
      · go_wp2
        go_ret
        exact ⟨rb (by rw [HF.out, HFA.out (by rw [Bool.and_false]; rfl)]; rfl), (by apply Mem.below; (repeat' (first | with_reducible exact hM | with_reducible exact hMp | with_reducible apply Mem.drew | with_reducible apply Mem.drewN | with_reducible apply Mem.alloc | with_reducible apply Mem.set | with_reducible exact Sto.row | ((with_reducible refine Sto.rowEq2 ?_ ?_); omega; rfl) | ((with_reducible refine Sto.rowEq ?_); omega) | with_reducible apply Sto.int | with_reducible apply Sto.there | with_reducible assumption | (unfold I64; omega) | (with_reducible (have hMx := Mem.undrew hM; exact hMx)) | (with_reducible (have hMx := Mem.undrew hMp; exact hMx)))))⟩
      have hsp : ((x == 0) = true ∧ (f != 0) = true) ∨ ((x == 0) = true ∧ (f != 0) = false) ∨ (x == 0) = false := by
        cases x == 0 <;> cases f != 0 <;> simp
      rcases hsp with ⟨hx0, hf0⟩ | hsp
      · have HB := Lib.hid (HOK.out true (by rw [hx0, hf0]; rfl))
        go_wp2
        go_ret
        exact ⟨rb (by rw [HF.out, HFA.out (by rw [HB.out]; rfl)]; rfl), (by apply Mem.below; (repeat' (first | with_reducible exact hM | with_reducible exact hMp | with_reducible apply Mem.drew | with_reducible apply Mem.drewN | with_reducible apply Mem.alloc | with_reducible apply Mem.set | with_reducible exact Sto.row | ((with_reducible refine Sto.rowEq2 ?_ ?_); omega; rfl) | ((with_reducible refine Sto.rowEq ?_); omega) | with_reducible apply Sto.int | with_reducible apply Sto.there | with_reducible assumption | (unfold I64; omega) | (with_reducible (have hMx := Mem.undrew hM; exact hMx)) | (with_reducible (have hMx := Mem.undrew hMp; exact hMx)))))⟩
      have HB := Lib.hid (HOK.out false (by rcases hsp with ⟨h1, h2⟩ | h1 <;> simp [*]))
      rcases hsp with ⟨hx0, hf0⟩ | hx0
      all_goals
        go_wp2_with fail
        apply Calls.mono
        · (apply l1In_any) <;> (first | (show (_ : Prop); with_reducible assumption) | (apply Hid.out; with_reducible assumption) | (apply Mem.intsR hM; (repeat' (first | with_reducible exact In.here | with_reducible apply In.there)); done) | (apply Ints.ext (hb := hM.below); with_reducible assumption) | (apply Rd.ext (hb := hM.below); with_reducible assumption) | (apply Mem.row hM; (repeat' (first | with_reducible exact In.here | with_reducible apply In.there)); done) | (apply Row.ext (hb := hM.below); with_reducible assumption) | exact ⟨by omega, by omega⟩ | omega | (trace_state; fail))
        rw [HQ2.out]
        rintro e wc8 ⟨rfl, rfl⟩
        cases q2
        · go_wp2
          go_ret
          exact ⟨rb (by rw [HF.out, HFA.out (by rw [HB.out]; rfl)]; rfl), (by apply Mem.below; (repeat' (first | with_reducible exact hM | with_reducible exact hMp | with_reducible apply Mem.drew | with_reducible apply Mem.drewN | with_reducible apply Mem.alloc | with_reducible apply Mem.set | with_reducible exact Sto.row | ((with_reducible refine Sto.rowEq2 ?_ ?_); omega; rfl) | ((with_reducible refine Sto.rowEq ?_); omega) | with_reducible apply Sto.int | with_reducible apply Sto.there | with_reducible assumption | (unfold I64; omega) | (with_reducible (have hMx := Mem.undrew hM; exact hMx)) | (with_reducible (have hMx := Mem.undrew hMp; exact hMx)))))⟩
        go_wp2
        go_roundw
        case rel => exact ⟨k + 1, by omega, by go_num, by rw [HSU.out, HA.out, HB.out]; rfl, by (repeat' (first | with_reducible exact hM | with_reducible exact hMp | with_reducible apply Mem.drew | with_reducible apply Mem.drewN | with_reducible apply Mem.alloc | with_reducible apply Mem.set | with_reducible exact Sto.row | ((with_reducible refine Sto.rowEq2 ?_ ?_); omega; rfl) | ((with_reducible refine Sto.rowEq ?_); omega) | with_reducible apply Sto.int | with_reducible apply Sto.there | with_reducible assumption | (unfold I64; omega) | (with_reducible (have hMx := Mem.undrew hM; exact hMx)) | (with_reducible (have hMx := Mem.undrew hMp; exact hMx))))⟩
        case measure => simp [intOf]; omega
    · obtain rfl : k = nw := by omega
      go_wp2
      go_ret
      exact ⟨rb (by rw [HF.out, HA.out]; rfl), (by apply Mem.below; (repeat' (first | with_reducible exact hM | with_reducible exact hMp | with_reducible apply Mem.drew | with_reducible apply Mem.drewN | with_reducible apply Mem.alloc | with_reducible apply Mem.set | with_reducible exact Sto.row | ((with_reducible refine Sto.rowEq2 ?_ ?_); omega; rfl) | ((with_reducible refine Sto.rowEq ?_); omega) | with_reducible apply Sto.int | with_reducible apply Sto.there | with_reducible assumption | (unfold I64; omega) | (with_reducible (have hMx := Mem.undrew hM; exact hMx)) | (with_reducible (have hMx := Mem.undrew hMp; exact hMx)))))⟩
end Go.Proofs.YtpflnmejbialjaaGreatDoor
