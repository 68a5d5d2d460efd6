/-
  RunActions.
-/
import Derived.Test.YtkohfegajcmdbaaQAct
import Derived.Test.YtkohfegajcmdbaaQLsAction
/-
  RunActions.
-/
namespace Go.Proofs.Ytkohfegajcmdbaa
set_option linter.unusedSimpArgs false
set_option linter.unusedVariables false
open Go.RowKit

structure RunS where
  i : IncI
  k : Nat
structure RunR where
  i : IncI
  k : Int
  ok : Bool
def runStep (n : Nat) (s : RunS) (a : ActionI) : RunS := if (actI n s.i a.kd a.cell.toNat).ok then ⟨(actI n s.i a.kd a.cell.toNat).i, s.k + 1⟩ else s
def runTo (n : Nat) (l : List ActionI) (s : RunS) : RunS := l.foldl (runStep n) s
def actsB (n : Nat) (l : List ActionI) : Bool := l.all fun v => actionB n v.kd v.cell
def runAR (W H : Int) (xs fs ws : List Int) (t : Int) (l : List ActionI) : RunR :=
  if incB W H xs fs ws t && decide (l.length ≤ 30) && actsB xs.length l then ⟨(runTo xs.length l ⟨⟨W, H, xs, fs, ws, t⟩, 0⟩).i, (runTo xs.length l ⟨⟨W, H, xs, fs, ws, t⟩, 0⟩).k, true⟩ else ⟨IncI.zero, 0, false⟩
/-- an incident, a number and whether there is one: new memory -/
def RunP (w : World) (r : RunR) (e : Ending) (w' : World) : Prop :=
  ∃ b1 n1 d1 b2 n2 d2 b3 n3 d3, e = .returned (.tuple #[.agg #[.int .i64 r.i.W, .int .i64 r.i.H, .slice b1 n1 d1, .slice b2 n2 d2, .slice b3 n3 d3, .int .i64 r.i.t], .int .i64 r.k, .bool r.ok]) ∧
    Mem w.heap.size w w' [intE b1 n1 d1 r.i.xs, intE b2 n2 d2 r.i.fs, intE b3 n3 d3 r.i.ws]
/-- what stays true of an incident -/
structure RunOK (n : Nat) (W H t : Int) (j : Nat) (s : RunS) : Prop where
  W : s.i.W = W
  H : s.i.H = H
  lx : s.i.xs.length = n
  lf : s.i.fs.length = n
  lw : s.i.ws.length = n
  px : ∀ x ∈ s.i.xs, 0 ≤ x
  pw : ∀ x ∈ s.i.ws, 0 ≤ x
  t0 : t ≤ s.i.t
  t1 : s.i.t ≤ t + j
  k : s.k ≤ j
theorem RunOK.step {n : Nat} {W H t : Int} {j : Nat} {s : RunS} (h : RunOK n W H t j s) {a : ActionI} : RunOK n W H t (j + 1) (runStep n s a) := by
  have hj := h.k
  have h0 := h.t0
  have h1 := h.t1
  unfold runStep
  split
  · unfold actI
    split
    · exact ⟨h.W, h.H, h.lx, fireT_length, wetT_length, h.px, wetT_pos, by show t ≤ s.i.t + 1; omega, by show s.i.t + 1 ≤ _; omega, by show s.k + 1 ≤ _; omega⟩
    · split
      · refine ⟨h.W, h.H, by rw [List.length_set]; exact h.lx, h.lf, h.lw, fun x hx => ?_, h.pw, h0, by show s.i.t ≤ _; omega, by show s.k + 1 ≤ _; omega⟩
        rcases List.mem_or_eq_of_mem_set hx with hx | rfl
        · exact h.px x hx
        · exact Int.le_refl _
      · refine ⟨h.W, h.H, h.lx, h.lf, by rw [List.length_set]; exact h.lw, h.px, fun x hx => ?_, h0, by show s.i.t ≤ _; omega, by show s.k + 1 ≤ _; omega⟩
        rcases List.mem_or_eq_of_mem_set hx with hx | rfl
        · exact h.pw x hx
        · decide
  · exact ⟨h.W, h.H, h.lx, h.lf, h.lw, h.px, h.pw, h0, by omega, by omega⟩
theorem runTo_succ {n : Nat} {l : List ActionI} {s : RunS} {k : Nat} (hk : k < l.length) : runTo n (l.take (k + 1)) s = runStep n (runTo n (l.take k) s) (l.getD k ActionI.zero) := by
  unfold runTo
  rw [take_succV (z := ActionI.zero) hk, List.foldl_append]
  rfl
theorem runTo_ok {n : Nat} {W H t : Int} {l : List ActionI} {s : RunS} (h : RunOK n W H t 0 s) : ∀ k, k ≤ l.length → RunOK n W H t k (runTo n (l.take k) s)
  | 0, _ => by simpa [runTo] using h
  | k + 1, hk => by rw [runTo_succ (by omega)]; exact (runTo_ok h k (by omega)).step

set_option maxHeartbeats 4000000 in
set_option maxRecDepth 100000 in
set_option maxHeartbeats 30000000 in
theorem implRun_any (W H : Int) (a : Option Addr) (n c : Nat) (xs : List Int) (af : Option Addr) (nf cf : Nat) (fs : List Int) (aw : Option Addr) (nw cw : Nat) (ws : List Int) (t : Int) (a1 : Option Addr) (n1 c1 : Nat) (acts : List ActionI) (w : World) (h : Ints w a n c xs) (hf : Ints w af nf cf fs) (hw : Ints w aw nw cw ws) (h1 : Rd FAction w a1 n1 c1 acts) :
    Calls Try.prog 47 #[.agg #[.int .i64 W, .int .i64 H, .slice a n c, .slice af nf cf, .slice aw nw cw, .int .i64 t], .slice a1 n1 c1] w ((RunP w (runAR W H xs fs ws t acts))) := by
  have hM := Mem.start w
  have hmf : ∀ (fn : Fn) (first cap : Array Value) (w : World), (Instr.makeFunc fn first cap).run Try.prog w = .ok (.func fn first cap) w := fun _ _ _ _ => rfl
  have hrm1 := h1.nroom
  have HL1 := Lib.hid h1.len
  cases hi : incB W H xs fs ws t
  · have HF := Lib.hid (show runAR W H xs fs ws t acts = ⟨IncI.zero, 0, false⟩ by rw [runAR, hi]; rfl)
    go_enter Try.func47, Try.ntmps47
    go_wp2_with fail
    apply Mem.atA
    · (repeat' (first | with_reducible exact hM | with_reducible exact hMp | with_reducible apply Mem.drew | with_reducible apply Mem.drewN | with_reducible apply Mem.alloc | with_reducible apply Mem.set | with_reducible exact Sto.row | ((with_reducible refine Sto.rowEq2 ?_ ?_); omega; rfl) | ((with_reducible refine Sto.rowEq ?_); omega) | with_reducible apply Sto.int | with_reducible apply Sto.there | with_reducible assumption | (unfold I64; omega) | (with_reducible (have hMx := Mem.undrew hM; exact hMx)) | (with_reducible (have hMx := Mem.undrew hMp; exact hMx))))
    clear hM
    intro wst hM
    (try simp only [World.size_alloc, World.size_setCell, World.heap_drewN, heapDrew, Nat.add_assoc, Nat.reduceAdd, List.setIfInBounds_toArray, List.set_cons_zero, List.set_cons_succ, List.cons_append, List.nil_append] at hM)
    apply Calls.mono
    · (apply IsIncident_any) <;> (first | (show (_ : Prop); with_reducible assumption) | (apply Hid.out; with_reducible assumption) | (apply Mem.intsR hM; (repeat' (first | with_reducible exact In.here | with_reducible apply In.there)); done) | (apply Ints.ext (hb := hM.below); with_reducible assumption) | (apply Rd.ext (hb := hM.below); with_reducible assumption) | (apply Mem.row hM; (repeat' (first | with_reducible exact In.here | with_reducible apply In.there)); done) | (apply Row.ext (hb := hM.below); with_reducible assumption) | exact ⟨by omega, by omega⟩ | omega | (trace_state; fail))
    rw [hi]
    rintro e wc1 ⟨rfl, hb⟩
    replace hM := hM.ext hb
    clear hb
    obtain ⟨k0, f0, l0⟩ := hM.row .here
    go_wp2
    rw [HF.out]
    refine bodyPost_ret (v := .tuple #[.agg #[.int .i64 0, .int .i64 0, .slice none 0 0, .slice none 0 0, .slice none 0 0, .int .i64 0], .int .i64 0, .bool false]) (by simp [results, Try.results47, go_sem, k0]) rfl ⟨none, 0, 0, none, 0, 0, none, 0, 0, rfl, ?_⟩
    apply Mem.nil3
    (repeat' (first | with_reducible exact hM | with_reducible exact hMp | with_reducible apply Mem.drew | with_reducible apply Mem.drewN | with_reducible apply Mem.alloc | with_reducible apply Mem.set | with_reducible exact Sto.row | ((with_reducible refine Sto.rowEq2 ?_ ?_); omega; rfl) | ((with_reducible refine Sto.rowEq ?_); omega) | with_reducible apply Sto.int | with_reducible apply Sto.there | with_reducible assumption | (unfold I64; omega) | (with_reducible (have hMx := Mem.undrew hM; exact hMx)) | (with_reducible (have hMx := Mem.undrew hMp; exact hMx))))
  have HI := Lib.hid hi
  obtain ⟨Wn, Hn, rfl, rfl, hlf, hlw, hnp, hn25, hW, ht, hxs, hfs, hws⟩ := incB_facts hi
  rw [h.len] at hlf hlw hnp hn25
  obtain rfl : nf = n := by rw [← hlf, hf.len]
  obtain rfl : nw = nf := by rw [← hlw, hw.len]
  have HOK := Lib.hid (fun k (hk : k ≤ acts.length) => runTo_ok (l := acts) (n := nw) (W := Wn) (H := Hn) (t := t) (s := ⟨⟨Wn, Hn, xs, fs, ws, t⟩, 0⟩) ⟨rfl, rfl, h.len, hf.len, hw.len, fun x hx => (hxs x hx).1, hws, Int.le_refl _, by show t ≤ t + ((0 : Nat) : Int); omega, Nat.le_refl _⟩ k hk)
  have HF0 := Lib.hid (show runAR Wn Hn xs fs ws t acts = if decide (n1 ≤ 30) && actsB nw acts then ⟨(runTo nw acts ⟨⟨Wn, Hn, xs, fs, ws, t⟩, 0⟩).i, (runTo nw acts ⟨⟨Wn, Hn, xs, fs, ws, t⟩, 0⟩).k, true⟩ else ⟨IncI.zero, 0, false⟩ by rw [runAR, hi, h.len, h1.len, Bool.true_and])
  clear hxs hfs hws hlf hlw hi
  by_cases hl : n1 ≤ 30
  rotate_left
  · have HF := Lib.hid (show runAR Wn Hn xs fs ws t acts = ⟨IncI.zero, 0, false⟩ by rw [HF0.out, decide_eq_false hl]; rfl)
    have hl2 : (30 : Int) < n1 := by omega
    clear HF0
    go_enter Try.func47, Try.ntmps47
    go_wp2_with fail
    apply Mem.atA
    · (repeat' (first | with_reducible exact hM | with_reducible exact hMp | with_reducible apply Mem.drew | with_reducible apply Mem.drewN | with_reducible apply Mem.alloc | with_reducible apply Mem.set | with_reducible exact Sto.row | ((with_reducible refine Sto.rowEq2 ?_ ?_); omega; rfl) | ((with_reducible refine Sto.rowEq ?_); omega) | with_reducible apply Sto.int | with_reducible apply Sto.there | with_reducible assumption | (unfold I64; omega) | (with_reducible (have hMx := Mem.undrew hM; exact hMx)) | (with_reducible (have hMx := Mem.undrew hMp; exact hMx))))
    clear hM
    intro wst hM
    (try simp only [World.size_alloc, World.size_setCell, World.heap_drewN, heapDrew, Nat.add_assoc, Nat.reduceAdd, List.setIfInBounds_toArray, List.set_cons_zero, List.set_cons_succ, List.cons_append, List.nil_append] at hM)
    apply Calls.mono
    · (apply IsIncident_any) <;> (first | (show (_ : Prop); with_reducible assumption) | (apply Hid.out; with_reducible assumption) | (apply Mem.intsR hM; (repeat' (first | with_reducible exact In.here | with_reducible apply In.there)); done) | (apply Ints.ext (hb := hM.below); with_reducible assumption) | (apply Rd.ext (hb := hM.below); with_reducible assumption) | (apply Mem.row hM; (repeat' (first | with_reducible exact In.here | with_reducible apply In.there)); done) | (apply Row.ext (hb := hM.below); with_reducible assumption) | exact ⟨by omega, by omega⟩ | omega | (trace_state; fail))
    rw [HI.out]
    rintro e wc2 ⟨rfl, hb⟩
    replace hM := hM.ext hb
    clear hb
    obtain ⟨k0, f0, l0⟩ := hM.row .here
    go_wp2
    rw [HF.out]
    refine bodyPost_ret (v := .tuple #[.agg #[.int .i64 0, .int .i64 0, .slice none 0 0, .slice none 0 0, .slice none 0 0, .int .i64 0], .int .i64 0, .bool false]) (by simp [results, Try.results47, go_sem, k0]) rfl ⟨none, 0, 0, none, 0, 0, none, 0, 0, rfl, ?_⟩
    apply Mem.nil3
    (repeat' (first | with_reducible exact hM | with_reducible exact hMp | with_reducible apply Mem.drew | with_reducible apply Mem.drewN | with_reducible apply Mem.alloc | with_reducible apply Mem.set | with_reducible exact Sto.row | ((with_reducible refine Sto.rowEq2 ?_ ?_); omega; rfl) | ((with_reducible refine Sto.rowEq ?_); omega) | with_reducible apply Sto.int | with_reducible apply Sto.there | with_reducible assumption | (unfold I64; omega) | (with_reducible (have hMx := Mem.undrew hM; exact hMx)) | (with_reducible (have hMx := Mem.undrew hMp; exact hMx))))
  have hl2 : ¬ (30 : Int) < n1 := by omega
  obtain ⟨q, hq⟩ : ∃ q, actsB nw acts = q := ⟨_, rfl⟩
  have HQ := Lib.hid (show (acts.all fun v => actionB nw v.kd v.cell) = q from hq)
  have HF1 := Lib.hid (show runAR Wn Hn xs fs ws t acts = if q then ⟨(runTo nw acts ⟨⟨Wn, Hn, xs, fs, ws, t⟩, 0⟩).i, (runTo nw acts ⟨⟨Wn, Hn, xs, fs, ws, t⟩, 0⟩).k, true⟩ else ⟨IncI.zero, 0, false⟩ by rw [HF0.out, decide_eq_true hl, hq, Bool.true_and])
  clear hq HF0
  go_enter Try.func47, Try.ntmps47
  go_wp2_with fail
  apply Mem.atA
  · (repeat' (first | with_reducible exact hM | with_reducible exact hMp | with_reducible apply Mem.drew | with_reducible apply Mem.drewN | with_reducible apply Mem.alloc | with_reducible apply Mem.set | with_reducible exact Sto.row | ((with_reducible refine Sto.rowEq2 ?_ ?_); omega; rfl) | ((with_reducible refine Sto.rowEq ?_); omega) | with_reducible apply Sto.int | with_reducible apply Sto.there | with_reducible assumption | (unfold I64; omega) | (with_reducible (have hMx := Mem.undrew hM; exact hMx)) | (with_reducible (have hMx := Mem.undrew hMp; exact hMx))))
  clear hM
  intro wst hM
  (try simp only [World.size_alloc, World.size_setCell, World.heap_drewN, heapDrew, Nat.add_assoc, Nat.reduceAdd, List.setIfInBounds_toArray, List.set_cons_zero, List.set_cons_succ, List.cons_append, List.nil_append] at hM)
  apply Calls.mono
  · (apply IsIncident_any) <;> (first | (show (_ : Prop); with_reducible assumption) | (apply Hid.out; with_reducible assumption) | (apply Mem.intsR hM; (repeat' (first | with_reducible exact In.here | with_reducible apply In.there)); done) | (apply Ints.ext (hb := hM.below); with_reducible assumption) | (apply Rd.ext (hb := hM.below); with_reducible assumption) | (apply Mem.row hM; (repeat' (first | with_reducible exact In.here | with_reducible apply In.there)); done) | (apply Row.ext (hb := hM.below); with_reducible assumption) | exact ⟨by omega, by omega⟩ | omega | (trace_state; fail))
  rw [HI.out]
  rintro e wc3 ⟨rfl, hb⟩
  replace hM := hM.ext hb
  clear hb
  obtain ⟨k1, f1, l1⟩ := hM.row (.there .here)
  go_wp2_with fail
  clear k1 f1 l1
  apply Mem.atA
  · (repeat' (first | with_reducible exact hM | with_reducible exact hMp | with_reducible apply Mem.drew | with_reducible apply Mem.drewN | with_reducible apply Mem.alloc | with_reducible apply Mem.set | with_reducible exact Sto.row | ((with_reducible refine Sto.rowEq2 ?_ ?_); omega; rfl) | ((with_reducible refine Sto.rowEq ?_); omega) | with_reducible apply Sto.int | with_reducible apply Sto.there | with_reducible assumption | (unfold I64; omega) | (with_reducible (have hMx := Mem.undrew hM; exact hMx)) | (with_reducible (have hMx := Mem.undrew hMp; exact hMx))))
  clear hM
  intro wst hM
  (try simp only [World.size_alloc, World.size_setCell, World.heap_drewN, heapDrew, Nat.add_assoc, Nat.reduceAdd, List.setIfInBounds_toArray, List.set_cons_zero, List.set_cons_succ, List.cons_append, List.nil_append] at hM)
  (first | refine ((allAction_any _ _ _ (fun v => actionB nw v.kd v.cell) a1 n1 c1 acts _ (h1.ext hM.below) (enters Try.func88 (by kernel_rfl) rfl) (fun v hv w' hb => by
      have hM' := hM.ext hb
      exact isAction_any Wn Hn a nw c xs af cf fs aw cw ws t v.kd v.cell w' (h.ext hM'.below) (hf.ext hM'.below) (hw.ext hM'.below) hn25))).mono ?_)
  rw [HQ.out]
  rintro e wc4 ⟨rfl, hb⟩
  replace hM := hM.ext hb
  clear hb
  cases q
  · have HF := Lib.hid (show runAR Wn Hn xs fs ws t acts = ⟨IncI.zero, 0, false⟩ by rw [HF1.out]; rfl)
    obtain ⟨k0, f0, l0⟩ := hM.row .here
    go_wp2
    rw [HF.out]
    refine bodyPost_ret (v := .tuple #[.agg #[.int .i64 0, .int .i64 0, .slice none 0 0, .slice none 0 0, .slice none 0 0, .int .i64 0], .int .i64 0, .bool false]) (by simp [results, Try.results47, go_sem, k0]) rfl ⟨none, 0, 0, none, 0, 0, none, 0, 0, rfl, ?_⟩
    apply Mem.nil3
    (repeat' (first | with_reducible exact hM | with_reducible exact hMp | with_reducible apply Mem.drew | with_reducible apply Mem.drewN | with_reducible apply Mem.alloc | with_reducible apply Mem.set | with_reducible exact Sto.row | ((with_reducible refine Sto.rowEq2 ?_ ?_); omega; rfl) | ((with_reducible refine Sto.rowEq ?_); omega) | with_reducible apply Sto.int | with_reducible apply Sto.there | with_reducible assumption | (unfold I64; omega) | (with_reducible (have hMx := Mem.undrew hM; exact hMx)) | (with_reducible (have hMx := Mem.undrew hMp; exact hMx))))
  have HF := Lib.hid (show runAR Wn Hn xs fs ws t acts = ⟨(runTo nw acts ⟨⟨Wn, Hn, xs, fs, ws, t⟩, 0⟩).i, (runTo nw acts ⟨⟨Wn, Hn, xs, fs, ws, t⟩, 0⟩).k, true⟩ by rw [HF1.out]; rfl)
  have HALL := Lib.hid (List.all_eq_true.1 HQ.out)
  clear HF1
  obtain ⟨k1, f1, l1⟩ := hM.row (.there .here)
  go_wp2_with fail
  clear k1 f1 l1
  apply Mem.atA
  · (repeat' (first | with_reducible exact hM | with_reducible exact hMp | with_reducible apply Mem.drew | with_reducible apply Mem.drewN | with_reducible apply Mem.alloc | with_reducible apply Mem.set | with_reducible exact Sto.row | ((with_reducible refine Sto.rowEq2 ?_ ?_); omega; rfl) | ((with_reducible refine Sto.rowEq ?_); omega) | with_reducible apply Sto.int | with_reducible apply Sto.there | with_reducible assumption | (unfold I64; omega) | (with_reducible (have hMx := Mem.undrew hM; exact hMx)) | (with_reducible (have hMx := Mem.undrew hMp; exact hMx))))
  clear hM
  intro wst hM
  (try simp only [World.size_alloc, World.size_setCell, World.heap_drewN, heapDrew, Nat.add_assoc, Nat.reduceAdd, List.setIfInBounds_toArray, List.set_cons_zero, List.set_cons_succ, List.cons_append, List.nil_append] at hM)
  apply Calls.mono
  · (apply copiedInc_any Wn Hn a nw c xs af cf fs aw cw ws t) <;> (first | (show (_ : Prop); with_reducible assumption) | (apply Hid.out; with_reducible assumption) | (apply Mem.intsR hM; (repeat' (first | with_reducible exact In.here | with_reducible apply In.there)); done) | (apply Ints.ext (hb := hM.below); with_reducible assumption) | (apply Rd.ext (hb := hM.below); with_reducible assumption) | (apply Mem.row hM; (repeat' (first | with_reducible exact In.here | with_reducible apply In.there)); done) | (apply Row.ext (hb := hM.below); with_reducible assumption) | exact ⟨by omega, by omega⟩ | omega | (trace_state; fail))
  rintro e wc5 ⟨b1, d1, b2, d2, b3, d3, rfl, hm⟩
  replace hM := hM.join hm
  clear hm
  (try simp only [World.size_alloc, World.size_setCell, World.heap_drewN, heapDrew, Nat.add_assoc, Nat.reduceAdd, List.setIfInBounds_toArray, List.set_cons_zero, List.set_cons_succ, List.cons_append, List.nil_append] at hM)
  obtain ⟨k4, f4, l4⟩ := hM.row (.there (.there (.there (.there .here))))
  go_wp2_with fail
  clear k4 f4 l4
  apply Mem.atWpA
  · (repeat' (first | with_reducible exact hM | with_reducible exact hMp | with_reducible apply Mem.drew | with_reducible apply Mem.drewN | with_reducible apply Mem.alloc | with_reducible apply Mem.set | with_reducible exact Sto.row | ((with_reducible refine Sto.rowEq2 ?_ ?_); omega; rfl) | ((with_reducible refine Sto.rowEq ?_); omega) | with_reducible apply Sto.int | with_reducible apply Sto.there | with_reducible assumption | (unfold I64; omega) | (with_reducible (have hMx := Mem.undrew hM; exact hMx)) | (with_reducible (have hMx := Mem.undrew hMp; exact hMx))))
  clear hM
  intro wst hM
  (try simp only [World.size_alloc, World.size_setCell, World.heap_drewN, heapDrew, Nat.add_assoc, Nat.reduceAdd, List.setIfInBounds_toArray, List.set_cons_zero, List.set_cons_succ, List.cons_append, List.nil_append] at hM)
  go_loopw [7, 32] (fun s7 s32 wr => ∃ (k : Nat) (S : RunS) (b1 : Option Addr) (d1 : Nat) (b2 : Option Addr) (d2 : Nat) (b3 : Option Addr) (d3 : Nat), k ≤ n1 ∧ S = runTo nw (acts.take k) ⟨⟨Wn, Hn, xs, fs, ws, t⟩, 0⟩ ∧ s7 = .int .i64 S.k ∧ s32 = .int .i64 k ∧ Mem w.heap.size w wr [intE b1 nw d1 S.i.xs, intE b2 nw d2 S.i.fs, intE b3 nw d3 S.i.ws, rowE (w.heap.size + 1) 46 #[.int .i64 0, .int .i64 0, .slice none 0 0, .slice none 0 0, .slice none 0 0, .int .i64 0], rowE w.heap.size 46 #[.int .i64 Wn, .int .i64 Hn, .slice b1 nw d1, .slice b2 nw d2, .slice b3 nw d3, .int .i64 S.i.t]]) (fun _ s32 _ => n1 - (intOf s32).toNat)
  case atStart => exact ⟨0, ⟨⟨Wn, Hn, xs, fs, ws, t⟩, 0⟩, b1, d1, b2, d2, b3, d3, Nat.zero_le _, rfl, rfl, rfl, hM⟩
  case round =>
    clear hM
    obtain ⟨k, S, b1, d1, b2, d2, b3, d3, hk, hS, rfl, rfl, hM⟩ := hrel
    have hok := HOK.out k (by rw [HL1.out]; exact hk)
    rw [← hS] at hok
    obtain ⟨⟨sW, sH, sx, sf, sw, st⟩, sk⟩ := S
    obtain ⟨rfl, rfl, l1, l2, l3, px, pw, t0, t1, kb⟩ := hok
    dsimp only at hM l1 l2 l3 px pw t0 t1 kb ⊢
    have HS := Lib.hid hS
    have HPX := Lib.hid px; have HPW := Lib.hid pw
    have HLX := Lib.hid l1; have HLF := Lib.hid l2; have HLW := Lib.hid l3
    clear hS px pw l1 l2 l3
    by_cases hlt : k < n1
    · obtain ⟨bl, offl, rfl, -, -⟩ := h1.at' _ hlt
      obtain ⟨-, hc0, hc1⟩ := (h1.ext hM.below).cellAction hlt
      have hkl : k < acts.length := by rw [HL1.out]; exact hlt
      have hav := HALL.out (acts.getD k ActionI.zero) (by rw [List.getD_eq_getElem?_getD, List.getElem?_eq_getElem hkl]; exact List.getElem_mem _)
      have hsu := runTo_succ (n := nw) (s := ⟨⟨Wn, Hn, xs, fs, ws, t⟩, 0⟩) hkl
      rw [← HS.out] at hsu
      obtain ⟨v, hv⟩ : ∃ v, acts.getD k ActionI.zero = v := ⟨_, rfl⟩
      rw [hv] at hc0 hc1 hav hsu
      obtain ⟨ak, ac⟩ := v
      dsimp only at hc0 hc1 hav hsu
      rw [runStep] at hsu
      dsimp only at hsu
      obtain ⟨r, hr⟩ : ∃ r, actI nw ⟨Wn, Hn, sx, sf, sw, st⟩ ak ac.toNat = r := ⟨_, rfl⟩
      rw [hr] at hsu
      have HAV := Lib.hid hav; have HSU := Lib.hid hsu; have HR := Lib.hid hr
      clear hav hsu hr hv hkl
      have i0 : (0 : Int) ≤ (k : Int) := by omega
      have i1 : (k : Int) < (n1 : Int) := by omega
      obtain ⟨⟨rW, rH, rx, rf, rw', rt⟩, rok⟩ := r
      have HOK2 := HOK.out (k + 1) (by rw [HL1.out]; omega)
      rw [HSU.out] at HOK2
      replace HOK2 := Lib.hid HOK2
      obtain ⟨k4, f4, l4⟩ := hM.row (.there (.there (.there (.there .here))))
      go_wp2_with fail
      clear k4 f4 l4
      apply Mem.atA
      · (repeat' (first | with_reducible exact hM | with_reducible exact hMp | with_reducible apply Mem.drew | with_reducible apply Mem.drewN | with_reducible apply Mem.alloc | with_reducible apply Mem.set | with_reducible exact Sto.row | ((with_reducible refine Sto.rowEq2 ?_ ?_); omega; rfl) | ((with_reducible refine Sto.rowEq ?_); omega) | with_reducible apply Sto.int | with_reducible apply Sto.there | with_reducible assumption | (unfold I64; omega) | (with_reducible (have hMx := Mem.undrew hM; exact hMx)) | (with_reducible (have hMx := Mem.undrew hMp; exact hMx))))
      clear hM
      intro wst hM
      (try simp only [World.size_alloc, World.size_setCell, World.heap_drewN, heapDrew, Nat.add_assoc, Nat.reduceAdd, List.setIfInBounds_toArray, List.set_cons_zero, List.set_cons_succ, List.cons_append, List.nil_append] at hM)
      apply Calls.mono
      · (apply act_any Wn Hn b1 nw d1 sx b2 d2 sf b3 d3 sw st ak ac) <;> (first | (show (_ : Prop); with_reducible assumption) | (apply Hid.out; with_reducible assumption) | (apply Mem.intsR hM; (repeat' (first | with_reducible exact In.here | with_reducible apply In.there)); done) | (apply Ints.ext (hb := hM.below); with_reducible assumption) | (apply Rd.ext (hb := hM.below); with_reducible assumption) | (apply Mem.row hM; (repeat' (first | with_reducible exact In.here | with_reducible apply In.there)); done) | (apply Row.ext (hb := hM.below); with_reducible assumption) | exact ⟨by omega, by omega⟩ | omega | (trace_state; fail))
      rw [HR.out]
      rintro e wq ⟨b4, n4, d4, b5, n5, d5, b6, n6, d6, rfl, hm⟩
      replace hM := hM.join hm
      clear hm
      (try simp only [World.size_alloc, World.size_setCell, World.heap_drewN, heapDrew, Nat.add_assoc, Nat.reduceAdd, List.setIfInBounds_toArray, List.set_cons_zero, List.set_cons_succ, List.cons_append, List.nil_append] at hM)
      dsimp only at hM ⊢
      clear hc0 hc1
      cases rok
      · have HE := Lib.hid (HSU.out.trans (if_neg Bool.false_ne_true)).symm
        go_wp2
        go_roundw
        case rel =>
          refine ⟨k + 1, ⟨⟨Wn, Hn, sx, sf, sw, st⟩, sk⟩, b1, d1, b2, d2, b3, d3, by omega, HE.out, rfl, by go_num, ?_⟩
          apply Mem.pick (is := [5, 6, 7, 8, 9])
          · (repeat' (first | with_reducible exact hM | with_reducible exact hMp | with_reducible apply Mem.drew | with_reducible apply Mem.drewN | with_reducible apply Mem.alloc | with_reducible apply Mem.set | with_reducible exact Sto.row | ((with_reducible refine Sto.rowEq2 ?_ ?_); omega; rfl) | ((with_reducible refine Sto.rowEq ?_); omega) | with_reducible apply Sto.int | with_reducible apply Sto.there | with_reducible assumption | (unfold I64; omega) | (with_reducible (have hMx := Mem.undrew hM; exact hMx)) | (with_reducible (have hMx := Mem.undrew hMp; exact hMx))))
          · decide
          · rfl
        case measure => simp [intOf]; omega
      · have HE := Lib.hid (HSU.out.trans (if_pos rfl)).symm
        have hok2 := HOK2.out
        rw [if_pos rfl] at hok2
        obtain rfl : n4 = nw := by rw [← hok2.lx]; exact (hM.ints .here).len.symm
        obtain rfl : n5 = n4 := by rw [← hok2.lf]; exact (hM.ints (.there .here)).len.symm
        obtain rfl : n6 = n5 := by rw [← hok2.lw]; exact (hM.ints (.there (.there .here))).len.symm
        obtain rfl : rW = Wn := hok2.W
        obtain rfl : rH = Hn := hok2.H
        clear hok2
        obtain ⟨k8, f8, l8⟩ := hM.row (.there (.there (.there (.there (.there (.there (.there (.there .here))))))))
        have hws1 : IntKind.i64.wrap ((sk : Int) + 1) = ((sk + 1 : Nat) : Int) := by rw [wrap_in (by omega)]; omega
        go_wp2
        go_roundw
        case rel =>
          refine ⟨k + 1, ⟨⟨Wn, Hn, rx, rf, rw', rt⟩, sk + 1⟩, b4, d4, b5, d5, b6, d6, by omega, HE.out, rfl, by go_num, ?_⟩
          apply Mem.pick (is := [1, 2, 3, 8, 9])
          · (repeat' (first | with_reducible exact hM | with_reducible exact hMp | with_reducible apply Mem.drew | with_reducible apply Mem.drewN | with_reducible apply Mem.alloc | with_reducible apply Mem.set | with_reducible exact Sto.row | ((with_reducible refine Sto.rowEq2 ?_ ?_); omega; rfl) | ((with_reducible refine Sto.rowEq ?_); omega) | with_reducible apply Sto.int | with_reducible apply Sto.there | with_reducible assumption | (unfold I64; omega) | (with_reducible (have hMx := Mem.undrew hM; exact hMx)) | (with_reducible (have hMx := Mem.undrew hMp; exact hMx))))
          · decide
          · rfl
        case measure => simp [intOf]; omega
    · obtain rfl : k = n1 := by omega
      have hs := HS.out
      rw [List.take_of_length_le (by rw [HL1.out]; exact Nat.le_refl _)] at hs
      have HS2 := Lib.hid hs
      clear hs
      obtain ⟨k3, f3, l3⟩ := hM.row (.there (.there (.there .here)))
      obtain ⟨k4, f4, l4⟩ := hM.row (.there (.there (.there (.there .here))))
      go_wp2
      rw [HF.out, ← HS2.out]
      refine bodyPost_ret (v := .tuple #[.agg #[.int .i64 Wn, .int .i64 Hn, .slice b1 nw d1, .slice b2 nw d2, .slice b3 nw d3, .int .i64 st], .int .i64 sk, .bool true]) (by simp [results, Try.results47, go_sem, k3]) rfl ⟨b1, nw, d1, b2, nw, d2, b3, nw, d3, rfl, ?_⟩
      apply Mem.pick (is := [0, 1, 2])
      · (repeat' (first | with_reducible exact hM | with_reducible exact hMp | with_reducible apply Mem.drew | with_reducible apply Mem.drewN | with_reducible apply Mem.alloc | with_reducible apply Mem.set | with_reducible exact Sto.row | ((with_reducible refine Sto.rowEq2 ?_ ?_); omega; rfl) | ((with_reducible refine Sto.rowEq ?_); omega) | with_reducible apply Sto.int | with_reducible apply Sto.there | with_reducible assumption | (unfold I64; omega) | (with_reducible (have hMx := Mem.undrew hM; exact hMx)) | (with_reducible (have hMx := Mem.undrew hMp; exact hMx))))
      · decide
      · rfl
end Go.Proofs.Ytkohfegajcmdbaa
