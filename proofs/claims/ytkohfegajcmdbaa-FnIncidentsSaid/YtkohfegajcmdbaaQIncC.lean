/-
  SpentCells, BurningCells, ThreatenedCells: both sides; the law's equality of incidents.
-/
import Derived.Test.YtkohfegajcmdbaaQIncP
import Derived.Test.YtkohfegajcmdbaaQNbr
import Derived.Test.YtkohfegajcmdbaaQLawV
/-
  SpentCells, BurningCells, ThreatenedCells: both sides; the law's equality of incidents.
-/
namespace Go.Proofs.Ytkohfegajcmdbaa
set_option linter.unusedSimpArgs false
set_option linter.unusedVariables false
open Go.RowKit

def spentR (W H : Int) (xs fs ws : List Int) (t : Int) : List Int × Bool := if incB W H xs fs ws t then (spentL xs.length fs, true) else ([], false)
def burningR (W H : Int) (xs fs ws : List Int) (t : Int) : List Int × Bool := if incB W H xs fs ws t then (burnL xs.length fs, true) else ([], false)
def threatR (W H : Int) (xs fs ws : List Int) (t : Int) : List Int × Bool := if incB W H xs fs ws t then (cellsN xs.length (thrN W.toNat xs.length xs fs ws), true) else ([], false)

set_option maxRecDepth 100000 in
set_option maxHeartbeats 30000000 in
theorem spent1_any (k : Nat) (b : Nat) (w : World) (W Hn : Nat) (a : Option Addr) (n c : Nat) (af : Option Addr) (cf : Nat) (fs : List Int) (aw : Option Addr) (cw : Nat) (t : Int) (hf : Ints w af n cf fs) (hr : Row w b #[.int .i64 W, .int .i64 Hn, .slice a n c, .slice af n cf, .slice aw n cw, .int .i64 t]) (hk : k < n) :
    Calls Try.prog 90 #[.int .i64 k, .pointer (some ⟨b, 0, none⟩)] w (fun e w' => e = .returned (.bool (decide (fs.getD k 0 < 0))) ∧ Below w.heap.size w w') := by
  have k0 := hr.cell
  obtain ⟨bx, off, rfl, -, -⟩ := hf.at' _ hk
  have hck := hf.get hk
  obtain ⟨x, hx⟩ : ∃ x, fs.getD k 0 = x := ⟨_, rfl⟩
  rw [hx] at hck ⊢
  clear hx
  have i0 : (0 : Int) ≤ (k : Int) := by omega
  have i1 : (k : Int) < (n : Int) := by omega
  go_enter Try.func90, Try.ntmps90
  go_wp2
  go_ret
  exact ⟨rfl, Below.refl _ _⟩

set_option maxRecDepth 100000 in
set_option maxHeartbeats 30000000 in
theorem implSpent_any (W H : Int) (a : Option Addr) (n c : Nat) (xs : List Int) (af : Option Addr) (nf cf : Nat) (fs : List Int) (aw : Option Addr) (nw cw : Nat) (ws : List Int) (t : Int) (w : World) (h : Ints w a n c xs) (hf : Ints w af nf cf fs) (hw : Ints w aw nw cw ws) :
    Calls Try.prog 34 #[.agg #[.int .i64 W, .int .i64 H, .slice a n c, .slice af nf cf, .slice aw nw cw, .int .i64 t]] w ((LR2 w (spentR W H xs fs ws t))) := by
  have hM := Mem.start w
  have hmf : ∀ (fn : Fn) (first cap : Array Value) (w : World), (Instr.makeFunc fn first cap).run Try.prog w = .ok (.func fn first cap) w := fun _ _ _ _ => rfl
  cases hi : incB W H xs fs ws t
  · have HF := Lib.hid (show spentR W H xs fs ws t = ([], false) by rw [spentR, hi]; rfl)
    have HI := Lib.hid hi; clear hi
    go_enter Try.func34, Try.ntmps34
    go_wp2_with fail
    apply Mem.atA
    · (repeat' (first | with_reducible exact hM | with_reducible exact hMp | with_reducible apply Mem.drew | with_reducible apply Mem.drewN | with_reducible apply Mem.alloc | with_reducible apply Mem.set | with_reducible exact Sto.row | ((with_reducible refine Sto.rowEq2 ?_ ?_); omega; rfl) | ((with_reducible refine Sto.rowEq ?_); omega) | with_reducible apply Sto.int | with_reducible apply Sto.there | with_reducible assumption | (unfold I64; omega) | (with_reducible (have hMx := Mem.undrew hM; exact hMx)) | (with_reducible (have hMx := Mem.undrew hMp; exact hMx))))
    clear hM
    intro wst hM
    (try simp only [World.size_alloc, World.size_setCell, World.heap_drewN, heapDrew, Nat.add_assoc, Nat.reduceAdd, List.setIfInBounds_toArray, List.set_cons_zero, List.set_cons_succ, List.cons_append, List.nil_append] at hM)
    apply Calls.mono
    · (apply IsIncident_any) <;> (first | (show (_ : Prop); with_reducible assumption) | (apply Hid.out; with_reducible assumption) | (apply Mem.intsR hM; (repeat' (first | with_reducible exact In.here | with_reducible apply In.there)); done) | (apply Ints.ext (hb := hM.below); with_reducible assumption) | (apply Rd.ext (hb := hM.below); with_reducible assumption) | (apply Mem.row hM; (repeat' (first | with_reducible exact In.here | with_reducible apply In.there)); done) | (apply Row.ext (hb := hM.below); with_reducible assumption) | exact ⟨by omega, by omega⟩ | omega | (trace_state; fail))
    rw [HI.out]
    rintro e wc1 ⟨rfl, hb⟩
    replace hM := hM.ext hb
    clear hb
    go_wp2
    go_ret2
    exact ⟨none, 0, 0, by rw [HF.out]; rfl, by rw [HF.out]; exact hM.nilInts⟩
  obtain ⟨Wn, Hn, rfl, rfl, hlf, hlw, hnp, hn25, hW, ht, hxs, hfs, hws⟩ := incB_facts hi
  rw [h.len] at hlf hlw hnp hn25
  obtain rfl : nf = n := by rw [← hlf, hf.len]
  obtain rfl : nw = nf := by rw [← hlw, hw.len]
  have HF := Lib.hid (show spentR Wn Hn xs fs ws t = (spentL nw fs, true) by rw [spentR, hi, h.len]; rfl)
  have HI := Lib.hid hi
  clear hi hxs hfs hws hlf hlw
  go_enter Try.func34, Try.ntmps34
  go_wp2_with fail
  apply Mem.atA
  · (repeat' (first | with_reducible exact hM | with_reducible exact hMp | with_reducible apply Mem.drew | with_reducible apply Mem.drewN | with_reducible apply Mem.alloc | with_reducible apply Mem.set | with_reducible exact Sto.row | ((with_reducible refine Sto.rowEq2 ?_ ?_); omega; rfl) | ((with_reducible refine Sto.rowEq ?_); omega) | with_reducible apply Sto.int | with_reducible apply Sto.there | with_reducible assumption | (unfold I64; omega) | (with_reducible (have hMx := Mem.undrew hM; exact hMx)) | (with_reducible (have hMx := Mem.undrew hMp; exact hMx))))
  clear hM
  intro wst hM
  (try simp only [World.size_alloc, World.size_setCell, World.heap_drewN, heapDrew, Nat.add_assoc, Nat.reduceAdd, List.setIfInBounds_toArray, List.set_cons_zero, List.set_cons_succ, List.cons_append, List.nil_append] at hM)
  apply Calls.mono
  · (apply IsIncident_any) <;> (first | (show (_ : Prop); with_reducible assumption) | (apply Hid.out; with_reducible assumption) | (apply Mem.intsR hM; (repeat' (first | with_reducible exact In.here | with_reducible apply In.there)); done) | (apply Ints.ext (hb := hM.below); with_reducible assumption) | (apply Rd.ext (hb := hM.below); with_reducible assumption) | (apply Mem.row hM; (repeat' (first | with_reducible exact In.here | with_reducible apply In.there)); done) | (apply Row.ext (hb := hM.below); with_reducible assumption) | exact ⟨by omega, by omega⟩ | omega | (trace_state; fail))
  rw [HI.out]
  rintro e wc2 ⟨rfl, hb⟩
  replace hM := hM.ext hb
  clear hb
  obtain ⟨k0, f0, l0⟩ := hM.row .here
  go_wp2_with fail
  clear k0 f0 l0
  apply Mem.atA
  · (repeat' (first | with_reducible exact hM | with_reducible exact hMp | with_reducible apply Mem.drew | with_reducible apply Mem.drewN | with_reducible apply Mem.alloc | with_reducible apply Mem.set | with_reducible exact Sto.row | ((with_reducible refine Sto.rowEq2 ?_ ?_); omega; rfl) | ((with_reducible refine Sto.rowEq ?_); omega) | with_reducible apply Sto.int | with_reducible apply Sto.there | with_reducible assumption | (unfold I64; omega) | (with_reducible (have hMx := Mem.undrew hM; exact hMx)) | (with_reducible (have hMx := Mem.undrew hMp; exact hMx))))
  clear hM
  intro wst hM
  (try simp only [World.size_alloc, World.size_setCell, World.heap_drewN, heapDrew, Nat.add_assoc, Nat.reduceAdd, List.setIfInBounds_toArray, List.set_cons_zero, List.set_cons_succ, List.cons_append, List.nil_append] at hM)
  (first | refine (cellsThat_any _ _ _ (fun k => decide (fs.getD k 0 < 0)) _ _ a nw c xs _ (h.ext hM.below) hn25 (enters Try.func90 (by kernel_rfl) rfl) (fun k hk w' hb => by
      have hM' := hM.ext hb
      exact spent1_any k _ w' Wn Hn a nw c af cf fs aw cw t (hf.ext hM'.below) (hM'.row .here) hk)).mono ?_)
  rintro e wc3 ⟨a', m', c', rfl, hm⟩
  replace hM := hM.join hm
  clear hm
  (try simp only [World.size_alloc, World.size_setCell, World.heap_drewN, heapDrew, Nat.add_assoc, Nat.reduceAdd, List.setIfInBounds_toArray, List.set_cons_zero, List.set_cons_succ, List.cons_append, List.nil_append] at hM)
  go_wp2
  go_ret2
  exact ⟨a', m', c', by rw [HF.out]; rfl, by rw [HF.out]; exact hM.first⟩
set_option maxRecDepth 100000 in
set_option maxHeartbeats 30000000 in
theorem implBurning_any (W H : Int) (a : Option Addr) (n c : Nat) (xs : List Int) (af : Option Addr) (nf cf : Nat) (fs : List Int) (aw : Option Addr) (nw cw : Nat) (ws : List Int) (t : Int) (w : World) (h : Ints w a n c xs) (hf : Ints w af nf cf fs) (hw : Ints w aw nw cw ws) :
    Calls Try.prog 32 #[.agg #[.int .i64 W, .int .i64 H, .slice a n c, .slice af nf cf, .slice aw nw cw, .int .i64 t]] w ((LR2 w (burningR W H xs fs ws t))) := by
  have hM := Mem.start w
  cases hi : incB W H xs fs ws t
  · have HF := Lib.hid (show burningR W H xs fs ws t = ([], false) by rw [burningR, hi]; rfl)
    have HI := Lib.hid hi; clear hi
    go_enter Try.func32, Try.ntmps32
    go_wp2_with fail
    apply Mem.atA
    · (repeat' (first | with_reducible exact hM | with_reducible exact hMp | with_reducible apply Mem.drew | with_reducible apply Mem.drewN | with_reducible apply Mem.alloc | with_reducible apply Mem.set | with_reducible exact Sto.row | ((with_reducible refine Sto.rowEq2 ?_ ?_); omega; rfl) | ((with_reducible refine Sto.rowEq ?_); omega) | with_reducible apply Sto.int | with_reducible apply Sto.there | with_reducible assumption | (unfold I64; omega) | (with_reducible (have hMx := Mem.undrew hM; exact hMx)) | (with_reducible (have hMx := Mem.undrew hMp; exact hMx))))
    clear hM
    intro wst hM
    (try simp only [World.size_alloc, World.size_setCell, World.heap_drewN, heapDrew, Nat.add_assoc, Nat.reduceAdd, List.setIfInBounds_toArray, List.set_cons_zero, List.set_cons_succ, List.cons_append, List.nil_append] at hM)
    apply Calls.mono
    · (apply IsIncident_any) <;> (first | (show (_ : Prop); with_reducible assumption) | (apply Hid.out; with_reducible assumption) | (apply Mem.intsR hM; (repeat' (first | with_reducible exact In.here | with_reducible apply In.there)); done) | (apply Ints.ext (hb := hM.below); with_reducible assumption) | (apply Rd.ext (hb := hM.below); with_reducible assumption) | (apply Mem.row hM; (repeat' (first | with_reducible exact In.here | with_reducible apply In.there)); done) | (apply Row.ext (hb := hM.below); with_reducible assumption) | exact ⟨by omega, by omega⟩ | omega | (trace_state; fail))
    rw [HI.out]
    rintro e wc4 ⟨rfl, hb⟩
    replace hM := hM.ext hb
    clear hb
    go_wp2
    go_ret2
    exact ⟨none, 0, 0, by rw [HF.out]; rfl, by rw [HF.out]; exact hM.nilInts⟩
  obtain ⟨Wn, Hn, rfl, rfl, hlf, hlw, hnp, hn25, hW, ht, hxs, hfs, hws⟩ := incB_facts hi
  rw [h.len] at hlf hlw hnp hn25
  obtain rfl : nf = n := by rw [← hlf, hf.len]
  obtain rfl : nw = nf := by rw [← hlw, hw.len]
  have HF := Lib.hid (show burningR Wn Hn xs fs ws t = (burnL nw fs, true) by simp only [burningR, hi, h.len, Int.toNat_natCast, if_true])
  have HI := Lib.hid hi
  clear hi hxs hfs hws hlf hlw
  go_enter Try.func32, Try.ntmps32
  go_wp2_with fail
  apply Mem.atA
  · (repeat' (first | with_reducible exact hM | with_reducible exact hMp | with_reducible apply Mem.drew | with_reducible apply Mem.drewN | with_reducible apply Mem.alloc | with_reducible apply Mem.set | with_reducible exact Sto.row | ((with_reducible refine Sto.rowEq2 ?_ ?_); omega; rfl) | ((with_reducible refine Sto.rowEq ?_); omega) | with_reducible apply Sto.int | with_reducible apply Sto.there | with_reducible assumption | (unfold I64; omega) | (with_reducible (have hMx := Mem.undrew hM; exact hMx)) | (with_reducible (have hMx := Mem.undrew hMp; exact hMx))))
  clear hM
  intro wst hM
  (try simp only [World.size_alloc, World.size_setCell, World.heap_drewN, heapDrew, Nat.add_assoc, Nat.reduceAdd, List.setIfInBounds_toArray, List.set_cons_zero, List.set_cons_succ, List.cons_append, List.nil_append] at hM)
  apply Calls.mono
  · (apply IsIncident_any) <;> (first | (show (_ : Prop); with_reducible assumption) | (apply Hid.out; with_reducible assumption) | (apply Mem.intsR hM; (repeat' (first | with_reducible exact In.here | with_reducible apply In.there)); done) | (apply Ints.ext (hb := hM.below); with_reducible assumption) | (apply Rd.ext (hb := hM.below); with_reducible assumption) | (apply Mem.row hM; (repeat' (first | with_reducible exact In.here | with_reducible apply In.there)); done) | (apply Row.ext (hb := hM.below); with_reducible assumption) | exact ⟨by omega, by omega⟩ | omega | (trace_state; fail))
  rw [HI.out]
  rintro e wc5 ⟨rfl, hb⟩
  replace hM := hM.ext hb
  clear hb
  obtain ⟨k0, f0, l0⟩ := hM.row .here
  go_wp2_with fail
  clear k0 f0 l0
  apply Mem.atA
  · (repeat' (first | with_reducible exact hM | with_reducible exact hMp | with_reducible apply Mem.drew | with_reducible apply Mem.drewN | with_reducible apply Mem.alloc | with_reducible apply Mem.set | with_reducible exact Sto.row | ((with_reducible refine Sto.rowEq2 ?_ ?_); omega; rfl) | ((with_reducible refine Sto.rowEq ?_); omega) | with_reducible apply Sto.int | with_reducible apply Sto.there | with_reducible assumption | (unfold I64; omega) | (with_reducible (have hMx := Mem.undrew hM; exact hMx)) | (with_reducible (have hMx := Mem.undrew hMp; exact hMx))))
  clear hM
  intro wst hM
  (try simp only [World.size_alloc, World.size_setCell, World.heap_drewN, heapDrew, Nat.add_assoc, Nat.reduceAdd, List.setIfInBounds_toArray, List.set_cons_zero, List.set_cons_succ, List.cons_append, List.nil_append] at hM)
  apply Calls.mono
  · (apply burning_any) <;> (first | (show (_ : Prop); with_reducible assumption) | (apply Hid.out; with_reducible assumption) | (apply Mem.intsR hM; (repeat' (first | with_reducible exact In.here | with_reducible apply In.there)); done) | (apply Ints.ext (hb := hM.below); with_reducible assumption) | (apply Rd.ext (hb := hM.below); with_reducible assumption) | (apply Mem.row hM; (repeat' (first | with_reducible exact In.here | with_reducible apply In.there)); done) | (apply Row.ext (hb := hM.below); with_reducible assumption) | exact ⟨by omega, by omega⟩ | omega | (trace_state; fail))
  rintro e wc6 ⟨a', m', c', rfl, hm⟩
  replace hM := hM.join hm
  clear hm
  (try simp only [World.size_alloc, World.size_setCell, World.heap_drewN, heapDrew, Nat.add_assoc, Nat.reduceAdd, List.setIfInBounds_toArray, List.set_cons_zero, List.set_cons_succ, List.cons_append, List.nil_append] at hM)
  go_wp2
  go_ret2
  exact ⟨a', m', c', by rw [HF.out]; rfl, by rw [HF.out]; exact hM.first⟩
set_option maxRecDepth 100000 in
set_option maxHeartbeats 30000000 in
theorem implThreat_any (W H : Int) (a : Option Addr) (n c : Nat) (xs : List Int) (af : Option Addr) (nf cf : Nat) (fs : List Int) (aw : Option Addr) (nw cw : Nat) (ws : List Int) (t : Int) (w : World) (h : Ints w a n c xs) (hf : Ints w af nf cf fs) (hw : Ints w aw nw cw ws) :
    Calls Try.prog 36 #[.agg #[.int .i64 W, .int .i64 H, .slice a n c, .slice af nf cf, .slice aw nw cw, .int .i64 t]] w ((LR2 w (threatR W H xs fs ws t))) := by
  have hM := Mem.start w
  cases hi : incB W H xs fs ws t
  · have HF := Lib.hid (show threatR W H xs fs ws t = ([], false) by rw [threatR, hi]; rfl)
    have HI := Lib.hid hi; clear hi
    go_enter Try.func36, Try.ntmps36
    go_wp2_with fail
    apply Mem.atA
    · (repeat' (first | with_reducible exact hM | with_reducible exact hMp | with_reducible apply Mem.drew | with_reducible apply Mem.drewN | with_reducible apply Mem.alloc | with_reducible apply Mem.set | with_reducible exact Sto.row | ((with_reducible refine Sto.rowEq2 ?_ ?_); omega; rfl) | ((with_reducible refine Sto.rowEq ?_); omega) | with_reducible apply Sto.int | with_reducible apply Sto.there | with_reducible assumption | (unfold I64; omega) | (with_reducible (have hMx := Mem.undrew hM; exact hMx)) | (with_reducible (have hMx := Mem.undrew hMp; exact hMx))))
    clear hM
    intro wst hM
    (try simp only [World.size_alloc, World.size_setCell, World.heap_drewN, heapDrew, Nat.add_assoc, Nat.reduceAdd, List.setIfInBounds_toArray, List.set_cons_zero, List.set_cons_succ, List.cons_append, List.nil_append] at hM)
    apply Calls.mono
    · (apply IsIncident_any) <;> (first | (show (_ : Prop); with_reducible assumption) | (apply Hid.out; with_reducible assumption) | (apply Mem.intsR hM; (repeat' (first | with_reducible exact In.here | with_reducible apply In.there)); done) | (apply Ints.ext (hb := hM.below); with_reducible assumption) | (apply Rd.ext (hb := hM.below); with_reducible assumption) | (apply Mem.row hM; (repeat' (first | with_reducible exact In.here | with_reducible apply In.there)); done) | (apply Row.ext (hb := hM.below); with_reducible assumption) | exact ⟨by omega, by omega⟩ | omega | (trace_state; fail))
    rw [HI.out]
    rintro e wc7 ⟨rfl, hb⟩
    replace hM := hM.ext hb
    clear hb
    go_wp2
    go_ret2
    exact ⟨none, 0, 0, by rw [HF.out]; rfl, by rw [HF.out]; exact hM.nilInts⟩
  obtain ⟨Wn, Hn, rfl, rfl, hlf, hlw, hnp, hn25, hW, ht, hxs, hfs, hws⟩ := incB_facts hi
  rw [h.len] at hlf hlw hnp hn25
  obtain rfl : nf = n := by rw [← hlf, hf.len]
  obtain rfl : nw = nf := by rw [← hlw, hw.len]
  have HF := Lib.hid (show threatR Wn Hn xs fs ws t = (cellsN nw (thrN Wn nw xs fs ws), true) by simp only [threatR, hi, h.len, Int.toNat_natCast, if_true])
  have HI := Lib.hid hi
  clear hi hxs hfs hws hlf hlw
  go_enter Try.func36, Try.ntmps36
  go_wp2_with fail
  apply Mem.atA
  · (repeat' (first | with_reducible exact hM | with_reducible exact hMp | with_reducible apply Mem.drew | with_reducible apply Mem.drewN | with_reducible apply Mem.alloc | with_reducible apply Mem.set | with_reducible exact Sto.row | ((with_reducible refine Sto.rowEq2 ?_ ?_); omega; rfl) | ((with_reducible refine Sto.rowEq ?_); omega) | with_reducible apply Sto.int | with_reducible apply Sto.there | with_reducible assumption | (unfold I64; omega) | (with_reducible (have hMx := Mem.undrew hM; exact hMx)) | (with_reducible (have hMx := Mem.undrew hMp; exact hMx))))
  clear hM
  intro wst hM
  (try simp only [World.size_alloc, World.size_setCell, World.heap_drewN, heapDrew, Nat.add_assoc, Nat.reduceAdd, List.setIfInBounds_toArray, List.set_cons_zero, List.set_cons_succ, List.cons_append, List.nil_append] at hM)
  apply Calls.mono
  · (apply IsIncident_any) <;> (first | (show (_ : Prop); with_reducible assumption) | (apply Hid.out; with_reducible assumption) | (apply Mem.intsR hM; (repeat' (first | with_reducible exact In.here | with_reducible apply In.there)); done) | (apply Ints.ext (hb := hM.below); with_reducible assumption) | (apply Rd.ext (hb := hM.below); with_reducible assumption) | (apply Mem.row hM; (repeat' (first | with_reducible exact In.here | with_reducible apply In.there)); done) | (apply Row.ext (hb := hM.below); with_reducible assumption) | exact ⟨by omega, by omega⟩ | omega | (trace_state; fail))
  rw [HI.out]
  rintro e wc8 ⟨rfl, hb⟩
  replace hM := hM.ext hb
  clear hb
  obtain ⟨k0, f0, l0⟩ := hM.row .here
  go_wp2_with fail
  clear k0 f0 l0
  apply Mem.atA
  · (repeat' (first | with_reducible exact hM | with_reducible exact hMp | with_reducible apply Mem.drew | with_reducible apply Mem.drewN | with_reducible apply Mem.alloc | with_reducible apply Mem.set | with_reducible exact Sto.row | ((with_reducible refine Sto.rowEq2 ?_ ?_); omega; rfl) | ((with_reducible refine Sto.rowEq ?_); omega) | with_reducible apply Sto.int | with_reducible apply Sto.there | with_reducible assumption | (unfold I64; omega) | (with_reducible (have hMx := Mem.undrew hM; exact hMx)) | (with_reducible (have hMx := Mem.undrew hMp; exact hMx))))
  clear hM
  intro wst hM
  (try simp only [World.size_alloc, World.size_setCell, World.heap_drewN, heapDrew, Nat.add_assoc, Nat.reduceAdd, List.setIfInBounds_toArray, List.set_cons_zero, List.set_cons_succ, List.cons_append, List.nil_append] at hM)
  apply Calls.mono
  · (apply threatened_any) <;> (first | (show (_ : Prop); with_reducible assumption) | (apply Hid.out; with_reducible assumption) | (apply Mem.intsR hM; (repeat' (first | with_reducible exact In.here | with_reducible apply In.there)); done) | (apply Ints.ext (hb := hM.below); with_reducible assumption) | (apply Rd.ext (hb := hM.below); with_reducible assumption) | (apply Mem.row hM; (repeat' (first | with_reducible exact In.here | with_reducible apply In.there)); done) | (apply Row.ext (hb := hM.below); with_reducible assumption) | exact ⟨by omega, by omega⟩ | omega | (trace_state; fail))
  rintro e wc9 ⟨a', m', c', rfl, hm⟩
  replace hM := hM.join hm
  clear hm
  (try simp only [World.size_alloc, World.size_setCell, World.heap_drewN, heapDrew, Nat.add_assoc, Nat.reduceAdd, List.setIfInBounds_toArray, List.set_cons_zero, List.set_cons_succ, List.cons_append, List.nil_append] at hM)
  go_wp2
  go_ret2
  exact ⟨a', m', c', by rw [HF.out]; rfl, by rw [HF.out]; exact hM.first⟩
set_option maxRecDepth 100000 in
set_option maxHeartbeats 30000000 in
theorem specBurning_any (W H : Int) (a : Option Addr) (n c : Nat) (xs : List Int) (af : Option Addr) (nf cf : Nat) (fs : List Int) (aw : Option Addr) (nw cw : Nat) (ws : List Int) (t : Int) (w : World) (h : Ints w a n c xs) (hf : Ints w af nf cf fs) (hw : Ints w aw nw cw ws) :
    Calls Try.prog 39 #[.agg #[.int .i64 W, .int .i64 H, .slice a n c, .slice af nf cf, .slice aw nw cw, .int .i64 t]] w ((LR2 w (burningR W H xs fs ws t))) := by
  have hM := Mem.start w
  cases hi : incB W H xs fs ws t
  · have HF := Lib.hid (show burningR W H xs fs ws t = ([], false) by rw [burningR, hi]; rfl)
    have HI := Lib.hid hi; clear hi
    go_enter Try.func39, Try.ntmps39
    go_wp2_with fail
    apply Mem.atA
    · (repeat' (first | with_reducible exact hM | with_reducible exact hMp | with_reducible apply Mem.drew | with_reducible apply Mem.drewN | with_reducible apply Mem.alloc | with_reducible apply Mem.set | with_reducible exact Sto.row | ((with_reducible refine Sto.rowEq2 ?_ ?_); omega; rfl) | ((with_reducible refine Sto.rowEq ?_); omega) | with_reducible apply Sto.int | with_reducible apply Sto.there | with_reducible assumption | (unfold I64; omega) | (with_reducible (have hMx := Mem.undrew hM; exact hMx)) | (with_reducible (have hMx := Mem.undrew hMp; exact hMx))))
    clear hM
    intro wst hM
    (try simp only [World.size_alloc, World.size_setCell, World.heap_drewN, heapDrew, Nat.add_assoc, Nat.reduceAdd, List.setIfInBounds_toArray, List.set_cons_zero, List.set_cons_succ, List.cons_append, List.nil_append] at hM)
    apply Calls.mono
    · (apply l21Good_any) <;> (first | (show (_ : Prop); with_reducible assumption) | (apply Hid.out; with_reducible assumption) | (apply Mem.intsR hM; (repeat' (first | with_reducible exact In.here | with_reducible apply In.there)); done) | (apply Ints.ext (hb := hM.below); with_reducible assumption) | (apply Rd.ext (hb := hM.below); with_reducible assumption) | (apply Mem.row hM; (repeat' (first | with_reducible exact In.here | with_reducible apply In.there)); done) | (apply Row.ext (hb := hM.below); with_reducible assumption) | exact ⟨by omega, by omega⟩ | omega | (trace_state; fail))
    rw [HI.out]
    rintro e wc10 ⟨rfl, hb⟩
    replace hM := hM.ext hb
    clear hb
    go_wp2
    go_ret2
    refine ⟨_, 0, 0, by rw [HF.out]; rfl, ?_⟩
    rw [HF.out]
    apply Mem.toInts0
    (repeat' (first | with_reducible exact hM | with_reducible exact hMp | with_reducible apply Mem.drew | with_reducible apply Mem.drewN | with_reducible apply Mem.alloc | with_reducible apply Mem.set | with_reducible exact Sto.row | ((with_reducible refine Sto.rowEq2 ?_ ?_); omega; rfl) | ((with_reducible refine Sto.rowEq ?_); omega) | with_reducible apply Sto.int | with_reducible apply Sto.there | with_reducible assumption | (unfold I64; omega) | (with_reducible (have hMx := Mem.undrew hM; exact hMx)) | (with_reducible (have hMx := Mem.undrew hMp; exact hMx))))
  obtain ⟨Wn, Hn, rfl, rfl, hlf, hlw, hnp, hn25, hW, ht, hxs, hfs, hws⟩ := incB_facts hi
  rw [h.len] at hlf hlw hnp hn25
  obtain rfl : nf = n := by rw [← hlf, hf.len]
  obtain rfl : nw = nf := by rw [← hlw, hw.len]
  have HF := Lib.hid (show burningR Wn Hn xs fs ws t = (burnL nw fs, true) by simp only [burningR, hi, h.len, Int.toNat_natCast, if_true])
  have HI := Lib.hid hi
  clear hi hxs hfs hws hlf hlw
  go_enter Try.func39, Try.ntmps39
  go_wp2_with fail
  apply Mem.atA
  · (repeat' (first | with_reducible exact hM | with_reducible exact hMp | with_reducible apply Mem.drew | with_reducible apply Mem.drewN | with_reducible apply Mem.alloc | with_reducible apply Mem.set | with_reducible exact Sto.row | ((with_reducible refine Sto.rowEq2 ?_ ?_); omega; rfl) | ((with_reducible refine Sto.rowEq ?_); omega) | with_reducible apply Sto.int | with_reducible apply Sto.there | with_reducible assumption | (unfold I64; omega) | (with_reducible (have hMx := Mem.undrew hM; exact hMx)) | (with_reducible (have hMx := Mem.undrew hMp; exact hMx))))
  clear hM
  intro wst hM
  (try simp only [World.size_alloc, World.size_setCell, World.heap_drewN, heapDrew, Nat.add_assoc, Nat.reduceAdd, List.setIfInBounds_toArray, List.set_cons_zero, List.set_cons_succ, List.cons_append, List.nil_append] at hM)
  apply Calls.mono
  · (apply l21Good_any) <;> (first | (show (_ : Prop); with_reducible assumption) | (apply Hid.out; with_reducible assumption) | (apply Mem.intsR hM; (repeat' (first | with_reducible exact In.here | with_reducible apply In.there)); done) | (apply Ints.ext (hb := hM.below); with_reducible assumption) | (apply Rd.ext (hb := hM.below); with_reducible assumption) | (apply Mem.row hM; (repeat' (first | with_reducible exact In.here | with_reducible apply In.there)); done) | (apply Row.ext (hb := hM.below); with_reducible assumption) | exact ⟨by omega, by omega⟩ | omega | (trace_state; fail))
  rw [HI.out]
  rintro e wc11 ⟨rfl, hb⟩
  replace hM := hM.ext hb
  clear hb
  obtain ⟨k0, f0, l0⟩ := hM.row .here
  go_wp2_with fail
  clear k0 f0 l0
  apply Mem.atA
  · (repeat' (first | with_reducible exact hM | with_reducible exact hMp | with_reducible apply Mem.drew | with_reducible apply Mem.drewN | with_reducible apply Mem.alloc | with_reducible apply Mem.set | with_reducible exact Sto.row | ((with_reducible refine Sto.rowEq2 ?_ ?_); omega; rfl) | ((with_reducible refine Sto.rowEq ?_); omega) | with_reducible apply Sto.int | with_reducible apply Sto.there | with_reducible assumption | (unfold I64; omega) | (with_reducible (have hMx := Mem.undrew hM; exact hMx)) | (with_reducible (have hMx := Mem.undrew hMp; exact hMx))))
  clear hM
  intro wst hM
  (try simp only [World.size_alloc, World.size_setCell, World.heap_drewN, heapDrew, Nat.add_assoc, Nat.reduceAdd, List.setIfInBounds_toArray, List.set_cons_zero, List.set_cons_succ, List.cons_append, List.nil_append] at hM)
  apply Calls.mono
  · (apply l21Burning_any) <;> (first | (show (_ : Prop); with_reducible assumption) | (apply Hid.out; with_reducible assumption) | (apply Mem.intsR hM; (repeat' (first | with_reducible exact In.here | with_reducible apply In.there)); done) | (apply Ints.ext (hb := hM.below); with_reducible assumption) | (apply Rd.ext (hb := hM.below); with_reducible assumption) | (apply Mem.row hM; (repeat' (first | with_reducible exact In.here | with_reducible apply In.there)); done) | (apply Row.ext (hb := hM.below); with_reducible assumption) | exact ⟨by omega, by omega⟩ | omega | (trace_state; fail))
  rintro e wc12 ⟨a', m', c', rfl, hm⟩
  replace hM := hM.join hm
  clear hm
  (try simp only [World.size_alloc, World.size_setCell, World.heap_drewN, heapDrew, Nat.add_assoc, Nat.reduceAdd, List.setIfInBounds_toArray, List.set_cons_zero, List.set_cons_succ, List.cons_append, List.nil_append] at hM)
  go_wp2
  go_ret2
  exact ⟨a', m', c', by rw [HF.out]; rfl, by rw [HF.out]; exact hM.first⟩
set_option maxRecDepth 100000 in
set_option maxHeartbeats 30000000 in
theorem specSpent_any (W H : Int) (a : Option Addr) (n c : Nat) (xs : List Int) (af : Option Addr) (nf cf : Nat) (fs : List Int) (aw : Option Addr) (nw cw : Nat) (ws : List Int) (t : Int) (w : World) (h : Ints w a n c xs) (hf : Ints w af nf cf fs) (hw : Ints w aw nw cw ws) :
    Calls Try.prog 40 #[.agg #[.int .i64 W, .int .i64 H, .slice a n c, .slice af nf cf, .slice aw nw cw, .int .i64 t]] w ((LR2 w (spentR W H xs fs ws t))) := by
  have hM := Mem.start w
  cases hi : incB W H xs fs ws t
  · have HF := Lib.hid (show spentR W H xs fs ws t = ([], false) by rw [spentR, hi]; rfl)
    have HI := Lib.hid hi; clear hi
    go_enter Try.func40, Try.ntmps40
    go_wp2_with fail
    apply Mem.atA
    · (repeat' (first | with_reducible exact hM | with_reducible exact hMp | with_reducible apply Mem.drew | with_reducible apply Mem.drewN | with_reducible apply Mem.alloc | with_reducible apply Mem.set | with_reducible exact Sto.row | ((with_reducible refine Sto.rowEq2 ?_ ?_); omega; rfl) | ((with_reducible refine Sto.rowEq ?_); omega) | with_reducible apply Sto.int | with_reducible apply Sto.there | with_reducible assumption | (unfold I64; omega) | (with_reducible (have hMx := Mem.undrew hM; exact hMx)) | (with_reducible (have hMx := Mem.undrew hMp; exact hMx))))
    clear hM
    intro wst hM
    (try simp only [World.size_alloc, World.size_setCell, World.heap_drewN, heapDrew, Nat.add_assoc, Nat.reduceAdd, List.setIfInBounds_toArray, List.set_cons_zero, List.set_cons_succ, List.cons_append, List.nil_append] at hM)
    apply Calls.mono
    · (apply l21Good_any) <;> (first | (show (_ : Prop); with_reducible assumption) | (apply Hid.out; with_reducible assumption) | (apply Mem.intsR hM; (repeat' (first | with_reducible exact In.here | with_reducible apply In.there)); done) | (apply Ints.ext (hb := hM.below); with_reducible assumption) | (apply Rd.ext (hb := hM.below); with_reducible assumption) | (apply Mem.row hM; (repeat' (first | with_reducible exact In.here | with_reducible apply In.there)); done) | (apply Row.ext (hb := hM.below); with_reducible assumption) | exact ⟨by omega, by omega⟩ | omega | (trace_state; fail))
    rw [HI.out]
    rintro e wc13 ⟨rfl, hb⟩
    replace hM := hM.ext hb
    clear hb
    replace hM := hM.toInts (xs := []) .here rfl (by simp) (by simp)
    go_wp2
    go_ret2
    refine ⟨_, 0, 0, by rw [HF.out]; rfl, ?_⟩
    rw [HF.out]
    exact hM.first
  obtain ⟨Wn, Hn, rfl, rfl, hlf, hlw, hnp, hn25, hW, ht, hxs, hfs, hws⟩ := incB_facts hi
  rw [h.len] at hlf hlw hnp hn25
  obtain rfl : nf = n := by rw [← hlf, hf.len]
  obtain rfl : nw = nf := by rw [← hlw, hw.len]
  have HF := Lib.hid (show spentR Wn Hn xs fs ws t = (spentL nw fs, true) by rw [spentR, hi, h.len]; rfl)
  have HI := Lib.hid hi
  clear hi hxs hfs hws hlf hlw
  go_enter Try.func40, Try.ntmps40
  go_wp2_with fail
  apply Mem.atA
  · (repeat' (first | with_reducible exact hM | with_reducible exact hMp | with_reducible apply Mem.drew | with_reducible apply Mem.drewN | with_reducible apply Mem.alloc | with_reducible apply Mem.set | with_reducible exact Sto.row | ((with_reducible refine Sto.rowEq2 ?_ ?_); omega; rfl) | ((with_reducible refine Sto.rowEq ?_); omega) | with_reducible apply Sto.int | with_reducible apply Sto.there | with_reducible assumption | (unfold I64; omega) | (with_reducible (have hMx := Mem.undrew hM; exact hMx)) | (with_reducible (have hMx := Mem.undrew hMp; exact hMx))))
  clear hM
  intro wst hM
  (try simp only [World.size_alloc, World.size_setCell, World.heap_drewN, heapDrew, Nat.add_assoc, Nat.reduceAdd, List.setIfInBounds_toArray, List.set_cons_zero, List.set_cons_succ, List.cons_append, List.nil_append] at hM)
  apply Calls.mono
  · (apply l21Good_any) <;> (first | (show (_ : Prop); with_reducible assumption) | (apply Hid.out; with_reducible assumption) | (apply Mem.intsR hM; (repeat' (first | with_reducible exact In.here | with_reducible apply In.there)); done) | (apply Ints.ext (hb := hM.below); with_reducible assumption) | (apply Rd.ext (hb := hM.below); with_reducible assumption) | (apply Mem.row hM; (repeat' (first | with_reducible exact In.here | with_reducible apply In.there)); done) | (apply Row.ext (hb := hM.below); with_reducible assumption) | exact ⟨by omega, by omega⟩ | omega | (trace_state; fail))
  rw [HI.out]
  rintro e wc14 ⟨rfl, hb⟩
  replace hM := hM.ext hb
  clear hb
  replace hM := hM.toInts (xs := []) .here rfl (by simp) (by simp)
  go_wp2_with fail
  go_loopw [4, 5] (fun s i wr => ∃ (k : Nat) (a' : Option Addr) (m c' : Nat), k ≤ nw ∧ i = .int .i64 k ∧ s = .slice a' m c' ∧ Mem w.heap.size w wr [intE a' m c' (spentL k fs), rowE w.heap.size 46 #[.int .i64 Wn, .int .i64 Hn, .slice a nw c, .slice af nw cf, .slice aw nw cw, .int .i64 t]]) (fun _ i _ => nw - (intOf i).toNat)
  case atStart => exact ⟨0, _, 0, _, Nat.zero_le _, rfl, rfl, hM⟩
  case round =>
    clear hM
    obtain ⟨k, a', m, c', hk, rfl, rfl, hM⟩ := hrel
    by_cases hlt : k < nw
    · have hm := (hM.ints .here).len
      have hl := cellsN_length k (fun c => decide (fs.getD c 0 < 0))
      have hm25 : m ≤ 25 := by
        unfold spentL at hm
        omega
      clear hm hl
      obtain ⟨bx, off, rfl, -, -⟩ := hf.at' _ hlt
      have hck := (hf.ext hM.below).get hlt
      have hsu : spentL (k + 1) fs = spentL k fs ++ if decide (fs.getD k 0 < 0) then [(k : Int)] else [] := cellsN_succ _ _
      obtain ⟨x, hx⟩ : ∃ x, fs.getD k 0 = x := ⟨_, rfl⟩
      rw [hx] at hck hsu
      have HSU := Lib.hid hsu
      clear hx hsu
      have i0 : (0 : Int) ≤ (k : Int) := by omega
      have i1 : (k : Int) < (nw : Int) := by omega
      obtain ⟨k1, f1, l1⟩ := hM.row (.there .here)
      by_cases hp : x < 0
      · go_wp2_with (at_builtin; apply Mem.atL; (focus ((repeat' (first | with_reducible exact hM | with_reducible exact hMp | with_reducible apply Mem.drew | with_reducible apply Mem.drewN | with_reducible apply Mem.alloc | with_reducible apply Mem.set | with_reducible exact Sto.row | ((with_reducible refine Sto.rowEq2 ?_ ?_); omega; rfl) | ((with_reducible refine Sto.rowEq ?_); omega) | with_reducible apply Sto.int | with_reducible apply Sto.there | with_reducible assumption | (unfold I64; omega) | (with_reducible (have hMx := Mem.undrew hM; exact hMx)) | (with_reducible (have hMx := Mem.undrew hMp; exact hMx)))); done)); clear hM hck k1 f1 l1; intro hM; (try simp only [World.size_alloc, World.size_setCell, World.heap_drewN, heapDrew, Nat.add_assoc, Nat.reduceAdd, List.setIfInBounds_toArray, List.set_cons_zero, List.set_cons_succ, List.cons_append, List.nil_append] at hM); refine wpList_pushI hM (fun _ => .here) (i64_nat (by omega)) (by omega) rfl _ _ _ Try.underlying24 rfl rfl rfl ?_)
        intro a6 c6 w6 hM
        go_wp2
        go_roundw
        case rel =>
          refine ⟨k + 1, a6, m + 1, c6, by omega, by go_num, rfl, ?_⟩
          rw [HSU.out, decide_eq_true hp]
          exact hM
        case measure => simp [intOf]; omega
      · go_wp2
        go_roundw
        case rel =>
          refine ⟨k + 1, a', m, c', by omega, by go_num, rfl, ?_⟩
          rw [HSU.out, decide_eq_false hp]
          simp only [Bool.false_eq_true, if_false, List.append_nil]
          (repeat' (first | with_reducible exact hM | with_reducible exact hMp | with_reducible apply Mem.drew | with_reducible apply Mem.drewN | with_reducible apply Mem.alloc | with_reducible apply Mem.set | with_reducible exact Sto.row | ((with_reducible refine Sto.rowEq2 ?_ ?_); omega; rfl) | ((with_reducible refine Sto.rowEq ?_); omega) | with_reducible apply Sto.int | with_reducible apply Sto.there | with_reducible assumption | (unfold I64; omega) | (with_reducible (have hMx := Mem.undrew hM; exact hMx)) | (with_reducible (have hMx := Mem.undrew hMp; exact hMx))))
        case measure => simp [intOf]; omega
    · obtain rfl : k = nw := by omega
      obtain ⟨k1, f1, l1⟩ := hM.row (.there .here)
      go_wp2
      go_ret2
      exact ⟨a', m, c', by rw [HF.out]; rfl, by rw [HF.out]; exact hM.first⟩
set_option maxRecDepth 100000 in
set_option maxHeartbeats 30000000 in
theorem specThreat_any (W H : Int) (a : Option Addr) (n c : Nat) (xs : List Int) (af : Option Addr) (nf cf : Nat) (fs : List Int) (aw : Option Addr) (nw cw : Nat) (ws : List Int) (t : Int) (w : World) (h : Ints w a n c xs) (hf : Ints w af nf cf fs) (hw : Ints w aw nw cw ws) :
    Calls Try.prog 37 #[.agg #[.int .i64 W, .int .i64 H, .slice a n c, .slice af nf cf, .slice aw nw cw, .int .i64 t]] w ((LR2 w (threatR W H xs fs ws t))) := by
  have hM := Mem.start w
  cases hi : incB W H xs fs ws t
  · have HF := Lib.hid (show threatR W H xs fs ws t = ([], false) by rw [threatR, hi]; rfl)
    have HI := Lib.hid hi; clear hi
    go_enter Try.func37, Try.ntmps37
    go_wp2_with fail
    apply Mem.atA
    · (repeat' (first | with_reducible exact hM | with_reducible exact hMp | with_reducible apply Mem.drew | with_reducible apply Mem.drewN | with_reducible apply Mem.alloc | with_reducible apply Mem.set | with_reducible exact Sto.row | ((with_reducible refine Sto.rowEq2 ?_ ?_); omega; rfl) | ((with_reducible refine Sto.rowEq ?_); omega) | with_reducible apply Sto.int | with_reducible apply Sto.there | with_reducible assumption | (unfold I64; omega) | (with_reducible (have hMx := Mem.undrew hM; exact hMx)) | (with_reducible (have hMx := Mem.undrew hMp; exact hMx))))
    clear hM
    intro wst hM
    (try simp only [World.size_alloc, World.size_setCell, World.heap_drewN, heapDrew, Nat.add_assoc, Nat.reduceAdd, List.setIfInBounds_toArray, List.set_cons_zero, List.set_cons_succ, List.cons_append, List.nil_append] at hM)
    apply Calls.mono
    · (apply l21Good_any) <;> (first | (show (_ : Prop); with_reducible assumption) | (apply Hid.out; with_reducible assumption) | (apply Mem.intsR hM; (repeat' (first | with_reducible exact In.here | with_reducible apply In.there)); done) | (apply Ints.ext (hb := hM.below); with_reducible assumption) | (apply Rd.ext (hb := hM.below); with_reducible assumption) | (apply Mem.row hM; (repeat' (first | with_reducible exact In.here | with_reducible apply In.there)); done) | (apply Row.ext (hb := hM.below); with_reducible assumption) | exact ⟨by omega, by omega⟩ | omega | (trace_state; fail))
    rw [HI.out]
    rintro e wc15 ⟨rfl, hb⟩
    replace hM := hM.ext hb
    clear hb
    replace hM := hM.toInts (xs := []) .here rfl (by simp) (by simp)
    go_wp2
    go_ret2
    refine ⟨_, 0, 0, by rw [HF.out]; rfl, ?_⟩
    rw [HF.out]
    exact hM.first
  obtain ⟨Wn, Hn, rfl, rfl, hlf, hlw, hnp, hn25, hW, ht, hxs, hfs, hws⟩ := incB_facts hi
  rw [h.len] at hlf hlw hnp hn25
  obtain rfl : nf = n := by rw [← hlf, hf.len]
  obtain rfl : nw = nf := by rw [← hlw, hw.len]
  have HF := Lib.hid (show threatR Wn Hn xs fs ws t = (cellsN nw (thrN Wn nw xs fs ws), true) by simp only [threatR, hi, h.len, Int.toNat_natCast, if_true])
  have HI := Lib.hid hi
  have HT : ∀ (k : Nat) (v : World), Below w.heap.size w v → k < nw → Calls Try.prog 92 #[.agg #[.int .i64 Wn, .int .i64 Hn, .slice a nw c, .slice af nw cf, .slice aw nw cw, .int .i64 t], .int .i64 k] v (fun e w' => e = .returned (.bool (thrN Wn nw xs fs ws k)) ∧ Below v.heap.size v w') := fun k v hb hk => by
    apply l21Threat_any Wn Hn a nw c xs af cf fs aw cw ws t k v (h.ext hb) (hf.ext hb) (hw.ext hb) hn25 hW hk
    · exact fun x hx => (hxs x hx).1
    · exact hws
  have HTT := Lib.hid HT
  clear hi hxs hfs hws hlf hlw HT
  go_enter Try.func37, Try.ntmps37
  go_wp2_with fail
  apply Mem.atA
  · (repeat' (first | with_reducible exact hM | with_reducible exact hMp | with_reducible apply Mem.drew | with_reducible apply Mem.drewN | with_reducible apply Mem.alloc | with_reducible apply Mem.set | with_reducible exact Sto.row | ((with_reducible refine Sto.rowEq2 ?_ ?_); omega; rfl) | ((with_reducible refine Sto.rowEq ?_); omega) | with_reducible apply Sto.int | with_reducible apply Sto.there | with_reducible assumption | (unfold I64; omega) | (with_reducible (have hMx := Mem.undrew hM; exact hMx)) | (with_reducible (have hMx := Mem.undrew hMp; exact hMx))))
  clear hM
  intro wst hM
  (try simp only [World.size_alloc, World.size_setCell, World.heap_drewN, heapDrew, Nat.add_assoc, Nat.reduceAdd, List.setIfInBounds_toArray, List.set_cons_zero, List.set_cons_succ, List.cons_append, List.nil_append] at hM)
  apply Calls.mono
  · (apply l21Good_any) <;> (first | (show (_ : Prop); with_reducible assumption) | (apply Hid.out; with_reducible assumption) | (apply Mem.intsR hM; (repeat' (first | with_reducible exact In.here | with_reducible apply In.there)); done) | (apply Ints.ext (hb := hM.below); with_reducible assumption) | (apply Rd.ext (hb := hM.below); with_reducible assumption) | (apply Mem.row hM; (repeat' (first | with_reducible exact In.here | with_reducible apply In.there)); done) | (apply Row.ext (hb := hM.below); with_reducible assumption) | exact ⟨by omega, by omega⟩ | omega | (trace_state; fail))
  rw [HI.out]
  rintro e wc16 ⟨rfl, hb⟩
  replace hM := hM.ext hb
  clear hb
  replace hM := hM.toInts (xs := []) .here rfl (by simp) (by simp)
  go_wp2_with fail
  go_loopw [4, 5] (fun s i wr => ∃ (k : Nat) (a' : Option Addr) (m c' : Nat), k ≤ nw ∧ i = .int .i64 k ∧ s = .slice a' m c' ∧ Mem w.heap.size w wr [intE a' m c' (cellsN k (thrN Wn nw xs fs ws)), rowE w.heap.size 46 #[.int .i64 Wn, .int .i64 Hn, .slice a nw c, .slice af nw cf, .slice aw nw cw, .int .i64 t]]) (fun _ i _ => nw - (intOf i).toNat)
  case atStart => exact ⟨0, _, 0, _, Nat.zero_le _, rfl, rfl, hM⟩
  case round =>
    clear hM
    obtain ⟨k, a', m, c', hk, rfl, rfl, hM⟩ := hrel
    by_cases hlt : k < nw
    · have hm := (hM.ints .here).len
      have hl := cellsN_length k (thrN Wn nw xs fs ws)
      have hm25 : m ≤ 25 := by omega
      clear hm hl
      have hsu := cellsN_succ k (thrN Wn nw xs fs ws)
      obtain ⟨b, hb⟩ : ∃ b, thrN Wn nw xs fs ws k = b := ⟨_, rfl⟩
      rw [hb] at hsu
      have HSU := Lib.hid hsu
      have HB := Lib.hid hb
      clear hb hsu
      obtain ⟨k1, f1, l1⟩ := hM.row (.there .here)
      go_wp2_with fail
      clear k1 f1 l1
      apply Mem.atA
      · (repeat' (first | with_reducible exact hM | with_reducible exact hMp | with_reducible apply Mem.drew | with_reducible apply Mem.drewN | with_reducible apply Mem.alloc | with_reducible apply Mem.set | with_reducible exact Sto.row | ((with_reducible refine Sto.rowEq2 ?_ ?_); omega; rfl) | ((with_reducible refine Sto.rowEq ?_); omega) | with_reducible apply Sto.int | with_reducible apply Sto.there | with_reducible assumption | (unfold I64; omega) | (with_reducible (have hMx := Mem.undrew hM; exact hMx)) | (with_reducible (have hMx := Mem.undrew hMp; exact hMx))))
      clear hM
      intro wst hM
      (try simp only [World.size_alloc, World.size_setCell, World.heap_drewN, heapDrew, Nat.add_assoc, Nat.reduceAdd, List.setIfInBounds_toArray, List.set_cons_zero, List.set_cons_succ, List.cons_append, List.nil_append] at hM)
      (first | refine (HTT.out k _ hM.below hlt).mono ?_)
      rw [HB.out]
      rintro e wc17 ⟨rfl, hb⟩
      replace hM := hM.ext hb
      clear hb
      cases b
      · go_wp2
        go_roundw
        case rel =>
          refine ⟨k + 1, a', m, c', by omega, by go_num, rfl, ?_⟩
          rw [HSU.out]
          simp only [Bool.false_eq_true, if_false, List.append_nil]
          (repeat' (first | with_reducible exact hM | with_reducible exact hMp | with_reducible apply Mem.drew | with_reducible apply Mem.drewN | with_reducible apply Mem.alloc | with_reducible apply Mem.set | with_reducible exact Sto.row | ((with_reducible refine Sto.rowEq2 ?_ ?_); omega; rfl) | ((with_reducible refine Sto.rowEq ?_); omega) | with_reducible apply Sto.int | with_reducible apply Sto.there | with_reducible assumption | (unfold I64; omega) | (with_reducible (have hMx := Mem.undrew hM; exact hMx)) | (with_reducible (have hMx := Mem.undrew hMp; exact hMx))))
        case measure => simp [intOf]; omega
      · go_wp2_with (at_builtin; apply Mem.atL; (focus ((repeat' (first | with_reducible exact hM | with_reducible exact hMp | with_reducible apply Mem.drew | with_reducible apply Mem.drewN | with_reducible apply Mem.alloc | with_reducible apply Mem.set | with_reducible exact Sto.row | ((with_reducible refine Sto.rowEq2 ?_ ?_); omega; rfl) | ((with_reducible refine Sto.rowEq ?_); omega) | with_reducible apply Sto.int | with_reducible apply Sto.there | with_reducible assumption | (unfold I64; omega) | (with_reducible (have hMx := Mem.undrew hM; exact hMx)) | (with_reducible (have hMx := Mem.undrew hMp; exact hMx)))); done)); clear hM; intro hM; (try simp only [World.size_alloc, World.size_setCell, World.heap_drewN, heapDrew, Nat.add_assoc, Nat.reduceAdd, List.setIfInBounds_toArray, List.set_cons_zero, List.set_cons_succ, List.cons_append, List.nil_append] at hM); refine wpList_pushI hM (fun _ => .here) (i64_nat (by omega)) (by omega) rfl _ _ _ Try.underlying24 rfl rfl rfl ?_)
        intro a6 c6 w6 hM
        go_wp2
        go_roundw
        case rel =>
          refine ⟨k + 1, a6, m + 1, c6, by omega, by go_num, rfl, ?_⟩
          rw [HSU.out]
          exact hM
        case measure => simp [intOf]; omega
    · obtain rfl : k = nw := by omega
      obtain ⟨k1, f1, l1⟩ := hM.row (.there .here)
      go_wp2
      go_ret2
      exact ⟨a', m, c', by rw [HF.out]; rfl, by rw [HF.out]; exact hM.first⟩
set_option maxRecDepth 100000 in
set_option maxHeartbeats 2000000 in
theorem vIncident_same (W H : Int) (a1 : Option Addr) (n1 c1 : Nat) (xs1 : List Int) (a2 : Option Addr) (n2 c2 : Nat) (xs2 : List Int) (a3 : Option Addr) (n3 c3 : Nat) (xs3 : List Int) (t : Int) (b1 : Option Addr) (m1 d1 : Nat) (b2 : Option Addr) (m2 d2 : Nat) (b3 : Option Addr) (m3 d3 : Nat) (w : World)
    (h1 : Ints w a1 n1 c1 xs1) (h2 : Ints w a2 n2 c2 xs2) (h3 : Ints w a3 n3 c3 xs3) (g1 : Ints w b1 m1 d1 xs1) (g2 : Ints w b2 m2 d2 xs2) (g3 : Ints w b3 m3 d3 xs3) :
    Calls Try.prog 43 #[.agg #[.int .i64 W, .int .i64 H, .slice a1 n1 c1, .slice a2 n2 c2, .slice a3 n3 c3, .int .i64 t], .agg #[.int .i64 W, .int .i64 H, .slice b1 m1 d1, .slice b2 m2 d2, .slice b3 m3 d3, .int .i64 t]] w fun e w' => e = .returned (.bool true) ∧ Below w.heap.size w w' := by
  have hM := Mem.start w
  have hs2 : (xs2 == xs2) = true := by simp
  have hs3 : (xs3 == xs3) = true := by simp
  have HS2 := Lib.hid hs2; have HS3 := Lib.hid hs3
  clear hs2 hs3
  go_enter Try.func43, Try.ntmps43
  go_wp2_with fail
  apply Mem.atA
  · (repeat' (first | with_reducible exact hM | with_reducible exact hMp | with_reducible apply Mem.drew | with_reducible apply Mem.drewN | with_reducible apply Mem.alloc | with_reducible apply Mem.set | with_reducible exact Sto.row | ((with_reducible refine Sto.rowEq2 ?_ ?_); omega; rfl) | ((with_reducible refine Sto.rowEq ?_); omega) | with_reducible apply Sto.int | with_reducible apply Sto.there | with_reducible assumption | (unfold I64; omega) | (with_reducible (have hMx := Mem.undrew hM; exact hMx)) | (with_reducible (have hMx := Mem.undrew hMp; exact hMx))))
  clear hM
  intro wst hM
  (try simp only [World.size_alloc, World.size_setCell, World.heap_drewN, heapDrew, Nat.add_assoc, Nat.reduceAdd, List.setIfInBounds_toArray, List.set_cons_zero, List.set_cons_succ, List.cons_append, List.nil_append] at hM)
  (first | refine (vTerrain_same W H a1 n1 c1 xs1 b1 m1 d1 _ (h1.ext hM.below) (g1.ext hM.below)).mono ?_)
  rintro e wc18 ⟨rfl, hb⟩
  replace hM := hM.ext hb
  clear hb
  obtain ⟨k0, f0, l0⟩ := hM.row .here
  obtain ⟨k1, f1, l1⟩ := hM.row (.there .here)
  go_wp2_with fail
  clear k0 f0 l0 k1 f1 l1
  apply Mem.atA
  · (repeat' (first | with_reducible exact hM | with_reducible exact hMp | with_reducible apply Mem.drew | with_reducible apply Mem.drewN | with_reducible apply Mem.alloc | with_reducible apply Mem.set | with_reducible exact Sto.row | ((with_reducible refine Sto.rowEq2 ?_ ?_); omega; rfl) | ((with_reducible refine Sto.rowEq ?_); omega) | with_reducible apply Sto.int | with_reducible apply Sto.there | with_reducible assumption | (unfold I64; omega) | (with_reducible (have hMx := Mem.undrew hM; exact hMx)) | (with_reducible (have hMx := Mem.undrew hMp; exact hMx))))
  clear hM
  intro wst hM
  (try simp only [World.size_alloc, World.size_setCell, World.heap_drewN, heapDrew, Nat.add_assoc, Nat.reduceAdd, List.setIfInBounds_toArray, List.set_cons_zero, List.set_cons_succ, List.cons_append, List.nil_append] at hM)
  (first | refine (vInts_any a2 n2 c2 xs2 b2 m2 d2 xs2 _ (h2.ext hM.below) (g2.ext hM.below)).mono ?_)
  rw [HS2.out]
  rintro e wc19 ⟨rfl, hb⟩
  replace hM := hM.ext hb
  clear hb
  obtain ⟨k0, f0, l0⟩ := hM.row .here
  obtain ⟨k1, f1, l1⟩ := hM.row (.there .here)
  go_wp2_with fail
  clear k0 f0 l0 k1 f1 l1
  apply Mem.atA
  · (repeat' (first | with_reducible exact hM | with_reducible exact hMp | with_reducible apply Mem.drew | with_reducible apply Mem.drewN | with_reducible apply Mem.alloc | with_reducible apply Mem.set | with_reducible exact Sto.row | ((with_reducible refine Sto.rowEq2 ?_ ?_); omega; rfl) | ((with_reducible refine Sto.rowEq ?_); omega) | with_reducible apply Sto.int | with_reducible apply Sto.there | with_reducible assumption | (unfold I64; omega) | (with_reducible (have hMx := Mem.undrew hM; exact hMx)) | (with_reducible (have hMx := Mem.undrew hMp; exact hMx))))
  clear hM
  intro wst hM
  (try simp only [World.size_alloc, World.size_setCell, World.heap_drewN, heapDrew, Nat.add_assoc, Nat.reduceAdd, List.setIfInBounds_toArray, List.set_cons_zero, List.set_cons_succ, List.cons_append, List.nil_append] at hM)
  (first | refine (vInts_any a3 n3 c3 xs3 b3 m3 d3 xs3 _ (h3.ext hM.below) (g3.ext hM.below)).mono ?_)
  rw [HS3.out]
  rintro e wc20 ⟨rfl, hb⟩
  replace hM := hM.ext hb
  clear hb
  obtain ⟨k0, f0, l0⟩ := hM.row .here
  obtain ⟨k1, f1, l1⟩ := hM.row (.there .here)
  go_wp2
  go_ret
  exact ⟨rb (by simp), (by apply Mem.below; (repeat' (first | with_reducible exact hM | with_reducible exact hMp | with_reducible apply Mem.drew | with_reducible apply Mem.drewN | with_reducible apply Mem.alloc | with_reducible apply Mem.set | with_reducible exact Sto.row | ((with_reducible refine Sto.rowEq2 ?_ ?_); omega; rfl) | ((with_reducible refine Sto.rowEq ?_); omega) | with_reducible apply Sto.int | with_reducible apply Sto.there | with_reducible assumption | (unfold I64; omega) | (with_reducible (have hMx := Mem.undrew hM; exact hMx)) | (with_reducible (have hMx := Mem.undrew hMp; exact hMx)))))⟩
end Go.Proofs.Ytkohfegajcmdbaa
