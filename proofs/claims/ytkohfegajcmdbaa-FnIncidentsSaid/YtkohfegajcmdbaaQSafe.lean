/-
  SafeCells.
-/
import Derived.Test.YtkohfegajcmdbaaQTickE
/-
  SafeCells.
-/
namespace Go.Proofs.Ytkohfegajcmdbaa
set_option linter.unusedSimpArgs false
set_option linter.unusedVariables false
open Go.RowKit

set_option maxRecDepth 100000 in
set_option maxHeartbeats 30000000 in
theorem safe1_any (k : Nat) (b : Nat) (w : World) (W Hn : Nat) (a : Option Addr) (n c : Nat) (xs : List Int) (af : Option Addr) (cf : Nat) (fs : List Int) (aw : Option Addr) (cw : Nat) (t : Int) (h : Ints w a n c xs) (hf : Ints w af n cf fs) (hr : Row w b #[.int .i64 W, .int .i64 Hn, .slice a n c, .slice af n cf, .slice aw n cw, .int .i64 t]) (hk : k < n) :
    Calls Try.prog 86 #[.int .i64 k, .pointer (some ⟨b, 0, none⟩)] w (fun e w' => e = .returned (.bool (safeC xs fs k)) ∧ Below w.heap.size w w') := by
  have hM := Mem.start w
  obtain ⟨x, hx⟩ : ∃ x, fs.getD k 0 = x := ⟨_, rfl⟩
  obtain ⟨y, hy⟩ : ∃ y, brn xs k = y := ⟨_, rfl⟩
  have HF := Lib.hid (show safeC xs fs k = (y && (x == 0)) by rw [safeC, hx, hy])
  have HX := Lib.hid hx; have HY := Lib.hid hy
  clear hx hy
  obtain ⟨bx, off, rfl, -, -⟩ := hf.at' _ hk
  have k0 := hr.cell
  have i0 : (0 : Int) ≤ (k : Int) := by omega
  have i1 : (k : Int) < (n : Int) := by omega
  go_enter Try.func86, Try.ntmps86
  go_wp2_with fail
  apply Mem.atA
  · (repeat' (first | with_reducible exact hM | with_reducible exact hMp | with_reducible apply Mem.drew | with_reducible apply Mem.drewN | with_reducible apply Mem.alloc | with_reducible apply Mem.set | with_reducible exact Sto.row | ((with_reducible refine Sto.rowEq2 ?_ ?_); omega; rfl) | ((with_reducible refine Sto.rowEq ?_); omega) | with_reducible apply Sto.int | with_reducible apply Sto.there | with_reducible assumption | (unfold I64; omega) | (with_reducible (have hMx := Mem.undrew hM; exact hMx)) | (with_reducible (have hMx := Mem.undrew hMp; exact hMx))))
  clear hM
  intro wst hM
  (try simp only [World.size_alloc, World.size_setCell, World.heap_drewN, heapDrew, Nat.add_assoc, Nat.reduceAdd, List.setIfInBounds_toArray, List.set_cons_zero, List.set_cons_succ, List.cons_append, List.nil_append] at hM)
  apply Calls.mono
  · (apply burns_any W Hn a n c xs k) <;> (first | (show (_ : Prop); with_reducible assumption) | (apply Hid.out; with_reducible assumption) | (apply Mem.intsR hM; (repeat' (first | with_reducible exact In.here | with_reducible apply In.there)); done) | (apply Ints.ext (hb := hM.below); with_reducible assumption) | (apply Rd.ext (hb := hM.below); with_reducible assumption) | (apply Mem.row hM; (repeat' (first | with_reducible exact In.here | with_reducible apply In.there)); done) | (apply Row.ext (hb := hM.below); with_reducible assumption) | exact ⟨by omega, by omega⟩ | omega | (trace_state; fail))
  rw [HY.out]
  rintro e wc1 ⟨rfl, hb⟩
  replace hM := hM.ext hb
  clear hb
  clear k0
  have k0 := (hr.ext hM.below).cell
  have hck := (hf.ext hM.below).get hk
  rw [HX.out] at hck
  cases y
  all_goals
    go_wp2
    go_ret
    exact ⟨rb (by rw [HF.out]; rfl), (by apply Mem.below; (repeat' (first | with_reducible exact hM | with_reducible exact hMp | with_reducible apply Mem.drew | with_reducible apply Mem.drewN | with_reducible apply Mem.alloc | with_reducible apply Mem.set | with_reducible exact Sto.row | ((with_reducible refine Sto.rowEq2 ?_ ?_); omega; rfl) | ((with_reducible refine Sto.rowEq ?_); omega) | with_reducible apply Sto.int | with_reducible apply Sto.there | with_reducible assumption | (unfold I64; omega) | (with_reducible (have hMx := Mem.undrew hM; exact hMx)) | (with_reducible (have hMx := Mem.undrew hMp; exact hMx)))))⟩

set_option maxRecDepth 100000 in
set_option maxHeartbeats 30000000 in
theorem implSafe_any (W H : Int) (a : Option Addr) (n c : Nat) (xs : List Int) (af : Option Addr) (nf cf : Nat) (fs : List Int) (aw : Option Addr) (nw cw : Nat) (ws : List Int) (t : Int) (w : World) (h : Ints w a n c xs) (hf : Ints w af nf cf fs) (hw : Ints w aw nw cw ws) :
    Calls Try.prog 30 #[.agg #[.int .i64 W, .int .i64 H, .slice a n c, .slice af nf cf, .slice aw nw cw, .int .i64 t]] w ((LRes w (safeR W H xs fs ws t))) := by
  have hM := Mem.start w
  have hmf : ∀ (fn : Fn) (first cap : Array Value) (w : World), (Instr.makeFunc fn first cap).run Try.prog w = .ok (.func fn first cap) w := fun _ _ _ _ => rfl
  have HEB := Lib.hid (show (ticksR W H xs fs ws t).ok = endB W H xs fs ws t by unfold ticksR; cases endB W H xs fs ws t <;> rfl)
  cases he : endB W H xs fs ws t
  · have HF := Lib.hid (show safeR W H xs fs ws t = ⟨[], false⟩ by rw [safeR, he]; rfl)
    have HE := Lib.hid (show (ticksR W H xs fs ws t).ok = false by rw [HEB.out, he])
    go_enter Try.func30, Try.ntmps30
    go_wp2_with fail
    apply Mem.atA
    · (repeat' (first | with_reducible exact hM | with_reducible exact hMp | with_reducible apply Mem.drew | with_reducible apply Mem.drewN | with_reducible apply Mem.alloc | with_reducible apply Mem.set | with_reducible exact Sto.row | ((with_reducible refine Sto.rowEq2 ?_ ?_); omega; rfl) | ((with_reducible refine Sto.rowEq ?_); omega) | with_reducible apply Sto.int | with_reducible apply Sto.there | with_reducible assumption | (unfold I64; omega) | (with_reducible (have hMx := Mem.undrew hM; exact hMx)) | (with_reducible (have hMx := Mem.undrew hMp; exact hMx))))
    clear hM
    intro wst hM
    (try simp only [World.size_alloc, World.size_setCell, World.heap_drewN, heapDrew, Nat.add_assoc, Nat.reduceAdd, List.setIfInBounds_toArray, List.set_cons_zero, List.set_cons_succ, List.cons_append, List.nil_append] at hM)
    apply Calls.mono
    · (apply implTicks_any) <;> (first | (show (_ : Prop); with_reducible assumption) | (apply Hid.out; with_reducible assumption) | (apply Mem.intsR hM; (repeat' (first | with_reducible exact In.here | with_reducible apply In.there)); done) | (apply Ints.ext (hb := hM.below); with_reducible assumption) | (apply Rd.ext (hb := hM.below); with_reducible assumption) | (apply Mem.row hM; (repeat' (first | with_reducible exact In.here | with_reducible apply In.there)); done) | (apply Row.ext (hb := hM.below); with_reducible assumption) | exact ⟨by omega, by omega⟩ | omega | (trace_state; fail))
    rw [HE.out]
    rintro e wc2 ⟨rfl, hb⟩
    replace hM := hM.ext hb
    clear hb
    go_wp2
    go_ret2
    rw [HF.out]
    exact ⟨none, 0, 0, rfl, hM.nilInts⟩
  have hi : incB W H xs fs ws t = true := by unfold endB at he; rw [Bool.and_eq_true] at he; exact he.1
  have HE := Lib.hid (show (ticksR W H xs fs ws t).ok = true by rw [HEB.out, he])
  obtain ⟨Wn, Hn, rfl, rfl, hlf, hlw, hnp, hn25, hW, ht, hxs, hfs, hws⟩ := incB_facts hi
  rw [h.len] at hlf hlw hnp hn25
  obtain rfl : nf = n := by rw [← hlf, hf.len]
  obtain rfl : nw = nf := by rw [← hlw, hw.len]
  have HXS := Lib.hid hxs; have HFS := Lib.hid hfs; have HWS := Lib.hid hws
  have HF := Lib.hid (show safeR Wn Hn xs fs ws t = ⟨cellsN nw (safeC xs (endF Wn nw xs fs ws).f), true⟩ by rw [safeR, he, h.len, Int.toNat_natCast]; rfl)
  clear hxs hfs hws hlf hlw hi he
  go_enter Try.func30, Try.ntmps30
  go_wp2_with fail
  apply Mem.atA
  · (repeat' (first | with_reducible exact hM | with_reducible exact hMp | with_reducible apply Mem.drew | with_reducible apply Mem.drewN | with_reducible apply Mem.alloc | with_reducible apply Mem.set | with_reducible exact Sto.row | ((with_reducible refine Sto.rowEq2 ?_ ?_); omega; rfl) | ((with_reducible refine Sto.rowEq ?_); omega) | with_reducible apply Sto.int | with_reducible apply Sto.there | with_reducible assumption | (unfold I64; omega) | (with_reducible (have hMx := Mem.undrew hM; exact hMx)) | (with_reducible (have hMx := Mem.undrew hMp; exact hMx))))
  clear hM
  intro wst hM
  (try simp only [World.size_alloc, World.size_setCell, World.heap_drewN, heapDrew, Nat.add_assoc, Nat.reduceAdd, List.setIfInBounds_toArray, List.set_cons_zero, List.set_cons_succ, List.cons_append, List.nil_append] at hM)
  apply Calls.mono
  · (apply implTicks_any) <;> (first | (show (_ : Prop); with_reducible assumption) | (apply Hid.out; with_reducible assumption) | (apply Mem.intsR hM; (repeat' (first | with_reducible exact In.here | with_reducible apply In.there)); done) | (apply Ints.ext (hb := hM.below); with_reducible assumption) | (apply Rd.ext (hb := hM.below); with_reducible assumption) | (apply Mem.row hM; (repeat' (first | with_reducible exact In.here | with_reducible apply In.there)); done) | (apply Row.ext (hb := hM.below); with_reducible assumption) | exact ⟨by omega, by omega⟩ | omega | (trace_state; fail))
  rw [HE.out]
  rintro e wc3 ⟨rfl, hb⟩
  replace hM := hM.ext hb
  clear hb
  obtain ⟨k0, f0, l0⟩ := hM.row .here
  go_wp2_with fail
  apply Calls.mono
  · (apply last_any Wn Hn a nw c xs af cf fs aw cw ws t) <;> (first | (show (_ : Prop); with_reducible assumption) | (apply Hid.out; with_reducible assumption) | (apply Mem.intsR hM; (repeat' (first | with_reducible exact In.here | with_reducible apply In.there)); done) | (apply Ints.ext (hb := hM.below); with_reducible assumption) | (apply Rd.ext (hb := hM.below); with_reducible assumption) | (apply Mem.row hM; (repeat' (first | with_reducible exact In.here | with_reducible apply In.there)); done) | (apply Row.ext (hb := hM.below); with_reducible assumption) | exact ⟨by omega, by omega⟩ | omega | (trace_state; fail))
  clear k0 f0 l0
  rintro e w3 hp
  obtain ⟨G, b1, d1, b2, d2, b3, d3, rfl, hM2, hR⟩ := hp.use hM h hf hw rfl
  clear hp hM
  replace hM := hM2
  clear hM2
  simp only [List.cons_append, List.nil_append] at hM
  obtain ⟨E, hE⟩ : ∃ E, endF Wn nw xs fs ws = E := ⟨_, rfl⟩
  obtain ⟨K, hK⟩ : ∃ E, endK Wn nw xs fs ws = E := ⟨_, rfl⟩
  have hf0 := HF.out
  rw [hE] at hf0 hR
  rw [hK]
  have HF2 := Lib.hid hf0
  have HR := Lib.hid hR
  clear HF hE hK hf0 hR
  go_wp2_with fail
  apply Mem.atA
  · (repeat' (first | with_reducible exact hM | with_reducible exact hMp | with_reducible apply Mem.drew | with_reducible apply Mem.drewN | with_reducible apply Mem.alloc | with_reducible apply Mem.set | with_reducible exact Sto.row | ((with_reducible refine Sto.rowEq2 ?_ ?_); omega; rfl) | ((with_reducible refine Sto.rowEq ?_); omega) | with_reducible apply Sto.int | with_reducible apply Sto.there | with_reducible assumption | (unfold I64; omega) | (with_reducible (have hMx := Mem.undrew hM; exact hMx)) | (with_reducible (have hMx := Mem.undrew hMp; exact hMx))))
  clear hM
  intro wst hM
  (try simp only [World.size_alloc, World.size_setCell, World.heap_drewN, heapDrew, Nat.add_assoc, Nat.reduceAdd, List.setIfInBounds_toArray, List.set_cons_zero, List.set_cons_succ, List.cons_append, List.nil_append] at hM)
  obtain ⟨g1, g2, -⟩ := HR.out _ [_, _] hM
  refine (cellsThat_any _ _ _ (safeC xs E.f) _ _ b1 nw d1 xs _ g1 hn25 (enters Try.func86 (by kernel_rfl) rfl) (fun k hk w' hb => by
    have hM' := hM.ext hb
    exact safe1_any k _ w' Wn Hn b1 nw d1 xs b2 d2 E.f b3 d3 _ (g1.ext hb) (g2.ext hb) (hM'.row .here) hk)).mono ?_
  rintro e w4 ⟨a', m', c', rfl, hm⟩
  replace hM := hM.join hm
  clear hm
  go_wp2
  go_ret2
  rw [HF2.out]
  exact ⟨a', m', c', rfl, hM.first⟩

set_option maxRecDepth 100000 in
set_option maxHeartbeats 30000000 in
theorem specSafe_any (W H : Int) (a : Option Addr) (n c : Nat) (xs : List Int) (af : Option Addr) (nf cf : Nat) (fs : List Int) (aw : Option Addr) (nw cw : Nat) (ws : List Int) (t : Int) (w : World) (h : Ints w a n c xs) (hf : Ints w af nf cf fs) (hw : Ints w aw nw cw ws) :
    Calls Try.prog 31 #[.agg #[.int .i64 W, .int .i64 H, .slice a n c, .slice af nf cf, .slice aw nw cw, .int .i64 t]] w ((LRes w (safeR W H xs fs ws t))) := by
  have hM := Mem.start w
  cases hi : incB W H xs fs ws t
  · have HF := Lib.hid (show safeR W H xs fs ws t = ⟨[], false⟩ by rw [safeR, endB, hi]; rfl)
    go_enter Try.func31, Try.ntmps31
    go_wp2_with fail
    apply Mem.atA
    · (repeat' (first | with_reducible exact hM | with_reducible exact hMp | with_reducible apply Mem.drew | with_reducible apply Mem.drewN | with_reducible apply Mem.alloc | with_reducible apply Mem.set | with_reducible exact Sto.row | ((with_reducible refine Sto.rowEq2 ?_ ?_); omega; rfl) | ((with_reducible refine Sto.rowEq ?_); omega) | with_reducible apply Sto.int | with_reducible apply Sto.there | with_reducible assumption | (unfold I64; omega) | (with_reducible (have hMx := Mem.undrew hM; exact hMx)) | (with_reducible (have hMx := Mem.undrew hMp; exact hMx))))
    clear hM
    intro wst hM
    (try simp only [World.size_alloc, World.size_setCell, World.heap_drewN, heapDrew, Nat.add_assoc, Nat.reduceAdd, List.setIfInBounds_toArray, List.set_cons_zero, List.set_cons_succ, List.cons_append, List.nil_append] at hM)
    apply Calls.mono
    · (apply l21Good_any) <;> (first | (show (_ : Prop); with_reducible assumption) | (apply Hid.out; with_reducible assumption) | (apply Mem.intsR hM; (repeat' (first | with_reducible exact In.here | with_reducible apply In.there)); done) | (apply Ints.ext (hb := hM.below); with_reducible assumption) | (apply Rd.ext (hb := hM.below); with_reducible assumption) | (apply Mem.row hM; (repeat' (first | with_reducible exact In.here | with_reducible apply In.there)); done) | (apply Row.ext (hb := hM.below); with_reducible assumption) | exact ⟨by omega, by omega⟩ | omega | (trace_state; fail))
    rw [hi]
    rintro e wc4 ⟨rfl, hb⟩
    replace hM := hM.ext hb
    clear hb
    replace hM := hM.toInts (xs := []) .here rfl (by simp) (by simp)
    go_wp2
    go_ret2
    rw [HF.out]
    exact ⟨_, 0, 0, rfl, hM.first⟩
  have HI := Lib.hid hi
  obtain ⟨Wn, Hn, rfl, rfl, hlf, hlw, hnp, hn25, hW, ht, hxs, hfs, hws⟩ := incB_facts hi
  rw [h.len] at hlf hlw hnp hn25
  obtain rfl : nf = n := by rw [← hlf, hf.len]
  obtain rfl : nw = nf := by rw [← hlw, hw.len]
  have HXS := Lib.hid hxs; have HFS := Lib.hid hfs; have HWS := Lib.hid hws
  have hKb : endK Wn nw xs fs ws ≤ 600 := restK_le
  have HF0 := Lib.hid (show safeR Wn Hn xs fs ws t = if (!decide (9999 < t + (endK Wn nw xs fs ws : Nat))) then ⟨cellsN nw (safeC xs (endF Wn nw xs fs ws).f), true⟩ else ⟨[], false⟩ by rw [safeR, endB, hi, h.len, Int.toNat_natCast, Bool.true_and])
  clear hxs hfs hws hlf hlw hi
  go_enter Try.func31, Try.ntmps31
  go_wp2_with fail
  apply Mem.atA
  · (repeat' (first | with_reducible exact hM | with_reducible exact hMp | with_reducible apply Mem.drew | with_reducible apply Mem.drewN | with_reducible apply Mem.alloc | with_reducible apply Mem.set | with_reducible exact Sto.row | ((with_reducible refine Sto.rowEq2 ?_ ?_); omega; rfl) | ((with_reducible refine Sto.rowEq ?_); omega) | with_reducible apply Sto.int | with_reducible apply Sto.there | with_reducible assumption | (unfold I64; omega) | (with_reducible (have hMx := Mem.undrew hM; exact hMx)) | (with_reducible (have hMx := Mem.undrew hMp; exact hMx))))
  clear hM
  intro wst hM
  (try simp only [World.size_alloc, World.size_setCell, World.heap_drewN, heapDrew, Nat.add_assoc, Nat.reduceAdd, List.setIfInBounds_toArray, List.set_cons_zero, List.set_cons_succ, List.cons_append, List.nil_append] at hM)
  apply Calls.mono
  · (apply l21Good_any) <;> (first | (show (_ : Prop); with_reducible assumption) | (apply Hid.out; with_reducible assumption) | (apply Mem.intsR hM; (repeat' (first | with_reducible exact In.here | with_reducible apply In.there)); done) | (apply Ints.ext (hb := hM.below); with_reducible assumption) | (apply Rd.ext (hb := hM.below); with_reducible assumption) | (apply Mem.row hM; (repeat' (first | with_reducible exact In.here | with_reducible apply In.there)); done) | (apply Row.ext (hb := hM.below); with_reducible assumption) | exact ⟨by omega, by omega⟩ | omega | (trace_state; fail))
  rw [HI.out]
  rintro e wc5 ⟨rfl, hb⟩
  replace hM := hM.ext hb
  clear hb
  replace hM := hM.toInts (xs := []) .here rfl (by simp) (by simp)
  obtain ⟨k1, f1, l1⟩ := hM.row (.there .here)
  go_wp2_with fail
  apply Calls.mono
  · (apply l21End_any Wn Hn a nw c xs af cf fs aw cw ws t) <;> (first | (show (_ : Prop); with_reducible assumption) | (apply Hid.out; with_reducible assumption) | (apply Mem.intsR hM; (repeat' (first | with_reducible exact In.here | with_reducible apply In.there)); done) | (apply Ints.ext (hb := hM.below); with_reducible assumption) | (apply Rd.ext (hb := hM.below); with_reducible assumption) | (apply Mem.row hM; (repeat' (first | with_reducible exact In.here | with_reducible apply In.there)); done) | (apply Row.ext (hb := hM.below); with_reducible assumption) | exact ⟨by omega, by omega⟩ | omega | (trace_state; fail))
  clear k1 f1 l1
  rintro e w3 hp
  obtain ⟨G, b1, d1, b2, d2, b3, d3, rfl, hM2, hR⟩ := hp.use hM h hf hw rfl
  clear hp hM
  replace hM := hM2
  clear hM2
  simp only [List.cons_append, List.nil_append] at hM
  obtain ⟨E, hE⟩ : ∃ E, endF Wn nw xs fs ws = E := ⟨_, rfl⟩
  obtain ⟨K, hK⟩ : ∃ E, endK Wn nw xs fs ws = E := ⟨_, rfl⟩
  have hf0 := HF0.out
  rw [hE, hK] at hf0
  rw [hE] at hR
  rw [hK] at hKb
  rw [hK]
  have HF := Lib.hid hf0
  have HR := Lib.hid hR
  clear HF0 hE hK hf0 hR
  have hwt : IntKind.i64.wrap (t + (K : Int)) = t + (K : Int) := wrap_in (by omega)
  obtain ⟨k1, f1, l1⟩ := hM.row (.there .here)
  by_cases hq : 9999 < t + (K : Int)
  · have HQ := Lib.hid (decide_eq_true hq)
    go_wp2
    go_ret2
    rw [HF.out, HQ.out]
    refine ⟨_, 0, 0, rfl, ?_⟩
    apply Mem.pick (is := [1])
    · (repeat' (first | with_reducible exact hM | with_reducible exact hMp | with_reducible apply Mem.drew | with_reducible apply Mem.drewN | with_reducible apply Mem.alloc | with_reducible apply Mem.set | with_reducible exact Sto.row | ((with_reducible refine Sto.rowEq2 ?_ ?_); omega; rfl) | ((with_reducible refine Sto.rowEq ?_); omega) | with_reducible apply Sto.int | with_reducible apply Sto.there | with_reducible assumption | (unfold I64; omega) | (with_reducible (have hMx := Mem.undrew hM; exact hMx)) | (with_reducible (have hMx := Mem.undrew hMp; exact hMx))))
    · decide
    · rfl
  have HQ := Lib.hid (decide_eq_false hq)
  clear k1 f1 l1
  obtain ⟨k1, f1, l1⟩ := hM.row (.there .here)
  go_wp2_with fail
  clear k1 f1 l1
  apply Mem.atWpA
  · (repeat' (first | with_reducible exact hM | with_reducible exact hMp | with_reducible apply Mem.drew | with_reducible apply Mem.drewN | with_reducible apply Mem.alloc | with_reducible apply Mem.set | with_reducible exact Sto.row | ((with_reducible refine Sto.rowEq2 ?_ ?_); omega; rfl) | ((with_reducible refine Sto.rowEq ?_); omega) | with_reducible apply Sto.int | with_reducible apply Sto.there | with_reducible assumption | (unfold I64; omega) | (with_reducible (have hMx := Mem.undrew hM; exact hMx)) | (with_reducible (have hMx := Mem.undrew hMp; exact hMx))))
  clear hM
  intro wst hM
  (try simp only [World.size_alloc, World.size_setCell, World.heap_drewN, heapDrew, Nat.add_assoc, Nat.reduceAdd, List.setIfInBounds_toArray, List.set_cons_zero, List.set_cons_succ, List.cons_append, List.nil_append] at hM)
  clear hwt
  go_loopw [4, 7] (fun s4 s7 wr => ∃ (k : Nat) (a' : Option Addr) (m c' : Nat), k ≤ nw ∧ s7 = .int .i64 k ∧ s4 = .slice a' m c' ∧ Mem w.heap.size w wr (rowE w3.heap.size 46 #[.int .i64 Wn, .int .i64 Hn, .slice b1 nw d1, .slice b2 nw d2, .slice b3 nw d3, .int .i64 (t + (K : Int))] :: intE a' m c' (cellsN k (safeC xs E.f)) :: rowE w.heap.size 46 #[.int .i64 Wn, .int .i64 Hn, .slice a nw c, .slice af nw cf, .slice aw nw cw, .int .i64 t] :: G)) (fun _ s7 _ => nw - (intOf s7).toNat)
  case atStart => exact ⟨0, _, 0, _, Nat.zero_le _, rfl, rfl, hM⟩
  case round =>
    clear hM
    obtain ⟨k, a', m, c', hk, rfl, rfl, hM⟩ := hrel
    by_cases hlt : k < nw
    · have hm := (hM.ints (.there .here)).len
      have hl := cellsN_length k (safeC xs E.f)
      have hm25 : m ≤ 25 := by omega
      clear hm hl
      obtain ⟨g1, g2, -⟩ := HR.out _ [_, _, _] hM
      obtain ⟨bx, offx, rfl, -, -⟩ := g1.at' _ hlt
      obtain ⟨bz, offz, rfl, -, -⟩ := g2.at' _ hlt
      have hcx := g1.get hlt
      have hcz := g2.get hlt
      have hsu := cellsN_succ k (safeC xs E.f)
      rw [safeC, brn] at hsu
      obtain ⟨x, hx⟩ : ∃ x, xs.getD k 0 = x := ⟨_, rfl⟩
      obtain ⟨z, hz⟩ : ∃ x, E.f.getD k 0 = x := ⟨_, rfl⟩
      rw [hx, hz] at hsu
      rw [hx] at hcx
      rw [hz] at hcz
      have HSU := Lib.hid hsu
      clear hx hz hsu g1 g2
      have i0 : (0 : Int) ≤ (k : Int) := by omega
      have i1 : (k : Int) < (nw : Int) := by omega
      obtain ⟨k0, f0, l0⟩ := hM.row .here
      by_cases hp : 0 < x
      rotate_left
      · have HP := Lib.hid (decide_eq_false hp)
        go_wp2
        go_roundw
        case rel =>
          refine ⟨k + 1, a', m, c', by omega, by go_num, rfl, ?_⟩
          rw [HSU.out, HP.out]
          simp only [Bool.false_and, Bool.false_eq_true, if_false, List.append_nil]
          (repeat' (first | with_reducible exact hM | with_reducible exact hMp | with_reducible apply Mem.drew | with_reducible apply Mem.drewN | with_reducible apply Mem.alloc | with_reducible apply Mem.set | with_reducible exact Sto.row | ((with_reducible refine Sto.rowEq2 ?_ ?_); omega; rfl) | ((with_reducible refine Sto.rowEq ?_); omega) | with_reducible apply Sto.int | with_reducible apply Sto.there | with_reducible assumption | (unfold I64; omega) | (with_reducible (have hMx := Mem.undrew hM; exact hMx)) | (with_reducible (have hMx := Mem.undrew hMp; exact hMx))))
        case measure => simp [intOf]; omega
      have HP := Lib.hid (decide_eq_true hp)
      cases hz0 : (z == 0)
      · go_wp2
        go_roundw
        case rel =>
          refine ⟨k + 1, a', m, c', by omega, by go_num, rfl, ?_⟩
          rw [HSU.out, HP.out, hz0]
          simp only [Bool.and_false, Bool.false_eq_true, if_false, List.append_nil]
          (repeat' (first | with_reducible exact hM | with_reducible exact hMp | with_reducible apply Mem.drew | with_reducible apply Mem.drewN | with_reducible apply Mem.alloc | with_reducible apply Mem.set | with_reducible exact Sto.row | ((with_reducible refine Sto.rowEq2 ?_ ?_); omega; rfl) | ((with_reducible refine Sto.rowEq ?_); omega) | with_reducible apply Sto.int | with_reducible apply Sto.there | with_reducible assumption | (unfold I64; omega) | (with_reducible (have hMx := Mem.undrew hM; exact hMx)) | (with_reducible (have hMx := Mem.undrew hMp; exact hMx))))
        case measure => simp [intOf]; omega
      go_wp2_with (at_builtin; apply Mem.atL; (focus ((repeat' (first | with_reducible exact hM | with_reducible exact hMp | with_reducible apply Mem.drew | with_reducible apply Mem.drewN | with_reducible apply Mem.alloc | with_reducible apply Mem.set | with_reducible exact Sto.row | ((with_reducible refine Sto.rowEq2 ?_ ?_); omega; rfl) | ((with_reducible refine Sto.rowEq ?_); omega) | with_reducible apply Sto.int | with_reducible apply Sto.there | with_reducible assumption | (unfold I64; omega) | (with_reducible (have hMx := Mem.undrew hM; exact hMx)) | (with_reducible (have hMx := Mem.undrew hMp; exact hMx)))); done)); clear hM k0 f0 l0 hcx hcz; intro hM; (try simp only [World.size_alloc, World.size_setCell, World.heap_drewN, heapDrew, Nat.add_assoc, Nat.reduceAdd, List.setIfInBounds_toArray, List.set_cons_zero, List.set_cons_succ, List.cons_append, List.nil_append] at hM); refine wpList_pushI hM (fun _ => .there .here) (i64_nat (by omega)) (by omega) rfl _ _ _ Try.underlying24 rfl rfl rfl ?_)
      intro a6 c6 w6 hM
      go_wp2
      go_roundw
      case rel =>
        refine ⟨k + 1, a6, m + 1, c6, by omega, by go_num, rfl, ?_⟩
        rw [HSU.out, HP.out, hz0]
        exact hM
      case measure => simp [intOf]; omega
    · obtain rfl : k = nw := by omega
      obtain ⟨k0, f0, l0⟩ := hM.row .here
      go_wp2
      go_ret2
      rw [HF.out, HQ.out]
      refine ⟨a', m, c', rfl, ?_⟩
      apply Mem.pick (is := [1])
      · (repeat' (first | with_reducible exact hM | with_reducible exact hMp | with_reducible apply Mem.drew | with_reducible apply Mem.drewN | with_reducible apply Mem.alloc | with_reducible apply Mem.set | with_reducible exact Sto.row | ((with_reducible refine Sto.rowEq2 ?_ ?_); omega; rfl) | ((with_reducible refine Sto.rowEq ?_); omega) | with_reducible apply Sto.int | with_reducible apply Sto.there | with_reducible assumption | (unfold I64; omega) | (with_reducible (have hMx := Mem.undrew hM; exact hMx)) | (with_reducible (have hMx := Mem.undrew hMp; exact hMx))))
      · decide
      · rfl
end Go.Proofs.Ytkohfegajcmdbaa
