/-
  Incidents: what is threatened.
-/
import Derived.Test.YtkohfegajcmdbaaQTickW
import Derived.Test.YtkohfegajcmdbaaQNear4
import Derived.Deep.DeepCutAuto
import Derived.Deep.CutBlock
/-
  Incidents: what is threatened.
-/
namespace Go.Proofs.Ytkohfegajcmdbaa
set_option linter.unusedSimpArgs false
set_option linter.unusedVariables false
open Go.RowKit

theorem nearF_not (W n : Nat) (fs : List Int) (k : Nat) : (!(cellsN n (nearN W k)).all fun d => decide (fs.getD d.toNat 0 ≤ 0)) = nearF W n fs k := by
  unfold nearF
  induction cellsN n (nearN W k) with
  | nil => rfl
  | cons x r ih =>
    rw [List.all_cons, List.any_cons, Bool.not_and, ih]
    congr 1
    by_cases h : fs.getD x.toNat 0 ≤ 0
    · rw [decide_eq_true h, decide_eq_false (by omega)]; rfl
    · rw [decide_eq_false h, decide_eq_true (by omega)]; rfl

set_option maxRecDepth 100000 in
set_option maxHeartbeats 30000000 in
theorem thr2_any (k : Nat) (b : Nat) (w : World) (W Hn : Nat) (a : Option Addr) (n c : Nat) (af : Option Addr) (cf : Nat) (fs : List Int) (aw : Option Addr) (cw : Nat) (t : Int) (hf : Ints w af n cf fs) (hr : Row w b #[.int .i64 W, .int .i64 Hn, .slice a n c, .slice af n cf, .slice aw n cw, .int .i64 t]) (hk : k < n) :
    Calls Try.prog 142 #[.int .i64 k, .pointer (some ⟨b, 0, none⟩)] w (fun e w' => e = .returned (.bool (decide (fs.getD k 0 ≤ 0))) ∧ Below w.heap.size w w') := by
  have k0 := hr.cell
  obtain ⟨bx, off, rfl, -, -⟩ := hf.at' _ hk
  have hck := hf.get hk
  obtain ⟨x, hx⟩ : ∃ x, fs.getD k 0 = x := ⟨_, rfl⟩
  rw [hx] at hck ⊢
  clear hx
  have i0 : (0 : Int) ≤ (k : Int) := by omega
  have i1 : (k : Int) < (n : Int) := by omega
  go_enter Try.func142, Try.ntmps142
  go_wp2
  go_ret
  exact ⟨rfl, Below.refl _ _⟩

set_option maxRecDepth 100000 in
set_option maxHeartbeats 30000000 in
theorem thr1_any (k : Nat) (b : Nat) (w : World) (W Hn : Nat) (a : Option Addr) (n c : Nat) (xs : List Int) (af : Option Addr) (cf : Nat) (fs : List Int) (aw : Option Addr) (cw : Nat) (ws : List Int) (t : Int) (h : Ints w a n c xs) (hf : Ints w af n cf fs) (hw : Ints w aw n cw ws) (hr : Row w b #[.int .i64 W, .int .i64 Hn, .slice a n c, .slice af n cf, .slice aw n cw, .int .i64 t]) (hk : k < n) (hn25 : n ≤ 25) (hW : 1 ≤ W ∧ W ≤ 5) :
    Calls Try.prog 141 #[.int .i64 k, .pointer (some ⟨b, 0, none⟩)] w (fun e w' => e = .returned (.bool (thrN W n xs fs ws k)) ∧ Below w.heap.size w w') := by
  have hM := Mem.start w
  have hmf : ∀ (fn : Fn) (first cap : Array Value) (w : World), (Instr.makeFunc fn first cap).run Try.prog w = .ok (.func fn first cap) w := fun _ _ _ _ => rfl
  have hny := nearF_not W n fs k
  obtain ⟨y, hy⟩ : ∃ y, nearF W n fs k = y := ⟨_, rfl⟩
  obtain ⟨bb, hbb⟩ : ∃ y, brn xs k = y := ⟨_, rfl⟩
  obtain ⟨x, hx⟩ : ∃ x, fs.getD k 0 = x := ⟨_, rfl⟩
  obtain ⟨z, hz⟩ : ∃ x, ws.getD k 0 = x := ⟨_, rfl⟩
  rw [hy] at hny
  have HN := Lib.hid (show ((cellsN n (nearN W k)).all fun d => decide (fs.getD d.toNat 0 ≤ 0)) = !y by rw [← hny, Bool.not_not])
  clear hny
  have HF := Lib.hid (show thrN W n xs fs ws k = (bb && (x == 0) && (z == 0) && y) by rw [thrN, hy, hbb, hx, hz])
  have HB := Lib.hid hbb; have HX := Lib.hid hx; have HZ := Lib.hid hz
  clear hx hz hy hbb
  have k0 := hr.cell
  go_enter Try.func141, Try.ntmps141
  go_wp2_with fail
  apply Mem.atA
  · (repeat' (first | with_reducible exact hM | with_reducible exact hMp | with_reducible apply Mem.drew | with_reducible apply Mem.drewN | with_reducible apply Mem.alloc | with_reducible apply Mem.set | with_reducible exact Sto.row | ((with_reducible refine Sto.rowEq2 ?_ ?_); omega; rfl) | ((with_reducible refine Sto.rowEq ?_); omega) | with_reducible apply Sto.int | with_reducible apply Sto.there | with_reducible assumption | (unfold I64; omega) | (with_reducible (have hMx := Mem.undrew hM; exact hMx)) | (with_reducible (have hMx := Mem.undrew hMp; exact hMx))))
  clear hM
  intro wst hM
  (try simp only [World.size_alloc, World.size_setCell, World.heap_drewN, heapDrew, Nat.add_assoc, Nat.reduceAdd, List.setIfInBounds_toArray, List.set_cons_zero, List.set_cons_succ, List.cons_append, List.nil_append] at hM)
  (first | refine (neighbors_any W Hn a n c xs k _ (h.ext hM.below) hn25 hW (by omega)).mono ?_)
  rintro e wc1 ⟨a', m', c', rfl, hm⟩
  replace hM := hM.join hm
  clear hm
  (try simp only [World.size_alloc, World.size_setCell, World.heap_drewN, heapDrew, Nat.add_assoc, Nat.reduceAdd, List.setIfInBounds_toArray, List.set_cons_zero, List.set_cons_succ, List.cons_append, List.nil_append] at hM)
  clear k0
  have k0 := (hr.ext hM.below).cell
  go_wp2_with fail
  apply Mem.atA
  · (repeat' (first | with_reducible exact hM | with_reducible exact hMp | with_reducible apply Mem.drew | with_reducible apply Mem.drewN | with_reducible apply Mem.alloc | with_reducible apply Mem.set | with_reducible exact Sto.row | ((with_reducible refine Sto.rowEq2 ?_ ?_); omega; rfl) | ((with_reducible refine Sto.rowEq ?_); omega) | with_reducible apply Sto.int | with_reducible apply Sto.there | with_reducible assumption | (unfold I64; omega) | (with_reducible (have hMx := Mem.undrew hM; exact hMx)) | (with_reducible (have hMx := Mem.undrew hMp; exact hMx))))
  clear hM
  intro wst hM
  (try simp only [World.size_alloc, World.size_setCell, World.heap_drewN, heapDrew, Nat.add_assoc, Nat.reduceAdd, List.setIfInBounds_toArray, List.set_cons_zero, List.set_cons_succ, List.cons_append, List.nil_append] at hM)
  (first | refine ((all_any _ _ (fun d => decide (fs.getD d.toNat 0 ≤ 0)) _ _ _ _ _ (hM.ints .here).ints (enters Try.func142 (by kernel_rfl) rfl) (fun x hx w' hb => by
      have hM' := hM.ext hb
      obtain ⟨d, rfl, hd, -⟩ := cellsN_mem.1 hx
      exact thr2_any d _ w' W Hn a n c af cf fs aw cw t (hf.ext hM'.below) (hr.ext hM'.below) hd))).mono ?_)
  rw [HN.out]
  rintro e wc2 ⟨rfl, hb⟩
  replace hM := hM.ext hb
  clear hb
  clear k0
  have k0 := (hr.ext hM.below).cell
  go_wp2_with fail
  apply Mem.atA
  · (repeat' (first | with_reducible exact hM | with_reducible exact hMp | with_reducible apply Mem.drew | with_reducible apply Mem.drewN | with_reducible apply Mem.alloc | with_reducible apply Mem.set | with_reducible exact Sto.row | ((with_reducible refine Sto.rowEq2 ?_ ?_); omega; rfl) | ((with_reducible refine Sto.rowEq ?_); omega) | with_reducible apply Sto.int | with_reducible apply Sto.there | with_reducible assumption | (unfold I64; omega) | (with_reducible (have hMx := Mem.undrew hM; exact hMx)) | (with_reducible (have hMx := Mem.undrew hMp; exact hMx))))
  clear hM
  intro wst hM
  (try simp only [World.size_alloc, World.size_setCell, World.heap_drewN, heapDrew, Nat.add_assoc, Nat.reduceAdd, List.setIfInBounds_toArray, List.set_cons_zero, List.set_cons_succ, List.cons_append, List.nil_append] at hM)
  apply Calls.mono
  · (apply burns_any W Hn a n c xs k) <;> (first | (show (_ : Prop); with_reducible assumption) | (apply Hid.out; with_reducible assumption) | (apply Mem.intsR hM; (repeat' (first | with_reducible exact In.here | with_reducible apply In.there)); done) | (apply Ints.ext (hb := hM.below); with_reducible assumption) | (apply Rd.ext (hb := hM.below); with_reducible assumption) | (apply Mem.row hM; (repeat' (first | with_reducible exact In.here | with_reducible apply In.there)); done) | (apply Row.ext (hb := hM.below); with_reducible assumption) | exact ⟨by omega, by omega⟩ | omega | (trace_state; fail))
  rw [HB.out]
  rintro e wc3 ⟨rfl, hb⟩
  replace hM := hM.ext hb
  clear hb
  clear k0
  have k0 := (hr.ext hM.below).cell
  cases bb
  · go_wp2
    go_ret
    exact ⟨rb (by rw [HF.out]; rfl), (by apply Mem.below; (repeat' (first | with_reducible exact hM | with_reducible exact hMp | with_reducible apply Mem.drew | with_reducible apply Mem.drewN | with_reducible apply Mem.alloc | with_reducible apply Mem.set | with_reducible exact Sto.row | ((with_reducible refine Sto.rowEq2 ?_ ?_); omega; rfl) | ((with_reducible refine Sto.rowEq ?_); omega) | with_reducible apply Sto.int | with_reducible apply Sto.there | with_reducible assumption | (unfold I64; omega) | (with_reducible (have hMx := Mem.undrew hM; exact hMx)) | (with_reducible (have hMx := Mem.undrew hMp; exact hMx)))))⟩
  obtain ⟨bx, offx, rfl, -, -⟩ := hf.at' _ hk
  have hcf := (hf.ext hM.below).get hk
  rw [HX.out] at hcf
  obtain ⟨bz, offz, rfl, -, -⟩ := hw.at' _ hk
  have hcw := (hw.ext hM.below).get hk
  rw [HZ.out] at hcw
  have i0 : (0 : Int) ≤ (k : Int) := by omega
  have i1 : (k : Int) < (n : Int) := by omega
  cases hx0 : (x == 0)
  · go_wp2
    go_ret
    exact ⟨rb (by rw [HF.out, hx0]; rfl), (by apply Mem.below; (repeat' (first | with_reducible exact hM | with_reducible exact hMp | with_reducible apply Mem.drew | with_reducible apply Mem.drewN | with_reducible apply Mem.alloc | with_reducible apply Mem.set | with_reducible exact Sto.row | ((with_reducible refine Sto.rowEq2 ?_ ?_); omega; rfl) | ((with_reducible refine Sto.rowEq ?_); omega) | with_reducible apply Sto.int | with_reducible apply Sto.there | with_reducible assumption | (unfold I64; omega) | (with_reducible (have hMx := Mem.undrew hM; exact hMx)) | (with_reducible (have hMx := Mem.undrew hMp; exact hMx)))))⟩
  cases hz0 : (z == 0)
  · go_wp2
    go_ret
    exact ⟨rb (by rw [HF.out, hx0, hz0]; rfl), (by apply Mem.below; (repeat' (first | with_reducible exact hM | with_reducible exact hMp | with_reducible apply Mem.drew | with_reducible apply Mem.drewN | with_reducible apply Mem.alloc | with_reducible apply Mem.set | with_reducible exact Sto.row | ((with_reducible refine Sto.rowEq2 ?_ ?_); omega; rfl) | ((with_reducible refine Sto.rowEq ?_); omega) | with_reducible apply Sto.int | with_reducible apply Sto.there | with_reducible assumption | (unfold I64; omega) | (with_reducible (have hMx := Mem.undrew hM; exact hMx)) | (with_reducible (have hMx := Mem.undrew hMp; exact hMx)))))⟩
  go_wp2
  go_ret
  exact ⟨rb (by rw [HF.out, hx0, hz0]; cases y <;> rfl), (by apply Mem.below; (repeat' (first | with_reducible exact hM | with_reducible exact hMp | with_reducible apply Mem.drew | with_reducible apply Mem.drewN | with_reducible apply Mem.alloc | with_reducible apply Mem.set | with_reducible exact Sto.row | ((with_reducible refine Sto.rowEq2 ?_ ?_); omega; rfl) | ((with_reducible refine Sto.rowEq ?_); omega) | with_reducible apply Sto.int | with_reducible apply Sto.there | with_reducible assumption | (unfold I64; omega) | (with_reducible (have hMx := Mem.undrew hM; exact hMx)) | (with_reducible (have hMx := Mem.undrew hMp; exact hMx)))))⟩

set_option maxRecDepth 100000 in
set_option maxHeartbeats 30000000 in
theorem threatened_any (W Hn : Nat) (a : Option Addr) (n c : Nat) (xs : List Int) (af : Option Addr) (cf : Nat) (fs : List Int) (aw : Option Addr) (cw : Nat) (ws : List Int) (t : Int) (w : World) (h : Ints w a n c xs) (hf : Ints w af n cf fs) (hw : Ints w aw n cw ws) (hn25 : n ≤ 25) (hW : 1 ≤ W ∧ W ≤ 5) :
    Calls Try.prog 91 #[.agg #[.int .i64 W, .int .i64 Hn, .slice a n c, .slice af n cf, .slice aw n cw, .int .i64 t]] w (fun e w' => ∃ a' m' c', e = .returned (.slice a' m' c') ∧ Mem w.heap.size w w' [intE a' m' c' (cellsN n (thrN W n xs fs ws))]) := by
  have hM := Mem.start w
  have hmf : ∀ (fn : Fn) (first cap : Array Value) (w : World), (Instr.makeFunc fn first cap).run Try.prog w = .ok (.func fn first cap) w := fun _ _ _ _ => rfl
  go_enter Try.func91, Try.ntmps91
  go_wp2_with fail
  apply Mem.atA
  · (repeat' (first | with_reducible exact hM | with_reducible exact hMp | with_reducible apply Mem.drew | with_reducible apply Mem.drewN | with_reducible apply Mem.alloc | with_reducible apply Mem.set | with_reducible exact Sto.row | ((with_reducible refine Sto.rowEq2 ?_ ?_); omega; rfl) | ((with_reducible refine Sto.rowEq ?_); omega) | with_reducible apply Sto.int | with_reducible apply Sto.there | with_reducible assumption | (unfold I64; omega) | (with_reducible (have hMx := Mem.undrew hM; exact hMx)) | (with_reducible (have hMx := Mem.undrew hMp; exact hMx))))
  clear hM
  intro wst hM
  (try simp only [World.size_alloc, World.size_setCell, World.heap_drewN, heapDrew, Nat.add_assoc, Nat.reduceAdd, List.setIfInBounds_toArray, List.set_cons_zero, List.set_cons_succ, List.cons_append, List.nil_append] at hM)
  (first | refine (cellsThat_any _ _ _ (thrN W n xs fs ws) _ _ a n c xs _ (h.ext hM.below) hn25 (enters Try.func141 (by kernel_rfl) rfl) (fun k hk w' hb => by
      have hM' := hM.ext hb
      exact thr1_any k _ w' W Hn a n c xs af cf fs aw cw ws t (h.ext hM'.below) (hf.ext hM'.below) (hw.ext hM'.below) (hM'.row .here) hk hn25 hW)).mono ?_)
  rintro e wc4 ⟨a', m', c', rfl, hm⟩
  replace hM := hM.join hm
  clear hm
  (try simp only [World.size_alloc, World.size_setCell, World.heap_drewN, heapDrew, Nat.add_assoc, Nat.reduceAdd, List.setIfInBounds_toArray, List.set_cons_zero, List.set_cons_succ, List.cons_append, List.nil_append] at hM)
  go_wp2
  go_ret
  exact ⟨a', m', c', rfl, hM.first⟩

set_option maxRecDepth 100000 in
set_option maxHeartbeats 30000000 in
theorem l21Threat_any (W Hn : Nat) (a : Option Addr) (n c : Nat) (xs : List Int) (af : Option Addr) (cf : Nat) (fs : List Int) (aw : Option Addr) (cw : Nat) (ws : List Int) (t : Int) (k : Nat) (w : World) (h : Ints w a n c xs) (hf : Ints w af n cf fs) (hw : Ints w aw n cw ws) (hn25 : n ≤ 25) (hW : 1 ≤ W ∧ W ≤ 5) (hk : k < n) (hxs : ∀ x ∈ xs, 0 ≤ x) (hws : ∀ x ∈ ws, 0 ≤ x) :
    Calls Try.prog 92 #[.agg #[.int .i64 W, .int .i64 Hn, .slice a n c, .slice af n cf, .slice aw n cw, .int .i64 t], .int .i64 k] w (fun e w' => e = .returned (.bool (thrN W n xs fs ws k)) ∧ Below w.heap.size w w') := by
  have hM := Mem.start w
  have hv0 := hxs _ (getD_mem (xs := xs) (k := k) (by rw [h.len]; exact hk))
  have hz0 := hws _ (getD_mem (xs := ws) (k := k) (by rw [hw.len]; exact hk))
  obtain ⟨bv, offv, rfl, -, -⟩ := h.at' _ hk
  obtain ⟨bx, offx, rfl, -, -⟩ := hf.at' _ hk
  obtain ⟨bz, offz, rfl, -, -⟩ := hw.at' _ hk
  obtain ⟨v, hv⟩ : ∃ v, xs.getD k 0 = v := ⟨_, rfl⟩
  obtain ⟨x, hx⟩ : ∃ x, fs.getD k 0 = x := ⟨_, rfl⟩
  obtain ⟨z, hz⟩ : ∃ x, ws.getD k 0 = x := ⟨_, rfl⟩
  rw [hv] at hv0
  rw [hz] at hz0
  have HV0 := Lib.hid hv; have HX0 := Lib.hid hx; have HZ0 := Lib.hid hz
  obtain ⟨ds, hds⟩ : ∃ ds, cellsN n (nearN W k) = ds := ⟨_, rfl⟩
  have HF := Lib.hid (show thrN W n xs fs ws k = (decide (0 < v) && (x == 0) && (z == 0) && ds.any fun d => decide (0 < fs.getD d.toNat 0)) by rw [thrN, brn, nearF, hv, hx, hz, hds])
  have hdn : ∀ d ∈ ds, ∃ m : Nat, d = m ∧ m < n := by
    intro d hd
    rw [← hds] at hd
    obtain ⟨m, e, h1, -⟩ := cellsN_mem.1 hd
    exact ⟨m, e, h1⟩
  have HDN := Lib.hid hdn
  have HDS := Lib.hid hds
  clear hds hdn hv hx hz hxs hws
  have i0 : (0 : Int) ≤ (k : Int) := by omega
  have i1 : (k : Int) < (n : Int) := by omega
  go_enter Try.func92, Try.ntmps92
  go_upto_region 1 with fail
  apply Mem.atWpA
  · (repeat' (first | with_reducible exact hM | with_reducible exact hMp | with_reducible apply Mem.drew | with_reducible apply Mem.drewN | with_reducible apply Mem.alloc | with_reducible apply Mem.set | with_reducible exact Sto.row | ((with_reducible refine Sto.rowEq2 ?_ ?_); omega; rfl) | ((with_reducible refine Sto.rowEq ?_); omega) | with_reducible apply Sto.int | with_reducible apply Sto.there | with_reducible assumption | (unfold I64; omega) | (with_reducible (have hMx := Mem.undrew hM; exact hMx)) | (with_reducible (have hMx := Mem.undrew hMp; exact hMx))))
  clear hM
  intro wst hM
  (try simp only [World.size_alloc, World.size_setCell, World.heap_drewN, heapDrew, Nat.add_assoc, Nat.reduceAdd, List.setIfInBounds_toArray, List.set_cons_zero, List.set_cons_succ, List.cons_append, List.nil_append] at hM)
  have hcv := (h.ext hM.below).get hk
  rw [HV0.out] at hcv
  have hcx := (hf.ext hM.below).get hk
  rw [HX0.out] at hcx
  have hcz := (hw.ext hM.below).get hk
  rw [HZ0.out] at hcz
  obtain ⟨k0, f0, l0⟩ := hM.row .here
  by_cases hv1 : v = 0
  · have hve : (v == 0) = true := by simpa using hv1
    have HV := Lib.hid (show decide (0 < v) = false from decide_eq_false (by omega))
    clear hv1
    go_wp2
    go_ret
    exact ⟨rb (by rw [HF.out, HV.out]; rfl), (by apply Mem.below; (repeat' (first | with_reducible exact hM | with_reducible exact hMp | with_reducible apply Mem.drew | with_reducible apply Mem.drewN | with_reducible apply Mem.alloc | with_reducible apply Mem.set | with_reducible exact Sto.row | ((with_reducible refine Sto.rowEq2 ?_ ?_); omega; rfl) | ((with_reducible refine Sto.rowEq ?_); omega) | with_reducible apply Sto.int | with_reducible apply Sto.there | with_reducible assumption | (unfold I64; omega) | (with_reducible (have hMx := Mem.undrew hM; exact hMx)) | (with_reducible (have hMx := Mem.undrew hMp; exact hMx)))))⟩
  have hve : (v == 0) = false := by simpa using hv1
  have HV := Lib.hid (show decide (0 < v) = true from decide_eq_true (by omega))
  clear hv1
  by_cases hx1 : x = 0
  rotate_left
  · have hxe : (x != 0) = true := by simpa using hx1
    have HX := Lib.hid (show (x == 0) = false by simpa using hx1)
    clear hx1
    go_wp2
    go_ret
    exact ⟨rb (by rw [HF.out, HV.out, HX.out]; rfl), (by apply Mem.below; (repeat' (first | with_reducible exact hM | with_reducible exact hMp | with_reducible apply Mem.drew | with_reducible apply Mem.drewN | with_reducible apply Mem.alloc | with_reducible apply Mem.set | with_reducible exact Sto.row | ((with_reducible refine Sto.rowEq2 ?_ ?_); omega; rfl) | ((with_reducible refine Sto.rowEq ?_); omega) | with_reducible apply Sto.int | with_reducible apply Sto.there | with_reducible assumption | (unfold I64; omega) | (with_reducible (have hMx := Mem.undrew hM; exact hMx)) | (with_reducible (have hMx := Mem.undrew hMp; exact hMx)))))⟩
  have hxe : (x != 0) = false := by simpa using hx1
  have HX := Lib.hid (show (x == 0) = true by simpa using hx1)
  clear hx1
  by_cases hz1 : 0 < z
  · have hze : decide (0 < z) = true := decide_eq_true hz1
    have HZ := Lib.hid (show (z == 0) = false by simp; omega)
    clear hz1
    go_wp2
    go_ret
    exact ⟨rb (by rw [HF.out, HV.out, HX.out, HZ.out]; rfl), (by apply Mem.below; (repeat' (first | with_reducible exact hM | with_reducible exact hMp | with_reducible apply Mem.drew | with_reducible apply Mem.drewN | with_reducible apply Mem.alloc | with_reducible apply Mem.set | with_reducible exact Sto.row | ((with_reducible refine Sto.rowEq2 ?_ ?_); omega; rfl) | ((with_reducible refine Sto.rowEq ?_); omega) | with_reducible apply Sto.int | with_reducible apply Sto.there | with_reducible assumption | (unfold I64; omega) | (with_reducible (have hMx := Mem.undrew hM; exact hMx)) | (with_reducible (have hMx := Mem.undrew hMp; exact hMx)))))⟩
  have hze : decide (0 < z) = false := decide_eq_false hz1
  have HZ := Lib.hid (show (z == 0) = true by simp; omega)
  clear hz1
  go_wp2_with fail
  apply Mem.atA
  · (repeat' (first | with_reducible exact hM | with_reducible exact hMp | with_reducible apply Mem.drew | with_reducible apply Mem.drewN | with_reducible apply Mem.alloc | with_reducible apply Mem.set | with_reducible exact Sto.row | ((with_reducible refine Sto.rowEq2 ?_ ?_); omega; rfl) | ((with_reducible refine Sto.rowEq ?_); omega) | with_reducible apply Sto.int | with_reducible apply Sto.there | with_reducible assumption | (unfold I64; omega) | (with_reducible (have hMx := Mem.undrew hM; exact hMx)) | (with_reducible (have hMx := Mem.undrew hMp; exact hMx))))
  clear hM
  intro wst hM
  (try simp only [World.size_alloc, World.size_setCell, World.heap_drewN, heapDrew, Nat.add_assoc, Nat.reduceAdd, List.setIfInBounds_toArray, List.set_cons_zero, List.set_cons_succ, List.cons_append, List.nil_append] at hM)
  apply Calls.mono
  · (apply l2Near_any W Hn _ n c xs k) <;> (first | (show (_ : Prop); with_reducible assumption) | (apply Hid.out; with_reducible assumption) | (apply Mem.intsR hM; (repeat' (first | with_reducible exact In.here | with_reducible apply In.there)); done) | (apply Ints.ext (hb := hM.below); with_reducible assumption) | (apply Rd.ext (hb := hM.below); with_reducible assumption) | (apply Mem.row hM; (repeat' (first | with_reducible exact In.here | with_reducible apply In.there)); done) | (apply Row.ext (hb := hM.below); with_reducible assumption) | exact ⟨by omega, by omega⟩ | omega | (trace_state; fail))
  rw [HDS.out]
  rintro e wc5 ⟨a', m, c', rfl, hm⟩
  replace hM := hM.join hm
  clear hm
  (try simp only [World.size_alloc, World.size_setCell, World.heap_drewN, heapDrew, Nat.add_assoc, Nat.reduceAdd, List.setIfInBounds_toArray, List.set_cons_zero, List.set_cons_succ, List.cons_append, List.nil_append] at hM)
  clear hcx hcv hcz k0 f0 l0
  have hml := (hM.ints .here).len
  have hmr := (hM.ints .here).room
  have HML := Lib.hid hml; clear hml
  go_wp2_with fail
  go_loopw [6] (fun i wr => ∃ j : Nat, j ≤ m ∧ i = .int .i64 j ∧ (ds.take j).any (fun d => decide (0 < fs.getD d.toNat 0)) = false ∧ Mem w.heap.size w wr [intE a' m c' ds, rowE w.heap.size 46 #[.int .i64 W, .int .i64 Hn, .slice (some ⟨bv, offv, none⟩) n c, .slice (some ⟨bx, offx, none⟩) n cf, .slice (some ⟨bz, offz, none⟩) n cw, .int .i64 t]]) (fun i _ => m - (intOf i).toNat)
  case atStart => exact ⟨0, Nat.zero_le _, rfl, by simp, by (repeat' (first | with_reducible exact hM | with_reducible exact hMp | with_reducible apply Mem.drew | with_reducible apply Mem.drewN | with_reducible apply Mem.alloc | with_reducible apply Mem.set | with_reducible exact Sto.row | ((with_reducible refine Sto.rowEq2 ?_ ?_); omega; rfl) | ((with_reducible refine Sto.rowEq ?_); omega) | with_reducible apply Sto.int | with_reducible apply Sto.there | with_reducible assumption | (unfold I64; omega) | (with_reducible (have hMx := Mem.undrew hM; exact hMx)) | (with_reducible (have hMx := Mem.undrew hMp; exact hMx))))⟩
  case round =>
    clear hM
    obtain ⟨j, hj, rfl, hany, hM⟩ := hrel
    have HA := Lib.hid hany; clear hany
    by_cases hlt : j < m
    · obtain ⟨g, rfl, -⟩ := (hM.ints .here).head (by omega)
      have hjl : j < ds.length := by rw [HML.out]; exact hlt
      have hts := any_take_succ (p := fun d => decide (0 < fs.getD d.toNat 0)) hjl
      have htr := fun (e : decide (0 < fs.getD (ds.getD j 0).toNat 0) = true) => (List.any_eq_true (p := fun d => decide (0 < fs.getD d.toNat 0))).2 ⟨_, getD_mem hjl, e⟩
      obtain ⟨d, hd, hdn⟩ := HDN.out _ (getD_mem hjl)
      rw [hd, Int.toNat_natCast] at hts htr
      obtain ⟨y, hy⟩ : ∃ y, fs.getD d 0 = y := ⟨_, rfl⟩
      rw [hy] at hts htr
      have HTS := Lib.hid hts; have HTR := Lib.hid htr; have HD := Lib.hid hd; have HY := Lib.hid hy
      clear hts htr hd hy hjl
      have j0 : (0 : Int) ≤ (j : Int) := by omega
      have j1 : (j : Int) < (m : Int) := by omega
      have m0 : (0 : Int) ≤ (d : Int) := by omega
      have m1 : (d : Int) < (n : Int) := by omega
      go_wp2_with fail
      apply Mem.atWpA
      · (repeat' (first | with_reducible exact hM | with_reducible exact hMp | with_reducible apply Mem.drew | with_reducible apply Mem.drewN | with_reducible apply Mem.alloc | with_reducible apply Mem.set | with_reducible exact Sto.row | ((with_reducible refine Sto.rowEq2 ?_ ?_); omega; rfl) | ((with_reducible refine Sto.rowEq ?_); omega) | with_reducible apply Sto.int | with_reducible apply Sto.there | with_reducible assumption | (unfold I64; omega) | (with_reducible (have hMx := Mem.undrew hM; exact hMx)) | (with_reducible (have hMx := Mem.undrew hMp; exact hMx))))
      clear hM
      intro wst hM
      (try simp only [World.size_alloc, World.size_setCell, World.heap_drewN, heapDrew, Nat.add_assoc, Nat.reduceAdd, List.setIfInBounds_toArray, List.set_cons_zero, List.set_cons_succ, List.cons_append, List.nil_append] at hM)
      refine AtT.startA hM hM 8 (by kernel_rfl) ?_
      clear hM
      intro wd hM
      have hS := hM
      refine AtT.taked (i := 0) (v := ?_) (some 40) rfl rfl (by kernel_rfl) (by kernel_rfl) (by kernel_rfl) (by kernel_rfl) (fun _ _ _ h => h) (Or.inl ⟨by kernel_rfl, ?_⟩) hS ?_
      rotate_left
      · (intro wS hSw; (try dsimp only at hSw); go_simp; (try rw [if_neg (by omega)]); try with_reducible rfl)
      simp only [Act.put, List.setIfInBounds_toArray, List.set_cons_zero, List.set_cons_succ]
      refine AtT.taked (i := 1) (v := ?_) (some 41) rfl rfl (by kernel_rfl) (by kernel_rfl) (by kernel_rfl) (by kernel_rfl) (fun _ _ _ h => h) (Or.inl ⟨by kernel_rfl, ?_⟩) hS ?_
      rotate_left
      · (intro wS hSw; (try dsimp only at hSw); have kr0 := (Mem.row hSw (.there .here)).cell; have hck := (hSw.ints .here).cellAt hlt; rw [HD.out] at hck; have hcx := (hf.ext hSw.below).get hdn; rw [HY.out] at hcx; go_simp; (try rw [if_neg (by omega)]); try with_reducible rfl)
      simp only [Act.put, List.setIfInBounds_toArray, List.set_cons_zero, List.set_cons_succ]
      refine AtT.taked (i := 2) (v := ?_) (some 42) rfl rfl (by kernel_rfl) (by kernel_rfl) (by kernel_rfl) (by kernel_rfl) (fun _ _ _ h => h) (Or.inl ⟨by kernel_rfl, ?_⟩) hS ?_
      rotate_left
      · (intro wS hSw; (try dsimp only at hSw); go_simp; (try rw [if_neg (by omega)]); try with_reducible rfl)
      simp only [Act.put, List.setIfInBounds_toArray, List.set_cons_zero, List.set_cons_succ]
      refine AtT.taked (i := 3) (v := ?_) (some 43) rfl rfl (by kernel_rfl) (by kernel_rfl) (by kernel_rfl) (by kernel_rfl) (fun _ _ _ h => h) (Or.inl ⟨by kernel_rfl, ?_⟩) hS ?_
      rotate_left
      · (intro wS hSw; (try dsimp only at hSw); go_simp; (try rw [if_neg (by omega)]); try with_reducible rfl)
      simp only [Act.put, List.setIfInBounds_toArray, List.set_cons_zero, List.set_cons_succ]
      refine AtT.taked (i := 4) (v := ?_) (some 44) rfl rfl (by kernel_rfl) (by kernel_rfl) (by kernel_rfl) (by kernel_rfl) (fun _ _ _ h => h) (Or.inl ⟨by kernel_rfl, ?_⟩) hS ?_
      rotate_left
      · (intro wS hSw; (try dsimp only at hSw); have kr0 := (Mem.row hSw (.there .here)).cell; have hck := (hSw.ints .here).cellAt hlt; rw [HD.out] at hck; have hcx := (hf.ext hSw.below).get hdn; rw [HY.out] at hcx; go_simp; (try rw [if_neg (by omega)]); try with_reducible rfl)
      simp only [Act.put, List.setIfInBounds_toArray, List.set_cons_zero, List.set_cons_succ]
      refine AtT.taked (i := 5) (v := ?_) (some 45) rfl rfl (by kernel_rfl) (by kernel_rfl) (by kernel_rfl) (by kernel_rfl) (fun _ _ _ h => h) (Or.inl ⟨by kernel_rfl, ?_⟩) hS ?_
      rotate_left
      · (intro wS hSw; (try dsimp only at hSw); have kr0 := (Mem.row hSw (.there .here)).cell; have hck := (hSw.ints .here).cellAt hlt; rw [HD.out] at hck; have hcx := (hf.ext hSw.below).get hdn; rw [HY.out] at hcx; go_simp; (try rw [if_neg (by omega)]); try with_reducible rfl)
      simp only [Act.put, List.setIfInBounds_toArray, List.set_cons_zero, List.set_cons_succ]
      refine AtT.taked (i := 6) (v := ?_) (some 46) rfl rfl (by kernel_rfl) (by kernel_rfl) (by kernel_rfl) (by kernel_rfl) (fun _ _ _ h => h) (Or.inl ⟨by kernel_rfl, ?_⟩) hS ?_
      rotate_left
      · (intro wS hSw; (try dsimp only at hSw); have kr0 := (Mem.row hSw (.there .here)).cell; have hck := (hSw.ints .here).cellAt hlt; rw [HD.out] at hck; have hcx := (hf.ext hSw.below).get hdn; rw [HY.out] at hcx; go_simp; (try rw [if_neg (by omega)]); try with_reducible rfl)
      simp only [Act.put, List.setIfInBounds_toArray, List.set_cons_zero, List.set_cons_succ]
      refine AtT.taked (i := 7) (v := ?_) (some 47) rfl rfl (by kernel_rfl) (by kernel_rfl) (by kernel_rfl) (by kernel_rfl) (fun _ _ _ h => h) (Or.inl ⟨by kernel_rfl, ?_⟩) hS ?_
      rotate_left
      · (intro wS hSw; (try dsimp only at hSw); have kr0 := (Mem.row hSw (.there .here)).cell; have hck := (hSw.ints .here).cellAt hlt; rw [HD.out] at hck; have hcx := (hf.ext hSw.below).get hdn; rw [HY.out] at hcx; go_simp; (try rw [if_neg (by omega)]); try with_reducible rfl)
      simp only [Act.put, List.setIfInBounds_toArray, List.set_cons_zero, List.set_cons_succ]
      refine AtT.last (by kernel_rfl) rfl (by kernel_rfl) ?_
      intro K hK
      clear hS
      go_simp
      refine hK.out _ _ ?_
      clear hK K
      by_cases hp : 0 < y
      rotate_left
      · have HP := Lib.hid (decide_eq_false hp)
        go_wp2
        go_roundw
        case rel => exact ⟨j + 1, by omega, by go_num, by rw [HTS.out, HA.out, HP.out]; rfl, by (repeat' (first | with_reducible exact hM | with_reducible exact hMp | with_reducible apply Mem.drew | with_reducible apply Mem.drewN | with_reducible apply Mem.alloc | with_reducible apply Mem.set | with_reducible exact Sto.row | ((with_reducible refine Sto.rowEq2 ?_ ?_); omega; rfl) | ((with_reducible refine Sto.rowEq ?_); omega) | with_reducible apply Sto.int | with_reducible apply Sto.there | with_reducible assumption | (unfold I64; omega) | (with_reducible (have hMx := Mem.undrew hM; exact hMx)) | (with_reducible (have hMx := Mem.undrew hMp; exact hMx))))⟩
        case measure => simp [intOf]; omega
      · have HP := Lib.hid (decide_eq_true hp)
        go_wp2
        go_ret
        exact ⟨rb (by rw [HF.out, HV.out, HX.out, HZ.out]; exact (HTR.out HP.out).symm), (by apply Mem.below; (repeat' (first | with_reducible exact hM | with_reducible exact hMp | with_reducible apply Mem.drew | with_reducible apply Mem.drewN | with_reducible apply Mem.alloc | with_reducible apply Mem.set | with_reducible exact Sto.row | ((with_reducible refine Sto.rowEq2 ?_ ?_); omega; rfl) | ((with_reducible refine Sto.rowEq ?_); omega) | with_reducible apply Sto.int | with_reducible apply Sto.there | with_reducible assumption | (unfold I64; omega) | (with_reducible (have hMx := Mem.undrew hM; exact hMx)) | (with_reducible (have hMx := Mem.undrew hMp; exact hMx)))))⟩
    · obtain rfl : j = m := by omega
      have hany := HA.out
      rw [List.take_of_length_le (by rw [HML.out]; exact Nat.le_refl _)] at hany
      have HB := Lib.hid hany; clear hany
      go_wp2
      go_ret
      exact ⟨rb (by rw [HF.out, HV.out, HX.out, HZ.out, HB.out]; rfl), (by apply Mem.below; (repeat' (first | with_reducible exact hM | with_reducible exact hMp | with_reducible apply Mem.drew | with_reducible apply Mem.drewN | with_reducible apply Mem.alloc | with_reducible apply Mem.set | with_reducible exact Sto.row | ((with_reducible refine Sto.rowEq2 ?_ ?_); omega; rfl) | ((with_reducible refine Sto.rowEq ?_); omega) | with_reducible apply Sto.int | with_reducible apply Sto.there | with_reducible assumption | (unfold I64; omega) | (with_reducible (have hMx := Mem.undrew hM; exact hMx)) | (with_reducible (have hMx := Mem.undrew hMp; exact hMx)))))⟩
end Go.Proofs.Ytkohfegajcmdbaa
