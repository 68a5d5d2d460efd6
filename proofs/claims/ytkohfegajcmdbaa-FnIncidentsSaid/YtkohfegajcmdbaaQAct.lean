/-
  Actions of an incident.
-/
import Derived.Test.YtkohfegajcmdbaaQIncG
import Derived.Test.YtkohfegajcmdbaaQTickE
import Derived.Test.YtkohfegajcmdbaaQTickI
import Derived.Test.YtkohfegajcmdbaaQTickS
/-
  Actions of an incident.
-/
namespace Go.Proofs.Ytkohfegajcmdbaa
set_option linter.unusedSimpArgs false
set_option linter.unusedVariables false
open Go.RowKit

theorem pf1 {a b : Ent} {G : List Ent} : (a :: b :: G).Perm (b :: a :: G) := .swap _ _ _
theorem pf2 {a b c : Ent} {G : List Ent} : (a :: b :: c :: G).Perm (c :: a :: b :: G) := (pf1.cons a).trans (.swap _ _ _)
theorem pf3 {a b c d : Ent} {G : List Ent} : (a :: b :: c :: d :: G).Perm (d :: a :: b :: c :: G) := (pf2.cons a).trans (.swap _ _ _)
theorem pf4 {a b c d e : Ent} {G : List Ent} : (a :: b :: c :: d :: e :: G).Perm (e :: a :: b :: c :: d :: G) := (pf3.cons a).trans (.swap _ _ _)
/-- is an action valid -/
def actionB (n : Nat) (k cc : Int) : Bool := if k = 1 then cc == 0 else ((k == 2) || (k == 3)) && inB cc 0 ((n : Int) - 1)
/-- an action is made -/
def actI (n : Nat) (s : IncI) (k : Int) (c : Nat) : IncR :=
  if k = 1 then ⟨⟨s.W, s.H, s.xs, fireT s.W.toNat n s.xs s.fs s.ws, wetT n s.ws, s.t + 1⟩, decide (s.t < 9999)⟩
  else if k = 2 then ⟨⟨s.W, s.H, s.xs.set c 0, s.fs, s.ws, s.t⟩, (s.fs.getD c 0 == 0) && brn s.xs c⟩
  else ⟨⟨s.W, s.H, s.xs, s.fs, s.ws.set c 5, s.t⟩, decide (s.fs.getD c 0 ≤ 0) && decide (s.ws.getD c 0 < 5)⟩
theorem actionB_cases {n : Nat} {k cc : Int} (h : actionB n k cc = true) : (k = 1) ∨ ((k = 2 ∨ k = 3) ∧ ∃ m : Nat, cc = m ∧ m < n) := by
  unfold actionB at h
  by_cases h1 : k = 1
  · exact .inl h1
  · rw [if_neg h1, Bool.and_eq_true] at h
    have := inB_true h.2
    refine .inr ⟨by simpa using h.1, cc.toNat, by omega, by omega⟩

set_option maxRecDepth 100000 in
set_option maxHeartbeats 30000000 in
theorem isAction_any (W Hn : Nat) (a : Option Addr) (n c : Nat) (xs : List Int) (af : Option Addr) (cf : Nat) (fs : List Int) (aw : Option Addr) (cw : Nat) (ws : List Int) (t : Int) (k cc : Int) (w : World) (h : Ints w a n c xs) (hf : Ints w af n cf fs) (hw : Ints w aw n cw ws) (hn25 : n ≤ 25) :
    Calls Try.prog 88 #[.agg #[.int .i64 W, .int .i64 Hn, .slice a n c, .slice af n cf, .slice aw n cw, .int .i64 t], .agg #[.int .i64 k, .int .i64 cc]] w (fun e w' => e = .returned (.bool (actionB n k cc)) ∧ Below w.heap.size w w') := by
  have hM := Mem.start w
  obtain ⟨q, hq⟩ : ∃ q, inB cc 0 ((n : Int) - 1) = q := ⟨_, rfl⟩
  have HF := Lib.hid (show actionB n k cc = if k = 1 then cc == 0 else ((k == 2) || (k == 3)) && q by rw [actionB, hq])
  have HQ := Lib.hid hq
  clear hq
  by_cases h1 : k = 1
  · have he : (k == 1) = true := by simpa using h1
    have HF2 := Lib.hid (show actionB n k cc = (cc == 0) by rw [HF.out, if_pos h1])
    clear h1
    go_enter Try.func88, Try.ntmps88
    go_wp2
    go_ret
    exact ⟨rb HF2.out.symm, by (repeat' (first | exact Below.refl _ _ | with_reducible refine Below.setCell ?_ (by first | omega | (simp; done) | (simp; omega)) _ | with_reducible refine Below.alloc ?_ (by first | omega | (simp; done) | (simp; omega)) _ | with_reducible refine Below.drew ?_ | with_reducible refine bdrewN ?_ _))⟩
  have he : (k == 1) = false := by simpa using h1
  have HF2 := Lib.hid (show actionB n k cc = (((k == 2) || (k == 3)) && q) by rw [HF.out, if_neg h1])
  clear h1 HF
  cases h2 : (k == 2)
  · cases h3 : (k == 3)
    · have HF := Lib.hid (show actionB n k cc = false by rw [HF2.out, h2, h3]; rfl)
      go_enter Try.func88, Try.ntmps88
      go_wp2
      go_ret
      exact ⟨rb (by rw [HF.out]), by (repeat' (first | exact Below.refl _ _ | with_reducible refine Below.setCell ?_ (by first | omega | (simp; done) | (simp; omega)) _ | with_reducible refine Below.alloc ?_ (by first | omega | (simp; done) | (simp; omega)) _ | with_reducible refine Below.drew ?_ | with_reducible refine bdrewN ?_ _))⟩
    · have HF := Lib.hid (show actionB n k cc = q by rw [HF2.out, h2, h3]; rfl)
      go_enter Try.func88, Try.ntmps88
      go_wp2_with fail
      apply Mem.atA
      · (repeat' (first | with_reducible exact hM | with_reducible exact hMp | with_reducible apply Mem.drew | with_reducible apply Mem.drewN | with_reducible apply Mem.alloc | with_reducible apply Mem.set | with_reducible exact Sto.row | ((with_reducible refine Sto.rowEq2 ?_ ?_); omega; rfl) | ((with_reducible refine Sto.rowEq ?_); omega) | with_reducible apply Sto.int | with_reducible apply Sto.there | with_reducible assumption | (unfold I64; omega) | (with_reducible (have hMx := Mem.undrew hM; exact hMx)) | (with_reducible (have hMx := Mem.undrew hMp; exact hMx))))
      clear hM
      intro wst hM
      (try simp only [World.size_alloc, World.size_setCell, World.heap_drewN, heapDrew, Nat.add_assoc, Nat.reduceAdd, List.setIfInBounds_toArray, List.set_cons_zero, List.set_cons_succ, List.cons_append, List.nil_append] at hM)
      apply Calls.mono
      · (apply isCell_any W Hn a n c cc) <;> (first | (show (_ : Prop); with_reducible assumption) | (apply Hid.out; with_reducible assumption) | (apply Mem.intsR hM; (repeat' (first | with_reducible exact In.here | with_reducible apply In.there)); done) | (apply Ints.ext (hb := hM.below); with_reducible assumption) | (apply Rd.ext (hb := hM.below); with_reducible assumption) | (apply Mem.row hM; (repeat' (first | with_reducible exact In.here | with_reducible apply In.there)); done) | (apply Row.ext (hb := hM.below); with_reducible assumption) | exact ⟨by omega, by omega⟩ | omega | (trace_state; fail))
      rw [HQ.out]
      rintro e wc1 ⟨rfl, hb⟩
      replace hM := hM.ext hb
      clear hb
      go_wp2
      go_ret
      exact ⟨rb (by rw [HF.out]), (by apply Mem.below; (repeat' (first | with_reducible exact hM | with_reducible exact hMp | with_reducible apply Mem.drew | with_reducible apply Mem.drewN | with_reducible apply Mem.alloc | with_reducible apply Mem.set | with_reducible exact Sto.row | ((with_reducible refine Sto.rowEq2 ?_ ?_); omega; rfl) | ((with_reducible refine Sto.rowEq ?_); omega) | with_reducible apply Sto.int | with_reducible apply Sto.there | with_reducible assumption | (unfold I64; omega) | (with_reducible (have hMx := Mem.undrew hM; exact hMx)) | (with_reducible (have hMx := Mem.undrew hMp; exact hMx)))))⟩
  · have HF := Lib.hid (show actionB n k cc = q by rw [HF2.out, h2]; rfl)
    go_enter Try.func88, Try.ntmps88
    go_wp2_with fail
    apply Mem.atA
    · (repeat' (first | with_reducible exact hM | with_reducible exact hMp | with_reducible apply Mem.drew | with_reducible apply Mem.drewN | with_reducible apply Mem.alloc | with_reducible apply Mem.set | with_reducible exact Sto.row | ((with_reducible refine Sto.rowEq2 ?_ ?_); omega; rfl) | ((with_reducible refine Sto.rowEq ?_); omega) | with_reducible apply Sto.int | with_reducible apply Sto.there | with_reducible assumption | (unfold I64; omega) | (with_reducible (have hMx := Mem.undrew hM; exact hMx)) | (with_reducible (have hMx := Mem.undrew hMp; exact hMx))))
    clear hM
    intro wst hM
    (try simp only [World.size_alloc, World.size_setCell, World.heap_drewN, heapDrew, Nat.add_assoc, Nat.reduceAdd, List.setIfInBounds_toArray, List.set_cons_zero, List.set_cons_succ, List.cons_append, List.nil_append] at hM)
    apply Calls.mono
    · (apply isCell_any W Hn a n c cc) <;> (first | (show (_ : Prop); with_reducible assumption) | (apply Hid.out; with_reducible assumption) | (apply Mem.intsR hM; (repeat' (first | with_reducible exact In.here | with_reducible apply In.there)); done) | (apply Ints.ext (hb := hM.below); with_reducible assumption) | (apply Rd.ext (hb := hM.below); with_reducible assumption) | (apply Mem.row hM; (repeat' (first | with_reducible exact In.here | with_reducible apply In.there)); done) | (apply Row.ext (hb := hM.below); with_reducible assumption) | exact ⟨by omega, by omega⟩ | omega | (trace_state; fail))
    rw [HQ.out]
    rintro e wc2 ⟨rfl, hb⟩
    replace hM := hM.ext hb
    clear hb
    go_wp2
    go_ret
    exact ⟨rb (by rw [HF.out]), (by apply Mem.below; (repeat' (first | with_reducible exact hM | with_reducible exact hMp | with_reducible apply Mem.drew | with_reducible apply Mem.drewN | with_reducible apply Mem.alloc | with_reducible apply Mem.set | with_reducible exact Sto.row | ((with_reducible refine Sto.rowEq2 ?_ ?_); omega; rfl) | ((with_reducible refine Sto.rowEq ?_); omega) | with_reducible apply Sto.int | with_reducible apply Sto.there | with_reducible assumption | (unfold I64; omega) | (with_reducible (have hMx := Mem.undrew hM; exact hMx)) | (with_reducible (have hMx := Mem.undrew hMp; exact hMx)))))⟩

set_option maxRecDepth 100000 in
set_option maxHeartbeats 30000000 in
theorem l21Action_any (W Hn : Nat) (a : Option Addr) (n c : Nat) (xs : List Int) (af : Option Addr) (cf : Nat) (fs : List Int) (aw : Option Addr) (cw : Nat) (ws : List Int) (t : Int) (k cc : Int) (w : World) (h : Ints w a n c xs) (hf : Ints w af n cf fs) (hw : Ints w aw n cw ws) (hn25 : n ≤ 25) :
    Calls Try.prog 96 #[.agg #[.int .i64 W, .int .i64 Hn, .slice a n c, .slice af n cf, .slice aw n cw, .int .i64 t], .agg #[.int .i64 k, .int .i64 cc]] w (fun e w' => e = .returned (.bool (actionB n k cc)) ∧ Below w.heap.size w w') := by
  have hM := Mem.start w
  have hwn : IntKind.i64.wrap ((n : Int) - 1) = (n : Int) - 1 := wrap_in (by omega)
  obtain ⟨q, hq⟩ : ∃ q, inB cc 0 ((n : Int) - 1) = q := ⟨_, rfl⟩
  have HF := Lib.hid (show actionB n k cc = if k = 1 then cc == 0 else ((k == 2) || (k == 3)) && q by rw [actionB, hq])
  have HQ := Lib.hid hq
  clear hq
  by_cases h1 : k = 1
  · have he : (k == 1) = true := by simpa using h1
    have HF2 := Lib.hid (show actionB n k cc = (cc == 0) by rw [HF.out, if_pos h1])
    clear h1
    go_enter Try.func96, Try.ntmps96
    go_wp2
    go_ret
    exact ⟨rb HF2.out.symm, by (repeat' (first | exact Below.refl _ _ | with_reducible refine Below.setCell ?_ (by first | omega | (simp; done) | (simp; omega)) _ | with_reducible refine Below.alloc ?_ (by first | omega | (simp; done) | (simp; omega)) _ | with_reducible refine Below.drew ?_ | with_reducible refine bdrewN ?_ _))⟩
  have he : (k == 1) = false := by simpa using h1
  have hk23 : inB k 2 3 = ((k == 2) || (k == 3)) := by
    unfold inB
    rw [Bool.eq_iff_iff]
    simp only [decide_eq_true_eq, Bool.or_eq_true, beq_iff_eq]
    omega
  obtain ⟨x, hx⟩ : ∃ x, ((k == 2) || (k == 3)) = x := ⟨_, rfl⟩
  rw [hx] at hk23
  have HK := Lib.hid hk23
  have HF2 := Lib.hid (show actionB n k cc = (x && q) by rw [HF.out, if_neg h1, hx])
  clear h1 HF hx hk23
  go_enter Try.func96, Try.ntmps96
  go_wp2_with fail
  apply Mem.atA
  · (repeat' (first | with_reducible exact hM | with_reducible exact hMp | with_reducible apply Mem.drew | with_reducible apply Mem.drewN | with_reducible apply Mem.alloc | with_reducible apply Mem.set | with_reducible exact Sto.row | ((with_reducible refine Sto.rowEq2 ?_ ?_); omega; rfl) | ((with_reducible refine Sto.rowEq ?_); omega) | with_reducible apply Sto.int | with_reducible apply Sto.there | with_reducible assumption | (unfold I64; omega) | (with_reducible (have hMx := Mem.undrew hM; exact hMx)) | (with_reducible (have hMx := Mem.undrew hMp; exact hMx))))
  clear hM
  intro wst hM
  (try simp only [World.size_alloc, World.size_setCell, World.heap_drewN, heapDrew, Nat.add_assoc, Nat.reduceAdd, List.setIfInBounds_toArray, List.set_cons_zero, List.set_cons_succ, List.cons_append, List.nil_append] at hM)
  apply Calls.mono
  · (apply l1In_any) <;> (first | (show (_ : Prop); with_reducible assumption) | (apply Hid.out; with_reducible assumption) | (apply Mem.intsR hM; (repeat' (first | with_reducible exact In.here | with_reducible apply In.there)); done) | (apply Ints.ext (hb := hM.below); with_reducible assumption) | (apply Rd.ext (hb := hM.below); with_reducible assumption) | (apply Mem.row hM; (repeat' (first | with_reducible exact In.here | with_reducible apply In.there)); done) | (apply Row.ext (hb := hM.below); with_reducible assumption) | exact ⟨by omega, by omega⟩ | omega | (trace_state; fail))
  rw [HK.out]
  rintro e wc3 ⟨rfl, rfl⟩
  obtain ⟨k0, f0, l0⟩ := hM.row .here
  obtain ⟨k1, f1, l1⟩ := hM.row (.there .here)
  cases x
  · go_wp2
    go_ret
    exact ⟨rb (by rw [HF2.out]; rfl), (by apply Mem.below; (repeat' (first | with_reducible exact hM | with_reducible exact hMp | with_reducible apply Mem.drew | with_reducible apply Mem.drewN | with_reducible apply Mem.alloc | with_reducible apply Mem.set | with_reducible exact Sto.row | ((with_reducible refine Sto.rowEq2 ?_ ?_); omega; rfl) | ((with_reducible refine Sto.rowEq ?_); omega) | with_reducible apply Sto.int | with_reducible apply Sto.there | with_reducible assumption | (unfold I64; omega) | (with_reducible (have hMx := Mem.undrew hM; exact hMx)) | (with_reducible (have hMx := Mem.undrew hMp; exact hMx)))))⟩
  go_wp2_with fail
  apply Calls.mono
  · (apply l1In_any) <;> (first | (show (_ : Prop); with_reducible assumption) | (apply Hid.out; with_reducible assumption) | (apply Mem.intsR hM; (repeat' (first | with_reducible exact In.here | with_reducible apply In.there)); done) | (apply Ints.ext (hb := hM.below); with_reducible assumption) | (apply Rd.ext (hb := hM.below); with_reducible assumption) | (apply Mem.row hM; (repeat' (first | with_reducible exact In.here | with_reducible apply In.there)); done) | (apply Row.ext (hb := hM.below); with_reducible assumption) | exact ⟨by omega, by omega⟩ | omega | (trace_state; fail))
  rw [HQ.out]
  rintro e wc4 ⟨rfl, rfl⟩
  go_wp2
  go_ret
  exact ⟨rb (by rw [HF2.out]; rfl), (by apply Mem.below; (repeat' (first | with_reducible exact hM | with_reducible exact hMp | with_reducible apply Mem.drew | with_reducible apply Mem.drewN | with_reducible apply Mem.alloc | with_reducible apply Mem.set | with_reducible exact Sto.row | ((with_reducible refine Sto.rowEq2 ?_ ?_); omega; rfl) | ((with_reducible refine Sto.rowEq ?_); omega) | with_reducible apply Sto.int | with_reducible apply Sto.there | with_reducible assumption | (unfold I64; omega) | (with_reducible (have hMx := Mem.undrew hM; exact hMx)) | (with_reducible (have hMx := Mem.undrew hMp; exact hMx)))))⟩

set_option maxRecDepth 100000 in
set_option maxHeartbeats 30000000 in
theorem act1_any (W Hn : Nat) (a : Option Addr) (n c : Nat) (xs : List Int) (af : Option Addr) (cf : Nat) (fs : List Int) (aw : Option Addr) (cw : Nat) (ws : List Int) (t : Int) (cc : Int) (w : World) (h : Ints w a n c xs) (hf : Ints w af n cf fs) (hw : Ints w aw n cw ws) (hnp : 0 < n) (hn25 : n ≤ 25) (hW : 1 ≤ W ∧ W ≤ 5) (ht : -1 ≤ t ∧ t ≤ 2000000) (hxs : ∀ x ∈ xs, 0 ≤ x) (hws : ∀ x ∈ ws, 0 ≤ x) :
    Calls Try.prog 89 #[.agg #[.int .i64 W, .int .i64 Hn, .slice a n c, .slice af n cf, .slice aw n cw, .int .i64 t], .agg #[.int .i64 1, .int .i64 cc]] w ((IncRes w (actI n ⟨W, Hn, xs, fs, ws, t⟩ 1 cc.toNat))) := by
  have hM := Mem.start w
  have HXS := Lib.hid hxs; have HWS := Lib.hid hws
  clear hxs hws
  have HF := Lib.hid (show actI n ⟨W, Hn, xs, fs, ws, t⟩ 1 cc.toNat = ⟨⟨W, Hn, xs, fireT W n xs fs ws, wetT n ws, t + 1⟩, decide (t < 9999)⟩ from rfl)
  go_enter Try.func89, Try.ntmps89
  go_wp2_with fail
  apply Mem.atA
  · (repeat' (first | with_reducible exact hM | with_reducible exact hMp | with_reducible apply Mem.drew | with_reducible apply Mem.drewN | with_reducible apply Mem.alloc | with_reducible apply Mem.set | with_reducible exact Sto.row | ((with_reducible refine Sto.rowEq2 ?_ ?_); omega; rfl) | ((with_reducible refine Sto.rowEq ?_); omega) | with_reducible apply Sto.int | with_reducible apply Sto.there | with_reducible assumption | (unfold I64; omega) | (with_reducible (have hMx := Mem.undrew hM; exact hMx)) | (with_reducible (have hMx := Mem.undrew hMp; exact hMx))))
  clear hM
  intro wst hM
  (try simp only [World.size_alloc, World.size_setCell, World.heap_drewN, heapDrew, Nat.add_assoc, Nat.reduceAdd, List.setIfInBounds_toArray, List.set_cons_zero, List.set_cons_succ, List.cons_append, List.nil_append] at hM)
  apply Calls.mono
  · (apply copiedInc_any W Hn a n c xs af cf fs aw cw ws t) <;> (first | (show (_ : Prop); with_reducible assumption) | (apply Hid.out; with_reducible assumption) | (apply Mem.intsR hM; (repeat' (first | with_reducible exact In.here | with_reducible apply In.there)); done) | (apply Ints.ext (hb := hM.below); with_reducible assumption) | (apply Rd.ext (hb := hM.below); with_reducible assumption) | (apply Mem.row hM; (repeat' (first | with_reducible exact In.here | with_reducible apply In.there)); done) | (apply Row.ext (hb := hM.below); with_reducible assumption) | exact ⟨by omega, by omega⟩ | omega | (trace_state; fail))
  rintro e wq ⟨b1, d1, b2, d2, b3, d3, rfl, hm⟩
  replace hM := hM.join hm
  clear hm
  (try simp only [World.size_alloc, World.size_setCell, World.heap_drewN, heapDrew, Nat.add_assoc, Nat.reduceAdd, List.setIfInBounds_toArray, List.set_cons_zero, List.set_cons_succ, List.cons_append, List.nil_append] at hM)
  rw [show w.heap.size + 1 + 1 = w.heap.size + 2 from rfl]
  generalize w.heap.size + 2 = q2 at hM ⊢
  generalize w.heap.size + 1 = q1 at hM ⊢
  obtain ⟨k4, f4, l4⟩ := hM.row (.there (.there (.there (.there .here))))
  obtain ⟨k5, f5, l5⟩ := hM.row (.there (.there (.there (.there (.there .here)))))
  go_wp2_with fail
  clear k4 f4 l4 k5 f5 l5
  apply Mem.atWpA
  · (repeat' (first | with_reducible exact hM | with_reducible exact hMp | with_reducible apply Mem.drew | with_reducible apply Mem.drewN | with_reducible apply Mem.alloc | with_reducible apply Mem.set | with_reducible exact Sto.row | ((with_reducible refine Sto.rowEq2 ?_ ?_); omega; rfl) | ((with_reducible refine Sto.rowEq ?_); omega) | with_reducible apply Sto.int | with_reducible apply Sto.there | with_reducible assumption | (unfold I64; omega) | (with_reducible (have hMx := Mem.undrew hM; exact hMx)) | (with_reducible (have hMx := Mem.undrew hMp; exact hMx))))
  clear hM
  intro wst hM
  (try simp only [World.size_alloc, World.size_setCell, World.heap_drewN, heapDrew, Nat.add_assoc, Nat.reduceAdd, List.setIfInBounds_toArray, List.set_cons_zero, List.set_cons_succ, List.cons_append, List.nil_append] at hM)
  replace hM := hM.perm pf4
  refine AtT.startA hM.tail hM 6 (by kernel_rfl) ?_
  clear hM
  intro wd hM
  have hS := hM.tail
  refine AtT.taked (i := 0) (v := ?_) (some 13) rfl rfl (by kernel_rfl) (by kernel_rfl) (by kernel_rfl) (by kernel_rfl) (fun _ _ _ h => h) (Or.inl ⟨by kernel_rfl, ?_⟩) hS ?_
  rotate_left
  · (intro wS hSw; (try dsimp only at hSw); have kr0 := (Mem.row hSw .here).cell; have kr2 := (Mem.row hSw (.there (.there (.there (.there .here))))).cell; have kr3 := (Mem.row hSw (.there (.there (.there (.there (.there .here)))))).cell; go_simp; (try rw [if_neg (by omega)]); try with_reducible rfl)
  simp only [Act.put, List.setIfInBounds_toArray, List.set_cons_zero, List.set_cons_succ]
  refine AtT.taked (i := 2) (v := ?_) (some 15) rfl rfl (by kernel_rfl) (by kernel_rfl) (by kernel_rfl) (by kernel_rfl) (fun _ _ _ h => h) (Or.inl ⟨by kernel_rfl, ?_⟩) hS ?_
  rotate_left
  · (intro wS hSw; (try dsimp only at hSw); go_simp; (try rw [if_neg (by omega)]); try with_reducible rfl)
  simp only [Act.put, List.setIfInBounds_toArray, List.set_cons_zero, List.set_cons_succ]
  refine AtT.taked (i := 3) (v := ?_) (some 16) rfl rfl (by kernel_rfl) (by kernel_rfl) (by kernel_rfl) (by kernel_rfl) (fun _ _ _ h => h) (Or.inl ⟨by kernel_rfl, ?_⟩) hS ?_
  rotate_left
  · (intro wS hSw; (try dsimp only at hSw); have kr0 := (Mem.row hSw .here).cell; have kr2 := (Mem.row hSw (.there (.there (.there (.there .here))))).cell; have kr3 := (Mem.row hSw (.there (.there (.there (.there (.there .here)))))).cell; go_simp; (try rw [if_neg (by omega)]); try with_reducible rfl)
  simp only [Act.put, List.setIfInBounds_toArray, List.set_cons_zero, List.set_cons_succ]
  refine AtT.taked (i := 4) (v := ?_) (some 17) rfl rfl (by kernel_rfl) (by kernel_rfl) (by kernel_rfl) (by kernel_rfl) (fun _ _ _ h => h) (Or.inl ⟨by kernel_rfl, ?_⟩) hS ?_
  rotate_left
  · (intro wS hSw; (try dsimp only at hSw); go_simp; (try rw [if_neg (by omega)]); try with_reducible rfl)
  simp only [Act.put, List.setIfInBounds_toArray, List.set_cons_zero, List.set_cons_succ]
  refine AtT.only (i := 1) (by kernel_rfl) rfl rfl ?_
  intro K hK
  go_simp
  apply Calls.mono
  · (apply tick_any W Hn a n c xs af cf fs aw cw ws t) <;> (first | (show (_ : Prop); with_reducible assumption) | (apply Hid.out; with_reducible assumption) | (apply Mem.intsR hM; (repeat' (first | with_reducible exact In.here | with_reducible apply In.there)); done) | (apply Ints.ext (hb := hM.below); with_reducible assumption) | (apply Rd.ext (hb := hM.below); with_reducible assumption) | (apply Mem.row hM; (repeat' (first | with_reducible exact In.here | with_reducible apply In.there)); done) | (apply Row.ext (hb := hM.below); with_reducible assumption) | exact ⟨by omega, by omega⟩ | omega | (trace_state; fail))
  rintro e w3 ⟨b4, d4, b5, d5, b6, d6, rfl, hm⟩
  replace hM := hM.join hm
  clear hm
  (try simp only [World.size_alloc, World.size_setCell, World.heap_drewN, heapDrew, Nat.add_assoc, Nat.reduceAdd, List.setIfInBounds_toArray, List.set_cons_zero, List.set_cons_succ, List.cons_append, List.nil_append] at hM)
  try dsimp only
  refine hK.out _ _ (hM.tail.tail.tail.tail) ?_
  clear hK K hS
  have hS := hM.tail.tail.tail.tail
  refine AtT.only (i := 5) (by kernel_rfl) rfl rfl ?_
  intro K hK
  have kk3 := (hM.row (.there (.there (.there .here)))).cell
  have ff3 := (hM.row (.there (.there (.there .here)))).free
  have ll3 := (hM.row (.there (.there (.there .here)))).lt
  have kk4 := (hM.row (.there (.there (.there (.there .here))))).cell
  have ff4 := (hM.row (.there (.there (.there (.there .here))))).free
  have ll4 := (hM.row (.there (.there (.there (.there .here))))).lt
  have kk8 := (hM.row (.there (.there (.there (.there (.there (.there (.there (.there .here))))))))).cell
  have ff8 := (hM.row (.there (.there (.there (.there (.there (.there (.there (.there .here))))))))).free
  have ll8 := (hM.row (.there (.there (.there (.there (.there (.there (.there (.there .here))))))))).lt
  have kk9 := (hM.row (.there (.there (.there (.there (.there (.there (.there (.there (.there .here)))))))))).cell
  have ff9 := (hM.row (.there (.there (.there (.there (.there (.there (.there (.there (.there .here)))))))))).free
  have ll9 := (hM.row (.there (.there (.there (.there (.there (.there (.there (.there (.there .here)))))))))).lt
  go_simp
  clear kk3 ff3 ll3 kk4 ff4 ll4 kk8 ff8 ll8 kk9 ff9 ll9
  refine hK.out _ _ (by apply Mem.tail; apply Mem.tail; apply Mem.tail; apply Mem.tail; (repeat' (first | with_reducible exact hM | with_reducible exact hMp | with_reducible apply Mem.drew | with_reducible apply Mem.drewN | with_reducible apply Mem.alloc | with_reducible apply Mem.set | with_reducible exact Sto.row | ((with_reducible refine Sto.rowEq2 ?_ ?_); omega; rfl) | ((with_reducible refine Sto.rowEq ?_); omega) | with_reducible apply Sto.int | with_reducible apply Sto.there | with_reducible assumption | (unfold I64; omega) | (with_reducible (have hMx := Mem.undrew hM; exact hMx)) | (with_reducible (have hMx := Mem.undrew hMp; exact hMx))))) ?_
  clear hK K hS
  apply Mem.atT
  · (repeat' (first | with_reducible exact hM | with_reducible exact hMp | with_reducible apply Mem.drew | with_reducible apply Mem.drewN | with_reducible apply Mem.alloc | with_reducible apply Mem.set | with_reducible exact Sto.row | ((with_reducible refine Sto.rowEq2 ?_ ?_); omega; rfl) | ((with_reducible refine Sto.rowEq ?_); omega) | with_reducible apply Sto.int | with_reducible apply Sto.there | with_reducible assumption | (unfold I64; omega) | (with_reducible (have hMx := Mem.undrew hM; exact hMx)) | (with_reducible (have hMx := Mem.undrew hMp; exact hMx))))
  clear hM
  intro hM
  (try simp only [World.size_alloc, World.size_setCell, World.heap_drewN, heapDrew, Nat.add_assoc, Nat.reduceAdd, List.setIfInBounds_toArray, List.set_cons_zero, List.set_cons_succ, List.cons_append, List.nil_append] at hM)
  have hS := hM.tail.tail.tail.tail
  refine AtT.last (by kernel_rfl) rfl (by kernel_rfl) ?_
  intro K hK
  clear hS
  go_simp
  refine hK.out _ _ ?_
  clear hK K
  obtain ⟨k3, f3, l3⟩ := hM.row (.there (.there (.there .here)))
  go_wp2
  rw [HF.out]
  refine bodyPost_ret (v := .tuple #[.agg #[.int .i64 W, .int .i64 Hn, .slice b4 n d4, .slice b5 n d5, .slice b6 n d6, .int .i64 (t + 1)], .bool (decide (t < 9999))]) (by simp [results, Try.results89, go_sem, k3]) rfl ⟨b4, n, d4, b5, n, d5, b6, n, d6, rfl, ?_⟩
  apply Mem.pick (is := [0, 1, 2])
  · (repeat' (first | with_reducible exact hM | with_reducible exact hMp | with_reducible apply Mem.drew | with_reducible apply Mem.drewN | with_reducible apply Mem.alloc | with_reducible apply Mem.set | with_reducible exact Sto.row | ((with_reducible refine Sto.rowEq2 ?_ ?_); omega; rfl) | ((with_reducible refine Sto.rowEq ?_); omega) | with_reducible apply Sto.int | with_reducible apply Sto.there | with_reducible assumption | (unfold I64; omega) | (with_reducible (have hMx := Mem.undrew hM; exact hMx)) | (with_reducible (have hMx := Mem.undrew hMp; exact hMx))))
  · decide
  · rfl

set_option maxRecDepth 100000 in
set_option maxHeartbeats 30000000 in
theorem act2_any (W Hn : Nat) (a : Option Addr) (n c : Nat) (xs : List Int) (af : Option Addr) (cf : Nat) (fs : List Int) (aw : Option Addr) (cw : Nat) (ws : List Int) (t : Int) (m : Nat) (w : World) (h : Ints w a n c xs) (hf : Ints w af n cf fs) (hw : Ints w aw n cw ws) (hnp : 0 < n) (hn25 : n ≤ 25) (hW : 1 ≤ W ∧ W ≤ 5) (ht : -1 ≤ t ∧ t ≤ 2000000) (hxs : ∀ x ∈ xs, 0 ≤ x) (hws : ∀ x ∈ ws, 0 ≤ x) (hmn : m < n) :
    Calls Try.prog 89 #[.agg #[.int .i64 W, .int .i64 Hn, .slice a n c, .slice af n cf, .slice aw n cw, .int .i64 t], .agg #[.int .i64 2, .int .i64 (m : Int)]] w ((IncRes w (actI n ⟨W, Hn, xs, fs, ws, t⟩ 2 m))) := by
  have hM := Mem.start w
  have HXS := Lib.hid hxs; have HWS := Lib.hid hws
  clear hxs hws
  obtain ⟨bx, offx, rfl, -, -⟩ := hf.at' _ hmn
  obtain ⟨x, hx⟩ : ∃ x, fs.getD m 0 = x := ⟨_, rfl⟩
  have HX := Lib.hid hx
  have HL := Lib.hid h.len
  have i0 : (0 : Int) ≤ (m : Int) := by omega
  have i1 : (m : Int) < (n : Int) := by omega
  obtain ⟨y, hy⟩ : ∃ y, brn xs m = y := ⟨_, rfl⟩
  have HY := Lib.hid hy
  have HF := Lib.hid (show actI n ⟨W, Hn, xs, fs, ws, t⟩ 2 m = ⟨⟨W, Hn, xs.set m 0, fs, ws, t⟩, (x == 0) && y⟩ by
    unfold actI
    rw [if_neg (by decide), if_pos rfl, hx, hy])
  clear hx hy
  obtain ⟨ba, offa, rfl, -, -⟩ := h.at' _ hmn
  obtain ⟨v, hv⟩ : ∃ v, xs.getD m 0 = v := ⟨_, rfl⟩
  have HV := Lib.hid hv
  obtain rfl : decide (0 < v) = y := by rw [← HY.out, brn, hv]
  clear hv
  go_enter Try.func89, Try.ntmps89
  go_wp2_with fail
  apply Mem.atA
  · (repeat' (first | with_reducible exact hM | with_reducible exact hMp | with_reducible apply Mem.drew | with_reducible apply Mem.drewN | with_reducible apply Mem.alloc | with_reducible apply Mem.set | with_reducible exact Sto.row | ((with_reducible refine Sto.rowEq2 ?_ ?_); omega; rfl) | ((with_reducible refine Sto.rowEq ?_); omega) | with_reducible apply Sto.int | with_reducible apply Sto.there | with_reducible assumption | (unfold I64; omega) | (with_reducible (have hMx := Mem.undrew hM; exact hMx)) | (with_reducible (have hMx := Mem.undrew hMp; exact hMx))))
  clear hM
  intro wst hM
  (try simp only [World.size_alloc, World.size_setCell, World.heap_drewN, heapDrew, Nat.add_assoc, Nat.reduceAdd, List.setIfInBounds_toArray, List.set_cons_zero, List.set_cons_succ, List.cons_append, List.nil_append] at hM)
  apply Calls.mono
  · (apply copiedInc_any W Hn _ n c xs _ cf fs aw cw ws t) <;> (first | (show (_ : Prop); with_reducible assumption) | (apply Hid.out; with_reducible assumption) | (apply Mem.intsR hM; (repeat' (first | with_reducible exact In.here | with_reducible apply In.there)); done) | (apply Ints.ext (hb := hM.below); with_reducible assumption) | (apply Rd.ext (hb := hM.below); with_reducible assumption) | (apply Mem.row hM; (repeat' (first | with_reducible exact In.here | with_reducible apply In.there)); done) | (apply Row.ext (hb := hM.below); with_reducible assumption) | exact ⟨by omega, by omega⟩ | omega | (trace_state; fail))
  rintro e wq ⟨b1, d1, b2, d2, b3, d3, rfl, hm⟩
  replace hM := hM.join hm
  clear hm
  (try simp only [World.size_alloc, World.size_setCell, World.heap_drewN, heapDrew, Nat.add_assoc, Nat.reduceAdd, List.setIfInBounds_toArray, List.set_cons_zero, List.set_cons_succ, List.cons_append, List.nil_append] at hM)
  rw [show w.heap.size + 1 + 1 = w.heap.size + 2 from rfl]
  generalize w.heap.size + 2 = q2 at hM ⊢
  generalize w.heap.size + 1 = q1 at hM ⊢
  obtain ⟨g1, rfl, -⟩ := (hM.ints .here).head hnp
  go_upto_region 2 with fail
  apply Mem.atWpA
  · (repeat' (first | with_reducible exact hM | with_reducible exact hMp | with_reducible apply Mem.drew | with_reducible apply Mem.drewN | with_reducible apply Mem.alloc | with_reducible apply Mem.set | with_reducible exact Sto.row | ((with_reducible refine Sto.rowEq2 ?_ ?_); omega; rfl) | ((with_reducible refine Sto.rowEq ?_); omega) | with_reducible apply Sto.int | with_reducible apply Sto.there | with_reducible assumption | (unfold I64; omega) | (with_reducible (have hMx := Mem.undrew hM; exact hMx)) | (with_reducible (have hMx := Mem.undrew hMp; exact hMx))))
  clear hM
  intro wst hM
  (try simp only [World.size_alloc, World.size_setCell, World.heap_drewN, heapDrew, Nat.add_assoc, Nat.reduceAdd, List.setIfInBounds_toArray, List.set_cons_zero, List.set_cons_succ, List.cons_append, List.nil_append] at hM)
  have hfk := (hM.ints (.there .here)).freeAt m
  have hdk := (hM.ints (.there .here)).cellAt hmn
  obtain ⟨k0, f0, l0⟩ := hM.row .here
  obtain ⟨k5, f5, l5⟩ := hM.row (.there (.there (.there (.there (.there .here)))))
  go_wp2_with fail
  clear k0 f0 l0 k5 f5 l5
  apply Mem.atWpA
  · (repeat' (first | with_reducible exact hM | with_reducible exact hMp | with_reducible apply Mem.drew | with_reducible apply Mem.drewN | with_reducible apply Mem.alloc | with_reducible apply Mem.set | with_reducible exact Sto.row | ((with_reducible refine Sto.rowEq2 ?_ ?_); omega; rfl) | ((with_reducible refine Sto.rowEq ?_); omega) | with_reducible apply Sto.int | with_reducible apply Sto.there | with_reducible assumption | (unfold I64; omega) | (with_reducible (have hMx := Mem.undrew hM; exact hMx)) | (with_reducible (have hMx := Mem.undrew hMp; exact hMx))))
  clear hM
  intro wst hM
  (try simp only [World.size_alloc, World.size_setCell, World.heap_drewN, heapDrew, Nat.add_assoc, Nat.reduceAdd, List.setIfInBounds_toArray, List.set_cons_zero, List.set_cons_succ, List.cons_append, List.nil_append] at hM)
  clear hfk hdk
  replace hM := hM.perm pf4
  cases hx0 : (x == 0)
  · skip
    refine AtT.startA hM.tail hM 16 (by kernel_rfl) ?_
    clear hM
    intro wd hM
    have hS := hM.tail
    refine AtT.taked (i := 0) (v := ?_) (some 26) rfl rfl (by kernel_rfl) (by kernel_rfl) (by kernel_rfl) (by kernel_rfl) (fun _ _ _ h => h) (Or.inl ⟨by kernel_rfl, ?_⟩) hS ?_
    rotate_left
    · (intro wS hSw; (try dsimp only at hSw); have kr0 := (Mem.row hSw .here).cell; have kr2 := (Mem.row hSw (.there (.there (.there (.there .here))))).cell; have kr3 := (Mem.row hSw (.there (.there (.there (.there (.there .here)))))).cell; have hcx := (hf.ext hSw.below).get hmn; rw [HX.out] at hcx; go_simp; (try rw [if_neg (by omega)]); try with_reducible rfl)
    simp only [Act.put, List.setIfInBounds_toArray, List.set_cons_zero, List.set_cons_succ]
    refine AtT.taked (i := 1) (v := ?_) (some 27) rfl rfl (by kernel_rfl) (by kernel_rfl) (by kernel_rfl) (by kernel_rfl) (fun _ _ _ h => h) (Or.inl ⟨by kernel_rfl, ?_⟩) hS ?_
    rotate_left
    · (intro wS hSw; (try dsimp only at hSw); go_simp; (try rw [if_neg (by omega)]); try with_reducible rfl)
    simp only [Act.put, List.setIfInBounds_toArray, List.set_cons_zero, List.set_cons_succ]
    refine AtT.taked (i := 2) (v := ?_) (some 28) rfl rfl (by kernel_rfl) (by kernel_rfl) (by kernel_rfl) (by kernel_rfl) (fun _ _ _ h => h) (Or.inl ⟨by kernel_rfl, ?_⟩) hS ?_
    rotate_left
    · (intro wS hSw; (try dsimp only at hSw); have kr0 := (Mem.row hSw .here).cell; have kr2 := (Mem.row hSw (.there (.there (.there (.there .here))))).cell; have kr3 := (Mem.row hSw (.there (.there (.there (.there (.there .here)))))).cell; have hcx := (hf.ext hSw.below).get hmn; rw [HX.out] at hcx; go_simp; (try rw [if_neg (by omega)]); try with_reducible rfl)
    simp only [Act.put, List.setIfInBounds_toArray, List.set_cons_zero, List.set_cons_succ]
    refine AtT.taked (i := 3) (v := ?_) (some 29) rfl rfl (by kernel_rfl) (by kernel_rfl) (by kernel_rfl) (by kernel_rfl) (fun _ _ _ h => h) (Or.inl ⟨by kernel_rfl, ?_⟩) hS ?_
    rotate_left
    · (intro wS hSw; (try dsimp only at hSw); go_simp; (try rw [if_neg (by omega)]); try with_reducible rfl)
    simp only [Act.put, List.setIfInBounds_toArray, List.set_cons_zero, List.set_cons_succ]
    refine AtT.taked (i := 4) (v := ?_) (some 30) rfl rfl (by kernel_rfl) (by kernel_rfl) (by kernel_rfl) (by kernel_rfl) (fun _ _ _ h => h) (Or.inl ⟨by kernel_rfl, ?_⟩) hS ?_
    rotate_left
    · (intro wS hSw; (try dsimp only at hSw); have kr0 := (Mem.row hSw .here).cell; have kr2 := (Mem.row hSw (.there (.there (.there (.there .here))))).cell; have kr3 := (Mem.row hSw (.there (.there (.there (.there (.there .here)))))).cell; have hcx := (hf.ext hSw.below).get hmn; rw [HX.out] at hcx; go_simp; (try rw [if_neg (by omega)]); try with_reducible rfl)
    simp only [Act.put, List.setIfInBounds_toArray, List.set_cons_zero, List.set_cons_succ]
    refine AtT.taked (i := 5) (v := ?_) (some 31) rfl rfl (by kernel_rfl) (by kernel_rfl) (by kernel_rfl) (by kernel_rfl) (fun _ _ _ h => h) (Or.inl ⟨by kernel_rfl, ?_⟩) hS ?_
    rotate_left
    · (intro wS hSw; (try dsimp only at hSw); have kr0 := (Mem.row hSw .here).cell; have kr2 := (Mem.row hSw (.there (.there (.there (.there .here))))).cell; have kr3 := (Mem.row hSw (.there (.there (.there (.there (.there .here)))))).cell; have hcx := (hf.ext hSw.below).get hmn; rw [HX.out] at hcx; go_simp; (try rw [if_neg (by omega)]); try with_reducible rfl)
    simp only [Act.put, List.setIfInBounds_toArray, List.set_cons_zero, List.set_cons_succ]
    refine AtT.taked (i := 6) (v := ?_) (some 32) rfl rfl (by kernel_rfl) (by kernel_rfl) (by kernel_rfl) (by kernel_rfl) (fun _ _ _ h => h) (Or.inl ⟨by kernel_rfl, ?_⟩) hS ?_
    rotate_left
    · (intro wS hSw; (try dsimp only at hSw); have kr0 := (Mem.row hSw .here).cell; have kr2 := (Mem.row hSw (.there (.there (.there (.there .here))))).cell; have kr3 := (Mem.row hSw (.there (.there (.there (.there (.there .here)))))).cell; have hcx := (hf.ext hSw.below).get hmn; rw [HX.out] at hcx; go_simp; (try rw [if_neg (by omega)]); try with_reducible rfl)
    simp only [Act.put, List.setIfInBounds_toArray, List.set_cons_zero, List.set_cons_succ]
    refine AtT.taked (i := 7) (v := ?_) (some 33) rfl rfl (by kernel_rfl) (by kernel_rfl) (by kernel_rfl) (by kernel_rfl) (fun _ _ _ h => h) (Or.inl ⟨by kernel_rfl, ?_⟩) hS ?_
    rotate_left
    · (intro wS hSw; (try dsimp only at hSw); go_simp; (try rw [if_neg (by omega)]); try with_reducible rfl)
    simp only [Act.put, List.setIfInBounds_toArray, List.set_cons_zero, List.set_cons_succ]
    refine AtT.taked (i := 8) (v := ?_) (some 34) rfl rfl (by kernel_rfl) (by kernel_rfl) (by kernel_rfl) (by kernel_rfl) (fun _ _ _ h => h) (Or.inl ⟨by kernel_rfl, ?_⟩) hS ?_
    rotate_left
    · (intro wS hSw; (try dsimp only at hSw); go_simp; (try rw [if_neg (by omega)]); try with_reducible rfl)
    simp only [Act.put, List.setIfInBounds_toArray, List.set_cons_zero, List.set_cons_succ]
    refine AtT.taked (i := 9) (v := undef) (some 35) rfl rfl (by kernel_rfl) (by kernel_rfl) (by kernel_rfl) (by kernel_rfl) (fun _ _ _ h => h) (Or.inr ⟨by kernel_rfl, rfl⟩) hS ?_
    simp only [Act.put, List.setIfInBounds_toArray, List.set_cons_zero, List.set_cons_succ]
    refine AtT.taked (i := 10) (v := undef) (some 36) rfl rfl (by kernel_rfl) (by kernel_rfl) (by kernel_rfl) (by kernel_rfl) (fun _ _ _ h => h) (Or.inr ⟨by kernel_rfl, rfl⟩) hS ?_
    simp only [Act.put, List.setIfInBounds_toArray, List.set_cons_zero, List.set_cons_succ]
    refine AtT.taked (i := 11) (v := undef) (some 37) rfl rfl (by kernel_rfl) (by kernel_rfl) (by kernel_rfl) (by kernel_rfl) (fun _ _ _ h => h) (Or.inr ⟨by kernel_rfl, rfl⟩) hS ?_
    simp only [Act.put, List.setIfInBounds_toArray, List.set_cons_zero, List.set_cons_succ]
    refine AtT.taked (i := 12) (v := undef) (some 38) rfl rfl (by kernel_rfl) (by kernel_rfl) (by kernel_rfl) (by kernel_rfl) (fun _ _ _ h => h) (Or.inr ⟨by kernel_rfl, rfl⟩) hS ?_
    simp only [Act.put, List.setIfInBounds_toArray, List.set_cons_zero, List.set_cons_succ]
    refine AtT.taked (i := 13) (v := undef) (some 39) rfl rfl (by kernel_rfl) (by kernel_rfl) (by kernel_rfl) (by kernel_rfl) (fun _ _ _ h => h) (Or.inr ⟨by kernel_rfl, rfl⟩) hS ?_
    simp only [Act.put, List.setIfInBounds_toArray, List.set_cons_zero, List.set_cons_succ]
    refine AtT.taked (i := 14) (v := ?_) (some 40) rfl rfl (by kernel_rfl) (by kernel_rfl) (by kernel_rfl) (by kernel_rfl) (fun _ _ _ h => h) (Or.inl ⟨by kernel_rfl, ?_⟩) hS ?_
    rotate_left
    · (intro wS hSw; (try dsimp only at hSw); go_simp; (try rw [if_neg (by omega)]); try with_reducible rfl)
    simp only [Act.put, List.setIfInBounds_toArray, List.set_cons_zero, List.set_cons_succ]
    refine AtT.only (i := 15) (by kernel_rfl) rfl rfl ?_
    intro K hK
    have kk0 := (hM.row .here).cell
    have ff0 := (hM.row .here).free
    have ll0 := (hM.row .here).lt
    have kk1 := (hM.row (.there .here)).cell
    have ff1 := (hM.row (.there .here)).free
    have ll1 := (hM.row (.there .here)).lt
    have kk5 := (hM.row (.there (.there (.there (.there (.there .here)))))).cell
    have ff5 := (hM.row (.there (.there (.there (.there (.there .here)))))).free
    have ll5 := (hM.row (.there (.there (.there (.there (.there .here)))))).lt
    have kk6 := (hM.row (.there (.there (.there (.there (.there (.there .here))))))).cell
    have ff6 := (hM.row (.there (.there (.there (.there (.there (.there .here))))))).free
    have ll6 := (hM.row (.there (.there (.there (.there (.there (.there .here))))))).lt
    go_simp
    clear kk0 ff0 ll0 kk1 ff1 ll1 kk5 ff5 ll5 kk6 ff6 ll6
    refine hK.out _ _ (by apply Mem.tail; (repeat' (first | with_reducible exact hM | with_reducible exact hMp | with_reducible apply Mem.drew | with_reducible apply Mem.drewN | with_reducible apply Mem.alloc | with_reducible apply Mem.set | with_reducible exact Sto.row | ((with_reducible refine Sto.rowEq2 ?_ ?_); omega; rfl) | ((with_reducible refine Sto.rowEq ?_); omega) | with_reducible apply Sto.int | with_reducible apply Sto.there | with_reducible assumption | (unfold I64; omega) | (with_reducible (have hMx := Mem.undrew hM; exact hMx)) | (with_reducible (have hMx := Mem.undrew hMp; exact hMx))))) ?_
    clear hK K hS
    apply Mem.atT
    · (repeat' (first | with_reducible exact hM | with_reducible exact hMp | with_reducible apply Mem.drew | with_reducible apply Mem.drewN | with_reducible apply Mem.alloc | with_reducible apply Mem.set | with_reducible exact Sto.row | ((with_reducible refine Sto.rowEq2 ?_ ?_); omega; rfl) | ((with_reducible refine Sto.rowEq ?_); omega) | with_reducible apply Sto.int | with_reducible apply Sto.there | with_reducible assumption | (unfold I64; omega) | (with_reducible (have hMx := Mem.undrew hM; exact hMx)) | (with_reducible (have hMx := Mem.undrew hMp; exact hMx))))
    clear hM
    intro hM
    (try simp only [World.size_alloc, World.size_setCell, World.heap_drewN, heapDrew, Nat.add_assoc, Nat.reduceAdd, List.setIfInBounds_toArray, List.set_cons_zero, List.set_cons_succ, List.cons_append, List.nil_append] at hM)
    have hS := hM.tail
    refine AtT.last (by kernel_rfl) rfl (by kernel_rfl) ?_
    intro K hK
    clear hS
    go_simp
    refine hK.out _ _ ?_
    clear hK K
    obtain ⟨k0, f0, l0⟩ := hM.row .here
    go_wp2
    rw [HF.out, hx0]
    refine bodyPost_ret (v := .tuple #[.agg #[.int .i64 W, .int .i64 Hn, .slice (some ⟨g1, 0, none⟩) n d1, .slice b2 n d2, .slice b3 n d3, .int .i64 t], .bool false]) (by simp [results, Try.results89, go_sem, k0]) rfl ⟨some ⟨g1, 0, none⟩, n, d1, b2, n, d2, b3, n, d3, rfl, ?_⟩
    apply Mem.pick (is := [2, 3, 4])
    · (repeat' (first | with_reducible exact hM | with_reducible exact hMp | with_reducible apply Mem.drew | with_reducible apply Mem.drewN | with_reducible apply Mem.alloc | with_reducible apply Mem.set | with_reducible exact Sto.row | ((with_reducible refine Sto.rowEq2 ?_ ?_); omega; rfl) | ((with_reducible refine Sto.rowEq ?_); omega) | with_reducible apply Sto.int | with_reducible apply Sto.there | with_reducible assumption | (unfold I64; omega) | (with_reducible (have hMx := Mem.undrew hM; exact hMx)) | (with_reducible (have hMx := Mem.undrew hMp; exact hMx))))
    · decide
    · rfl
  · skip
    refine AtT.startA hM.tail hM 16 (by kernel_rfl) ?_
    clear hM
    intro wd hM
    have hS := hM.tail
    refine AtT.taked (i := 0) (v := ?_) (some 26) rfl rfl (by kernel_rfl) (by kernel_rfl) (by kernel_rfl) (by kernel_rfl) (fun _ _ _ h => h) (Or.inl ⟨by kernel_rfl, ?_⟩) hS ?_
    rotate_left
    · (intro wS hSw; (try dsimp only at hSw); have kr0 := (Mem.row hSw .here).cell; have kr2 := (Mem.row hSw (.there (.there (.there (.there .here))))).cell; have kr3 := (Mem.row hSw (.there (.there (.there (.there (.there .here)))))).cell; have hcx := (hf.ext hSw.below).get hmn; rw [HX.out] at hcx; have hcv := (h.ext hSw.below).get hmn; rw [HV.out] at hcv; go_simp; (try rw [if_neg (by omega)]); try with_reducible rfl)
    simp only [Act.put, List.setIfInBounds_toArray, List.set_cons_zero, List.set_cons_succ]
    refine AtT.taked (i := 1) (v := ?_) (some 27) rfl rfl (by kernel_rfl) (by kernel_rfl) (by kernel_rfl) (by kernel_rfl) (fun _ _ _ h => h) (Or.inl ⟨by kernel_rfl, ?_⟩) hS ?_
    rotate_left
    · (intro wS hSw; (try dsimp only at hSw); go_simp; (try rw [if_neg (by omega)]); try with_reducible rfl)
    simp only [Act.put, List.setIfInBounds_toArray, List.set_cons_zero, List.set_cons_succ]
    refine AtT.taked (i := 2) (v := ?_) (some 28) rfl rfl (by kernel_rfl) (by kernel_rfl) (by kernel_rfl) (by kernel_rfl) (fun _ _ _ h => h) (Or.inl ⟨by kernel_rfl, ?_⟩) hS ?_
    rotate_left
    · (intro wS hSw; (try dsimp only at hSw); have kr0 := (Mem.row hSw .here).cell; have kr2 := (Mem.row hSw (.there (.there (.there (.there .here))))).cell; have kr3 := (Mem.row hSw (.there (.there (.there (.there (.there .here)))))).cell; have hcx := (hf.ext hSw.below).get hmn; rw [HX.out] at hcx; have hcv := (h.ext hSw.below).get hmn; rw [HV.out] at hcv; go_simp; (try rw [if_neg (by omega)]); try with_reducible rfl)
    simp only [Act.put, List.setIfInBounds_toArray, List.set_cons_zero, List.set_cons_succ]
    refine AtT.taked (i := 3) (v := ?_) (some 29) rfl rfl (by kernel_rfl) (by kernel_rfl) (by kernel_rfl) (by kernel_rfl) (fun _ _ _ h => h) (Or.inl ⟨by kernel_rfl, ?_⟩) hS ?_
    rotate_left
    · (intro wS hSw; (try dsimp only at hSw); go_simp; (try rw [if_neg (by omega)]); try with_reducible rfl)
    simp only [Act.put, List.setIfInBounds_toArray, List.set_cons_zero, List.set_cons_succ]
    refine AtT.taked (i := 4) (v := ?_) (some 30) rfl rfl (by kernel_rfl) (by kernel_rfl) (by kernel_rfl) (by kernel_rfl) (fun _ _ _ h => h) (Or.inl ⟨by kernel_rfl, ?_⟩) hS ?_
    rotate_left
    · (intro wS hSw; (try dsimp only at hSw); have kr0 := (Mem.row hSw .here).cell; have kr2 := (Mem.row hSw (.there (.there (.there (.there .here))))).cell; have kr3 := (Mem.row hSw (.there (.there (.there (.there (.there .here)))))).cell; have hcx := (hf.ext hSw.below).get hmn; rw [HX.out] at hcx; have hcv := (h.ext hSw.below).get hmn; rw [HV.out] at hcv; go_simp; (try rw [if_neg (by omega)]); try with_reducible rfl)
    simp only [Act.put, List.setIfInBounds_toArray, List.set_cons_zero, List.set_cons_succ]
    refine AtT.taked (i := 5) (v := ?_) (some 31) rfl rfl (by kernel_rfl) (by kernel_rfl) (by kernel_rfl) (by kernel_rfl) (fun _ _ _ h => h) (Or.inl ⟨by kernel_rfl, ?_⟩) hS ?_
    rotate_left
    · (intro wS hSw; (try dsimp only at hSw); have kr0 := (Mem.row hSw .here).cell; have kr2 := (Mem.row hSw (.there (.there (.there (.there .here))))).cell; have kr3 := (Mem.row hSw (.there (.there (.there (.there (.there .here)))))).cell; have hcx := (hf.ext hSw.below).get hmn; rw [HX.out] at hcx; have hcv := (h.ext hSw.below).get hmn; rw [HV.out] at hcv; go_simp; (try rw [if_neg (by omega)]); try with_reducible rfl)
    simp only [Act.put, List.setIfInBounds_toArray, List.set_cons_zero, List.set_cons_succ]
    refine AtT.taked (i := 6) (v := ?_) (some 32) rfl rfl (by kernel_rfl) (by kernel_rfl) (by kernel_rfl) (by kernel_rfl) (fun _ _ _ h => h) (Or.inl ⟨by kernel_rfl, ?_⟩) hS ?_
    rotate_left
    · (intro wS hSw; (try dsimp only at hSw); have kr0 := (Mem.row hSw .here).cell; have kr2 := (Mem.row hSw (.there (.there (.there (.there .here))))).cell; have kr3 := (Mem.row hSw (.there (.there (.there (.there (.there .here)))))).cell; have hcx := (hf.ext hSw.below).get hmn; rw [HX.out] at hcx; have hcv := (h.ext hSw.below).get hmn; rw [HV.out] at hcv; go_simp; (try rw [if_neg (by omega)]); try with_reducible rfl)
    simp only [Act.put, List.setIfInBounds_toArray, List.set_cons_zero, List.set_cons_succ]
    refine AtT.taked (i := 7) (v := ?_) (some 33) rfl rfl (by kernel_rfl) (by kernel_rfl) (by kernel_rfl) (by kernel_rfl) (fun _ _ _ h => h) (Or.inl ⟨by kernel_rfl, ?_⟩) hS ?_
    rotate_left
    · (intro wS hSw; (try dsimp only at hSw); go_simp; (try rw [if_neg (by omega)]); try with_reducible rfl)
    simp only [Act.put, List.setIfInBounds_toArray, List.set_cons_zero, List.set_cons_succ]
    refine AtT.taked (i := 8) (v := ?_) (some 34) rfl rfl (by kernel_rfl) (by kernel_rfl) (by kernel_rfl) (by kernel_rfl) (fun _ _ _ h => h) (Or.inl ⟨by kernel_rfl, ?_⟩) hS ?_
    rotate_left
    · (intro wS hSw; (try dsimp only at hSw); go_simp; (try rw [if_neg (by omega)]); try with_reducible rfl)
    simp only [Act.put, List.setIfInBounds_toArray, List.set_cons_zero, List.set_cons_succ]
    refine AtT.taked (i := 9) (v := ?_) (some 35) rfl rfl (by kernel_rfl) (by kernel_rfl) (by kernel_rfl) (by kernel_rfl) (fun _ _ _ h => h) (Or.inl ⟨by kernel_rfl, ?_⟩) hS ?_
    rotate_left
    · (intro wS hSw; (try dsimp only at hSw); go_simp; (try rw [if_neg (by omega)]); try with_reducible rfl)
    simp only [Act.put, List.setIfInBounds_toArray, List.set_cons_zero, List.set_cons_succ]
    refine AtT.taked (i := 10) (v := ?_) (some 36) rfl rfl (by kernel_rfl) (by kernel_rfl) (by kernel_rfl) (by kernel_rfl) (fun _ _ _ h => h) (Or.inl ⟨by kernel_rfl, ?_⟩) hS ?_
    rotate_left
    · (intro wS hSw; (try dsimp only at hSw); have kr0 := (Mem.row hSw .here).cell; have kr2 := (Mem.row hSw (.there (.there (.there (.there .here))))).cell; have kr3 := (Mem.row hSw (.there (.there (.there (.there (.there .here)))))).cell; have hcx := (hf.ext hSw.below).get hmn; rw [HX.out] at hcx; have hcv := (h.ext hSw.below).get hmn; rw [HV.out] at hcv; go_simp; (try rw [if_neg (by omega)]); try with_reducible rfl)
    simp only [Act.put, List.setIfInBounds_toArray, List.set_cons_zero, List.set_cons_succ]
    refine AtT.taked (i := 11) (v := ?_) (some 37) rfl rfl (by kernel_rfl) (by kernel_rfl) (by kernel_rfl) (by kernel_rfl) (fun _ _ _ h => h) (Or.inl ⟨by kernel_rfl, ?_⟩) hS ?_
    rotate_left
    · (intro wS hSw; (try dsimp only at hSw); go_simp; (try rw [if_neg (by omega)]); try with_reducible rfl)
    simp only [Act.put, List.setIfInBounds_toArray, List.set_cons_zero, List.set_cons_succ]
    refine AtT.taked (i := 12) (v := ?_) (some 38) rfl rfl (by kernel_rfl) (by kernel_rfl) (by kernel_rfl) (by kernel_rfl) (fun _ _ _ h => h) (Or.inl ⟨by kernel_rfl, ?_⟩) hS ?_
    rotate_left
    · (intro wS hSw; (try dsimp only at hSw); have kr0 := (Mem.row hSw .here).cell; have kr2 := (Mem.row hSw (.there (.there (.there (.there .here))))).cell; have kr3 := (Mem.row hSw (.there (.there (.there (.there (.there .here)))))).cell; have hcx := (hf.ext hSw.below).get hmn; rw [HX.out] at hcx; have hcv := (h.ext hSw.below).get hmn; rw [HV.out] at hcv; go_simp; (try rw [if_neg (by omega)]); try with_reducible rfl)
    simp only [Act.put, List.setIfInBounds_toArray, List.set_cons_zero, List.set_cons_succ]
    refine AtT.only (i := 13) (by kernel_rfl) rfl rfl ?_
    intro K hK
    go_simp
    refine (burns_any W Hn _ n c xs m _ (h.ext hM.below) hmn).mono ?_
    rw [HY.out]
    rintro e w3 ⟨rfl, hb⟩
    replace hM := hM.ext hb
    clear hb
    try dsimp only
    refine hK.out _ _ (hM.tail) ?_
    clear hK K hS
    have hS := hM.tail
    refine AtT.taked (i := 14) (v := ?_) (some 40) rfl rfl (by kernel_rfl) (by kernel_rfl) (by kernel_rfl) (by kernel_rfl) (fun _ _ _ h => h) (Or.inl ⟨by kernel_rfl, ?_⟩) hS ?_
    rotate_left
    · (intro wS hSw; (try dsimp only at hSw); go_simp; (try rw [if_neg (by omega)]); try with_reducible rfl)
    simp only [Act.put, List.setIfInBounds_toArray, List.set_cons_zero, List.set_cons_succ]
    refine AtT.only (i := 15) (by kernel_rfl) rfl rfl ?_
    intro K hK
    have kk0 := (hM.row .here).cell
    have ff0 := (hM.row .here).free
    have ll0 := (hM.row .here).lt
    have kk1 := (hM.row (.there .here)).cell
    have ff1 := (hM.row (.there .here)).free
    have ll1 := (hM.row (.there .here)).lt
    have kk5 := (hM.row (.there (.there (.there (.there (.there .here)))))).cell
    have ff5 := (hM.row (.there (.there (.there (.there (.there .here)))))).free
    have ll5 := (hM.row (.there (.there (.there (.there (.there .here)))))).lt
    have kk6 := (hM.row (.there (.there (.there (.there (.there (.there .here))))))).cell
    have ff6 := (hM.row (.there (.there (.there (.there (.there (.there .here))))))).free
    have ll6 := (hM.row (.there (.there (.there (.there (.there (.there .here))))))).lt
    go_simp
    clear kk0 ff0 ll0 kk1 ff1 ll1 kk5 ff5 ll5 kk6 ff6 ll6
    refine hK.out _ _ (by apply Mem.tail; (repeat' (first | with_reducible exact hM | with_reducible exact hMp | with_reducible apply Mem.drew | with_reducible apply Mem.drewN | with_reducible apply Mem.alloc | with_reducible apply Mem.set | with_reducible exact Sto.row | ((with_reducible refine Sto.rowEq2 ?_ ?_); omega; rfl) | ((with_reducible refine Sto.rowEq ?_); omega) | with_reducible apply Sto.int | with_reducible apply Sto.there | with_reducible assumption | (unfold I64; omega) | (with_reducible (have hMx := Mem.undrew hM; exact hMx)) | (with_reducible (have hMx := Mem.undrew hMp; exact hMx))))) ?_
    clear hK K hS
    apply Mem.atT
    · (repeat' (first | with_reducible exact hM | with_reducible exact hMp | with_reducible apply Mem.drew | with_reducible apply Mem.drewN | with_reducible apply Mem.alloc | with_reducible apply Mem.set | with_reducible exact Sto.row | ((with_reducible refine Sto.rowEq2 ?_ ?_); omega; rfl) | ((with_reducible refine Sto.rowEq ?_); omega) | with_reducible apply Sto.int | with_reducible apply Sto.there | with_reducible assumption | (unfold I64; omega) | (with_reducible (have hMx := Mem.undrew hM; exact hMx)) | (with_reducible (have hMx := Mem.undrew hMp; exact hMx))))
    clear hM
    intro hM
    (try simp only [World.size_alloc, World.size_setCell, World.heap_drewN, heapDrew, Nat.add_assoc, Nat.reduceAdd, List.setIfInBounds_toArray, List.set_cons_zero, List.set_cons_succ, List.cons_append, List.nil_append] at hM)
    have hS := hM.tail
    refine AtT.last (by kernel_rfl) rfl (by kernel_rfl) ?_
    intro K hK
    clear hS
    go_simp
    refine hK.out _ _ ?_
    clear hK K
    obtain ⟨k0, f0, l0⟩ := hM.row .here
    go_wp2
    rw [HF.out, hx0]
    refine bodyPost_ret (v := .tuple #[.agg #[.int .i64 W, .int .i64 Hn, .slice (some ⟨g1, 0, none⟩) n d1, .slice b2 n d2, .slice b3 n d3, .int .i64 t], .bool (decide (0 < v))]) (by simp [results, Try.results89, go_sem, k0]) rfl ⟨some ⟨g1, 0, none⟩, n, d1, b2, n, d2, b3, n, d3, rfl, ?_⟩
    apply Mem.pick (is := [2, 3, 4])
    · (repeat' (first | with_reducible exact hM | with_reducible exact hMp | with_reducible apply Mem.drew | with_reducible apply Mem.drewN | with_reducible apply Mem.alloc | with_reducible apply Mem.set | with_reducible exact Sto.row | ((with_reducible refine Sto.rowEq2 ?_ ?_); omega; rfl) | ((with_reducible refine Sto.rowEq ?_); omega) | with_reducible apply Sto.int | with_reducible apply Sto.there | with_reducible assumption | (unfold I64; omega) | (with_reducible (have hMx := Mem.undrew hM; exact hMx)) | (with_reducible (have hMx := Mem.undrew hMp; exact hMx))))
    · decide
    · rfl

set_option maxRecDepth 100000 in
set_option maxHeartbeats 30000000 in
theorem act3_any (W Hn : Nat) (a : Option Addr) (n c : Nat) (xs : List Int) (af : Option Addr) (cf : Nat) (fs : List Int) (aw : Option Addr) (cw : Nat) (ws : List Int) (t : Int) (m : Nat) (w : World) (h : Ints w a n c xs) (hf : Ints w af n cf fs) (hw : Ints w aw n cw ws) (hnp : 0 < n) (hn25 : n ≤ 25) (hW : 1 ≤ W ∧ W ≤ 5) (ht : -1 ≤ t ∧ t ≤ 2000000) (hxs : ∀ x ∈ xs, 0 ≤ x) (hws : ∀ x ∈ ws, 0 ≤ x) (hmn : m < n) :
    Calls Try.prog 89 #[.agg #[.int .i64 W, .int .i64 Hn, .slice a n c, .slice af n cf, .slice aw n cw, .int .i64 t], .agg #[.int .i64 3, .int .i64 (m : Int)]] w ((IncRes w (actI n ⟨W, Hn, xs, fs, ws, t⟩ 3 m))) := by
  have hM := Mem.start w
  have HXS := Lib.hid hxs; have HWS := Lib.hid hws
  clear hxs hws
  obtain ⟨bx, offx, rfl, -, -⟩ := hf.at' _ hmn
  obtain ⟨x, hx⟩ : ∃ x, fs.getD m 0 = x := ⟨_, rfl⟩
  have HX := Lib.hid hx
  have HL := Lib.hid h.len
  have i0 : (0 : Int) ≤ (m : Int) := by omega
  have i1 : (m : Int) < (n : Int) := by omega
  obtain ⟨bz, offz, rfl, -, -⟩ := hw.at' _ hmn
  obtain ⟨z, hz⟩ : ∃ z, ws.getD m 0 = z := ⟨_, rfl⟩
  have HZ := Lib.hid hz
  have HF := Lib.hid (show actI n ⟨W, Hn, xs, fs, ws, t⟩ 3 m = ⟨⟨W, Hn, xs, fs, ws.set m 5, t⟩, decide (x ≤ 0) && decide (z < 5)⟩ by
    unfold actI
    rw [if_neg (by decide), if_neg (by decide), hx, hz])
  clear hx hz
  go_enter Try.func89, Try.ntmps89
  go_wp2_with fail
  apply Mem.atA
  · (repeat' (first | with_reducible exact hM | with_reducible exact hMp | with_reducible apply Mem.drew | with_reducible apply Mem.drewN | with_reducible apply Mem.alloc | with_reducible apply Mem.set | with_reducible exact Sto.row | ((with_reducible refine Sto.rowEq2 ?_ ?_); omega; rfl) | ((with_reducible refine Sto.rowEq ?_); omega) | with_reducible apply Sto.int | with_reducible apply Sto.there | with_reducible assumption | (unfold I64; omega) | (with_reducible (have hMx := Mem.undrew hM; exact hMx)) | (with_reducible (have hMx := Mem.undrew hMp; exact hMx))))
  clear hM
  intro wst hM
  (try simp only [World.size_alloc, World.size_setCell, World.heap_drewN, heapDrew, Nat.add_assoc, Nat.reduceAdd, List.setIfInBounds_toArray, List.set_cons_zero, List.set_cons_succ, List.cons_append, List.nil_append] at hM)
  apply Calls.mono
  · (apply copiedInc_any W Hn a n c xs _ cf fs _ cw ws t) <;> (first | (show (_ : Prop); with_reducible assumption) | (apply Hid.out; with_reducible assumption) | (apply Mem.intsR hM; (repeat' (first | with_reducible exact In.here | with_reducible apply In.there)); done) | (apply Ints.ext (hb := hM.below); with_reducible assumption) | (apply Rd.ext (hb := hM.below); with_reducible assumption) | (apply Mem.row hM; (repeat' (first | with_reducible exact In.here | with_reducible apply In.there)); done) | (apply Row.ext (hb := hM.below); with_reducible assumption) | exact ⟨by omega, by omega⟩ | omega | (trace_state; fail))
  rintro e wq ⟨b1, d1, b2, d2, b3, d3, rfl, hm⟩
  replace hM := hM.join hm
  clear hm
  (try simp only [World.size_alloc, World.size_setCell, World.heap_drewN, heapDrew, Nat.add_assoc, Nat.reduceAdd, List.setIfInBounds_toArray, List.set_cons_zero, List.set_cons_succ, List.cons_append, List.nil_append] at hM)
  rw [show w.heap.size + 1 + 1 = w.heap.size + 2 from rfl]
  generalize w.heap.size + 2 = q2 at hM ⊢
  generalize w.heap.size + 1 = q1 at hM ⊢
  obtain ⟨g3, rfl, -⟩ := (hM.ints (.there (.there .here))).head hnp
  go_upto_region 2 with fail
  apply Mem.atWpA
  · (repeat' (first | with_reducible exact hM | with_reducible exact hMp | with_reducible apply Mem.drew | with_reducible apply Mem.drewN | with_reducible apply Mem.alloc | with_reducible apply Mem.set | with_reducible exact Sto.row | ((with_reducible refine Sto.rowEq2 ?_ ?_); omega; rfl) | ((with_reducible refine Sto.rowEq ?_); omega) | with_reducible apply Sto.int | with_reducible apply Sto.there | with_reducible assumption | (unfold I64; omega) | (with_reducible (have hMx := Mem.undrew hM; exact hMx)) | (with_reducible (have hMx := Mem.undrew hMp; exact hMx))))
  clear hM
  intro wst hM
  (try simp only [World.size_alloc, World.size_setCell, World.heap_drewN, heapDrew, Nat.add_assoc, Nat.reduceAdd, List.setIfInBounds_toArray, List.set_cons_zero, List.set_cons_succ, List.cons_append, List.nil_append] at hM)
  have hfk := (hM.ints (.there (.there (.there .here)))).freeAt m
  have hdk := (hM.ints (.there (.there (.there .here)))).cellAt hmn
  obtain ⟨k0, f0, l0⟩ := hM.row .here
  obtain ⟨k5, f5, l5⟩ := hM.row (.there (.there (.there (.there (.there .here)))))
  go_wp2_with fail
  clear k0 f0 l0 k5 f5 l5
  apply Mem.atWpA
  · (repeat' (first | with_reducible exact hM | with_reducible exact hMp | with_reducible apply Mem.drew | with_reducible apply Mem.drewN | with_reducible apply Mem.alloc | with_reducible apply Mem.set | with_reducible exact Sto.row | ((with_reducible refine Sto.rowEq2 ?_ ?_); omega; rfl) | ((with_reducible refine Sto.rowEq ?_); omega) | with_reducible apply Sto.int | with_reducible apply Sto.there | with_reducible assumption | (unfold I64; omega) | (with_reducible (have hMx := Mem.undrew hM; exact hMx)) | (with_reducible (have hMx := Mem.undrew hMp; exact hMx))))
  clear hM
  intro wst hM
  (try simp only [World.size_alloc, World.size_setCell, World.heap_drewN, heapDrew, Nat.add_assoc, Nat.reduceAdd, List.setIfInBounds_toArray, List.set_cons_zero, List.set_cons_succ, List.cons_append, List.nil_append] at hM)
  clear hfk hdk
  replace hM := hM.perm pf4
  by_cases hx1 : x ≤ 0
  rotate_left
  · have hx0 : decide (x ≤ 0) = false := decide_eq_false hx1
    have HX0 := Lib.hid hx0
    clear hx1
    refine AtT.startA hM.tail hM 18 (by kernel_rfl) ?_
    clear hM
    intro wd hM
    have hS := hM.tail
    refine AtT.taked (i := 0) (v := ?_) (some 46) rfl rfl (by kernel_rfl) (by kernel_rfl) (by kernel_rfl) (by kernel_rfl) (fun _ _ _ h => h) (Or.inl ⟨by kernel_rfl, ?_⟩) hS ?_
    rotate_left
    · (intro wS hSw; (try dsimp only at hSw); have kr0 := (Mem.row hSw .here).cell; have kr2 := (Mem.row hSw (.there (.there (.there (.there .here))))).cell; have kr3 := (Mem.row hSw (.there (.there (.there (.there (.there .here)))))).cell; have hcx := (hf.ext hSw.below).get hmn; rw [HX.out] at hcx; go_simp; (try rw [if_neg (by omega)]); try with_reducible rfl)
    simp only [Act.put, List.setIfInBounds_toArray, List.set_cons_zero, List.set_cons_succ]
    refine AtT.taked (i := 1) (v := ?_) (some 47) rfl rfl (by kernel_rfl) (by kernel_rfl) (by kernel_rfl) (by kernel_rfl) (fun _ _ _ h => h) (Or.inl ⟨by kernel_rfl, ?_⟩) hS ?_
    rotate_left
    · (intro wS hSw; (try dsimp only at hSw); go_simp; (try rw [if_neg (by omega)]); try with_reducible rfl)
    simp only [Act.put, List.setIfInBounds_toArray, List.set_cons_zero, List.set_cons_succ]
    refine AtT.taked (i := 2) (v := ?_) (some 48) rfl rfl (by kernel_rfl) (by kernel_rfl) (by kernel_rfl) (by kernel_rfl) (fun _ _ _ h => h) (Or.inl ⟨by kernel_rfl, ?_⟩) hS ?_
    rotate_left
    · (intro wS hSw; (try dsimp only at hSw); have kr0 := (Mem.row hSw .here).cell; have kr2 := (Mem.row hSw (.there (.there (.there (.there .here))))).cell; have kr3 := (Mem.row hSw (.there (.there (.there (.there (.there .here)))))).cell; have hcx := (hf.ext hSw.below).get hmn; rw [HX.out] at hcx; go_simp; (try rw [if_neg (by omega)]); try with_reducible rfl)
    simp only [Act.put, List.setIfInBounds_toArray, List.set_cons_zero, List.set_cons_succ]
    refine AtT.taked (i := 3) (v := ?_) (some 49) rfl rfl (by kernel_rfl) (by kernel_rfl) (by kernel_rfl) (by kernel_rfl) (fun _ _ _ h => h) (Or.inl ⟨by kernel_rfl, ?_⟩) hS ?_
    rotate_left
    · (intro wS hSw; (try dsimp only at hSw); go_simp; (try rw [if_neg (by omega)]); try with_reducible rfl)
    simp only [Act.put, List.setIfInBounds_toArray, List.set_cons_zero, List.set_cons_succ]
    refine AtT.taked (i := 4) (v := ?_) (some 50) rfl rfl (by kernel_rfl) (by kernel_rfl) (by kernel_rfl) (by kernel_rfl) (fun _ _ _ h => h) (Or.inl ⟨by kernel_rfl, ?_⟩) hS ?_
    rotate_left
    · (intro wS hSw; (try dsimp only at hSw); have kr0 := (Mem.row hSw .here).cell; have kr2 := (Mem.row hSw (.there (.there (.there (.there .here))))).cell; have kr3 := (Mem.row hSw (.there (.there (.there (.there (.there .here)))))).cell; have hcx := (hf.ext hSw.below).get hmn; rw [HX.out] at hcx; go_simp; (try rw [if_neg (by omega)]); try with_reducible rfl)
    simp only [Act.put, List.setIfInBounds_toArray, List.set_cons_zero, List.set_cons_succ]
    refine AtT.taked (i := 5) (v := ?_) (some 51) rfl rfl (by kernel_rfl) (by kernel_rfl) (by kernel_rfl) (by kernel_rfl) (fun _ _ _ h => h) (Or.inl ⟨by kernel_rfl, ?_⟩) hS ?_
    rotate_left
    · (intro wS hSw; (try dsimp only at hSw); have kr0 := (Mem.row hSw .here).cell; have kr2 := (Mem.row hSw (.there (.there (.there (.there .here))))).cell; have kr3 := (Mem.row hSw (.there (.there (.there (.there (.there .here)))))).cell; have hcx := (hf.ext hSw.below).get hmn; rw [HX.out] at hcx; go_simp; (try rw [if_neg (by omega)]); try with_reducible rfl)
    simp only [Act.put, List.setIfInBounds_toArray, List.set_cons_zero, List.set_cons_succ]
    refine AtT.taked (i := 6) (v := ?_) (some 52) rfl rfl (by kernel_rfl) (by kernel_rfl) (by kernel_rfl) (by kernel_rfl) (fun _ _ _ h => h) (Or.inl ⟨by kernel_rfl, ?_⟩) hS ?_
    rotate_left
    · (intro wS hSw; (try dsimp only at hSw); have kr0 := (Mem.row hSw .here).cell; have kr2 := (Mem.row hSw (.there (.there (.there (.there .here))))).cell; have kr3 := (Mem.row hSw (.there (.there (.there (.there (.there .here)))))).cell; have hcx := (hf.ext hSw.below).get hmn; rw [HX.out] at hcx; go_simp; (try rw [if_neg (by omega)]); try with_reducible rfl)
    simp only [Act.put, List.setIfInBounds_toArray, List.set_cons_zero, List.set_cons_succ]
    refine AtT.taked (i := 7) (v := ?_) (some 53) rfl rfl (by kernel_rfl) (by kernel_rfl) (by kernel_rfl) (by kernel_rfl) (fun _ _ _ h => h) (Or.inl ⟨by kernel_rfl, ?_⟩) hS ?_
    rotate_left
    · (intro wS hSw; (try dsimp only at hSw); go_simp; (try rw [if_neg (by omega)]); try with_reducible rfl)
    simp only [Act.put, List.setIfInBounds_toArray, List.set_cons_zero, List.set_cons_succ]
    refine AtT.taked (i := 8) (v := ?_) (some 54) rfl rfl (by kernel_rfl) (by kernel_rfl) (by kernel_rfl) (by kernel_rfl) (fun _ _ _ h => h) (Or.inl ⟨by kernel_rfl, ?_⟩) hS ?_
    rotate_left
    · (intro wS hSw; (try dsimp only at hSw); go_simp; (try rw [if_neg (by omega)]); try with_reducible rfl)
    simp only [Act.put, List.setIfInBounds_toArray, List.set_cons_zero, List.set_cons_succ]
    refine AtT.taked (i := 9) (v := undef) (some 55) rfl rfl (by kernel_rfl) (by kernel_rfl) (by kernel_rfl) (by kernel_rfl) (fun _ _ _ h => h) (Or.inr ⟨by kernel_rfl, rfl⟩) hS ?_
    simp only [Act.put, List.setIfInBounds_toArray, List.set_cons_zero, List.set_cons_succ]
    refine AtT.taked (i := 10) (v := undef) (some 56) rfl rfl (by kernel_rfl) (by kernel_rfl) (by kernel_rfl) (by kernel_rfl) (fun _ _ _ h => h) (Or.inr ⟨by kernel_rfl, rfl⟩) hS ?_
    simp only [Act.put, List.setIfInBounds_toArray, List.set_cons_zero, List.set_cons_succ]
    refine AtT.taked (i := 11) (v := undef) (some 57) rfl rfl (by kernel_rfl) (by kernel_rfl) (by kernel_rfl) (by kernel_rfl) (fun _ _ _ h => h) (Or.inr ⟨by kernel_rfl, rfl⟩) hS ?_
    simp only [Act.put, List.setIfInBounds_toArray, List.set_cons_zero, List.set_cons_succ]
    refine AtT.taked (i := 12) (v := undef) (some 58) rfl rfl (by kernel_rfl) (by kernel_rfl) (by kernel_rfl) (by kernel_rfl) (fun _ _ _ h => h) (Or.inr ⟨by kernel_rfl, rfl⟩) hS ?_
    simp only [Act.put, List.setIfInBounds_toArray, List.set_cons_zero, List.set_cons_succ]
    refine AtT.taked (i := 13) (v := undef) (some 59) rfl rfl (by kernel_rfl) (by kernel_rfl) (by kernel_rfl) (by kernel_rfl) (fun _ _ _ h => h) (Or.inr ⟨by kernel_rfl, rfl⟩) hS ?_
    simp only [Act.put, List.setIfInBounds_toArray, List.set_cons_zero, List.set_cons_succ]
    refine AtT.taked (i := 14) (v := undef) (some 60) rfl rfl (by kernel_rfl) (by kernel_rfl) (by kernel_rfl) (by kernel_rfl) (fun _ _ _ h => h) (Or.inr ⟨by kernel_rfl, rfl⟩) hS ?_
    simp only [Act.put, List.setIfInBounds_toArray, List.set_cons_zero, List.set_cons_succ]
    refine AtT.taked (i := 15) (v := undef) (some 61) rfl rfl (by kernel_rfl) (by kernel_rfl) (by kernel_rfl) (by kernel_rfl) (fun _ _ _ h => h) (Or.inr ⟨by kernel_rfl, rfl⟩) hS ?_
    simp only [Act.put, List.setIfInBounds_toArray, List.set_cons_zero, List.set_cons_succ]
    refine AtT.taked (i := 16) (v := ?_) (some 62) rfl rfl (by kernel_rfl) (by kernel_rfl) (by kernel_rfl) (by kernel_rfl) (fun _ _ _ h => h) (Or.inl ⟨by kernel_rfl, ?_⟩) hS ?_
    rotate_left
    · (intro wS hSw; (try dsimp only at hSw); go_simp; (try rw [if_neg (by omega)]); try with_reducible rfl)
    simp only [Act.put, List.setIfInBounds_toArray, List.set_cons_zero, List.set_cons_succ]
    refine AtT.only (i := 17) (by kernel_rfl) rfl rfl ?_
    intro K hK
    have kk0 := (hM.row .here).cell
    have ff0 := (hM.row .here).free
    have ll0 := (hM.row .here).lt
    have kk1 := (hM.row (.there .here)).cell
    have ff1 := (hM.row (.there .here)).free
    have ll1 := (hM.row (.there .here)).lt
    have kk5 := (hM.row (.there (.there (.there (.there (.there .here)))))).cell
    have ff5 := (hM.row (.there (.there (.there (.there (.there .here)))))).free
    have ll5 := (hM.row (.there (.there (.there (.there (.there .here)))))).lt
    have kk6 := (hM.row (.there (.there (.there (.there (.there (.there .here))))))).cell
    have ff6 := (hM.row (.there (.there (.there (.there (.there (.there .here))))))).free
    have ll6 := (hM.row (.there (.there (.there (.there (.there (.there .here))))))).lt
    go_simp
    clear kk0 ff0 ll0 kk1 ff1 ll1 kk5 ff5 ll5 kk6 ff6 ll6
    refine hK.out _ _ (by apply Mem.tail; (repeat' (first | with_reducible exact hM | with_reducible exact hMp | with_reducible apply Mem.drew | with_reducible apply Mem.drewN | with_reducible apply Mem.alloc | with_reducible apply Mem.set | with_reducible exact Sto.row | ((with_reducible refine Sto.rowEq2 ?_ ?_); omega; rfl) | ((with_reducible refine Sto.rowEq ?_); omega) | with_reducible apply Sto.int | with_reducible apply Sto.there | with_reducible assumption | (unfold I64; omega) | (with_reducible (have hMx := Mem.undrew hM; exact hMx)) | (with_reducible (have hMx := Mem.undrew hMp; exact hMx))))) ?_
    clear hK K hS
    apply Mem.atT
    · (repeat' (first | with_reducible exact hM | with_reducible exact hMp | with_reducible apply Mem.drew | with_reducible apply Mem.drewN | with_reducible apply Mem.alloc | with_reducible apply Mem.set | with_reducible exact Sto.row | ((with_reducible refine Sto.rowEq2 ?_ ?_); omega; rfl) | ((with_reducible refine Sto.rowEq ?_); omega) | with_reducible apply Sto.int | with_reducible apply Sto.there | with_reducible assumption | (unfold I64; omega) | (with_reducible (have hMx := Mem.undrew hM; exact hMx)) | (with_reducible (have hMx := Mem.undrew hMp; exact hMx))))
    clear hM
    intro hM
    (try simp only [World.size_alloc, World.size_setCell, World.heap_drewN, heapDrew, Nat.add_assoc, Nat.reduceAdd, List.setIfInBounds_toArray, List.set_cons_zero, List.set_cons_succ, List.cons_append, List.nil_append] at hM)
    have hS := hM.tail
    refine AtT.last (by kernel_rfl) rfl (by kernel_rfl) ?_
    intro K hK
    clear hS
    go_simp
    refine hK.out _ _ ?_
    clear hK K
    obtain ⟨k0, f0, l0⟩ := hM.row .here
    go_wp2
    rw [HF.out, HX0.out]
    refine bodyPost_ret (v := .tuple #[.agg #[.int .i64 W, .int .i64 Hn, .slice b1 n d1, .slice b2 n d2, .slice (some ⟨g3, 0, none⟩) n d3, .int .i64 t], .bool false]) (by simp [results, Try.results89, go_sem, k0]) rfl ⟨b1, n, d1, b2, n, d2, some ⟨g3, 0, none⟩, n, d3, rfl, ?_⟩
    apply Mem.pick (is := [2, 3, 4])
    · (repeat' (first | with_reducible exact hM | with_reducible exact hMp | with_reducible apply Mem.drew | with_reducible apply Mem.drewN | with_reducible apply Mem.alloc | with_reducible apply Mem.set | with_reducible exact Sto.row | ((with_reducible refine Sto.rowEq2 ?_ ?_); omega; rfl) | ((with_reducible refine Sto.rowEq ?_); omega) | with_reducible apply Sto.int | with_reducible apply Sto.there | with_reducible assumption | (unfold I64; omega) | (with_reducible (have hMx := Mem.undrew hM; exact hMx)) | (with_reducible (have hMx := Mem.undrew hMp; exact hMx))))
    · decide
    · rfl
  · have hx0 : decide (x ≤ 0) = true := decide_eq_true hx1
    have HX0 := Lib.hid hx0
    clear hx1
    refine AtT.startA hM.tail hM 18 (by kernel_rfl) ?_
    clear hM
    intro wd hM
    have hS := hM.tail
    refine AtT.taked (i := 0) (v := ?_) (some 46) rfl rfl (by kernel_rfl) (by kernel_rfl) (by kernel_rfl) (by kernel_rfl) (fun _ _ _ h => h) (Or.inl ⟨by kernel_rfl, ?_⟩) hS ?_
    rotate_left
    · (intro wS hSw; (try dsimp only at hSw); have kr0 := (Mem.row hSw .here).cell; have kr2 := (Mem.row hSw (.there (.there (.there (.there .here))))).cell; have kr3 := (Mem.row hSw (.there (.there (.there (.there (.there .here)))))).cell; have hcx := (hf.ext hSw.below).get hmn; rw [HX.out] at hcx; have hcz := (hw.ext hSw.below).get hmn; rw [HZ.out] at hcz; go_simp; (try rw [if_neg (by omega)]); try with_reducible rfl)
    simp only [Act.put, List.setIfInBounds_toArray, List.set_cons_zero, List.set_cons_succ]
    refine AtT.taked (i := 1) (v := ?_) (some 47) rfl rfl (by kernel_rfl) (by kernel_rfl) (by kernel_rfl) (by kernel_rfl) (fun _ _ _ h => h) (Or.inl ⟨by kernel_rfl, ?_⟩) hS ?_
    rotate_left
    · (intro wS hSw; (try dsimp only at hSw); go_simp; (try rw [if_neg (by omega)]); try with_reducible rfl)
    simp only [Act.put, List.setIfInBounds_toArray, List.set_cons_zero, List.set_cons_succ]
    refine AtT.taked (i := 2) (v := ?_) (some 48) rfl rfl (by kernel_rfl) (by kernel_rfl) (by kernel_rfl) (by kernel_rfl) (fun _ _ _ h => h) (Or.inl ⟨by kernel_rfl, ?_⟩) hS ?_
    rotate_left
    · (intro wS hSw; (try dsimp only at hSw); have kr0 := (Mem.row hSw .here).cell; have kr2 := (Mem.row hSw (.there (.there (.there (.there .here))))).cell; have kr3 := (Mem.row hSw (.there (.there (.there (.there (.there .here)))))).cell; have hcx := (hf.ext hSw.below).get hmn; rw [HX.out] at hcx; have hcz := (hw.ext hSw.below).get hmn; rw [HZ.out] at hcz; go_simp; (try rw [if_neg (by omega)]); try with_reducible rfl)
    simp only [Act.put, List.setIfInBounds_toArray, List.set_cons_zero, List.set_cons_succ]
    refine AtT.taked (i := 3) (v := ?_) (some 49) rfl rfl (by kernel_rfl) (by kernel_rfl) (by kernel_rfl) (by kernel_rfl) (fun _ _ _ h => h) (Or.inl ⟨by kernel_rfl, ?_⟩) hS ?_
    rotate_left
    · (intro wS hSw; (try dsimp only at hSw); go_simp; (try rw [if_neg (by omega)]); try with_reducible rfl)
    simp only [Act.put, List.setIfInBounds_toArray, List.set_cons_zero, List.set_cons_succ]
    refine AtT.taked (i := 4) (v := ?_) (some 50) rfl rfl (by kernel_rfl) (by kernel_rfl) (by kernel_rfl) (by kernel_rfl) (fun _ _ _ h => h) (Or.inl ⟨by kernel_rfl, ?_⟩) hS ?_
    rotate_left
    · (intro wS hSw; (try dsimp only at hSw); have kr0 := (Mem.row hSw .here).cell; have kr2 := (Mem.row hSw (.there (.there (.there (.there .here))))).cell; have kr3 := (Mem.row hSw (.there (.there (.there (.there (.there .here)))))).cell; have hcx := (hf.ext hSw.below).get hmn; rw [HX.out] at hcx; have hcz := (hw.ext hSw.below).get hmn; rw [HZ.out] at hcz; go_simp; (try rw [if_neg (by omega)]); try with_reducible rfl)
    simp only [Act.put, List.setIfInBounds_toArray, List.set_cons_zero, List.set_cons_succ]
    refine AtT.taked (i := 5) (v := ?_) (some 51) rfl rfl (by kernel_rfl) (by kernel_rfl) (by kernel_rfl) (by kernel_rfl) (fun _ _ _ h => h) (Or.inl ⟨by kernel_rfl, ?_⟩) hS ?_
    rotate_left
    · (intro wS hSw; (try dsimp only at hSw); have kr0 := (Mem.row hSw .here).cell; have kr2 := (Mem.row hSw (.there (.there (.there (.there .here))))).cell; have kr3 := (Mem.row hSw (.there (.there (.there (.there (.there .here)))))).cell; have hcx := (hf.ext hSw.below).get hmn; rw [HX.out] at hcx; have hcz := (hw.ext hSw.below).get hmn; rw [HZ.out] at hcz; go_simp; (try rw [if_neg (by omega)]); try with_reducible rfl)
    simp only [Act.put, List.setIfInBounds_toArray, List.set_cons_zero, List.set_cons_succ]
    refine AtT.taked (i := 6) (v := ?_) (some 52) rfl rfl (by kernel_rfl) (by kernel_rfl) (by kernel_rfl) (by kernel_rfl) (fun _ _ _ h => h) (Or.inl ⟨by kernel_rfl, ?_⟩) hS ?_
    rotate_left
    · (intro wS hSw; (try dsimp only at hSw); have kr0 := (Mem.row hSw .here).cell; have kr2 := (Mem.row hSw (.there (.there (.there (.there .here))))).cell; have kr3 := (Mem.row hSw (.there (.there (.there (.there (.there .here)))))).cell; have hcx := (hf.ext hSw.below).get hmn; rw [HX.out] at hcx; have hcz := (hw.ext hSw.below).get hmn; rw [HZ.out] at hcz; go_simp; (try rw [if_neg (by omega)]); try with_reducible rfl)
    simp only [Act.put, List.setIfInBounds_toArray, List.set_cons_zero, List.set_cons_succ]
    refine AtT.taked (i := 7) (v := ?_) (some 53) rfl rfl (by kernel_rfl) (by kernel_rfl) (by kernel_rfl) (by kernel_rfl) (fun _ _ _ h => h) (Or.inl ⟨by kernel_rfl, ?_⟩) hS ?_
    rotate_left
    · (intro wS hSw; (try dsimp only at hSw); go_simp; (try rw [if_neg (by omega)]); try with_reducible rfl)
    simp only [Act.put, List.setIfInBounds_toArray, List.set_cons_zero, List.set_cons_succ]
    refine AtT.taked (i := 8) (v := ?_) (some 54) rfl rfl (by kernel_rfl) (by kernel_rfl) (by kernel_rfl) (by kernel_rfl) (fun _ _ _ h => h) (Or.inl ⟨by kernel_rfl, ?_⟩) hS ?_
    rotate_left
    · (intro wS hSw; (try dsimp only at hSw); go_simp; (try rw [if_neg (by omega)]); try with_reducible rfl)
    simp only [Act.put, List.setIfInBounds_toArray, List.set_cons_zero, List.set_cons_succ]
    refine AtT.taked (i := 9) (v := ?_) (some 55) rfl rfl (by kernel_rfl) (by kernel_rfl) (by kernel_rfl) (by kernel_rfl) (fun _ _ _ h => h) (Or.inl ⟨by kernel_rfl, ?_⟩) hS ?_
    rotate_left
    · (intro wS hSw; (try dsimp only at hSw); go_simp; (try rw [if_neg (by omega)]); try with_reducible rfl)
    simp only [Act.put, List.setIfInBounds_toArray, List.set_cons_zero, List.set_cons_succ]
    refine AtT.taked (i := 10) (v := ?_) (some 56) rfl rfl (by kernel_rfl) (by kernel_rfl) (by kernel_rfl) (by kernel_rfl) (fun _ _ _ h => h) (Or.inl ⟨by kernel_rfl, ?_⟩) hS ?_
    rotate_left
    · (intro wS hSw; (try dsimp only at hSw); have kr0 := (Mem.row hSw .here).cell; have kr2 := (Mem.row hSw (.there (.there (.there (.there .here))))).cell; have kr3 := (Mem.row hSw (.there (.there (.there (.there (.there .here)))))).cell; have hcx := (hf.ext hSw.below).get hmn; rw [HX.out] at hcx; have hcz := (hw.ext hSw.below).get hmn; rw [HZ.out] at hcz; go_simp; (try rw [if_neg (by omega)]); try with_reducible rfl)
    simp only [Act.put, List.setIfInBounds_toArray, List.set_cons_zero, List.set_cons_succ]
    refine AtT.taked (i := 11) (v := ?_) (some 57) rfl rfl (by kernel_rfl) (by kernel_rfl) (by kernel_rfl) (by kernel_rfl) (fun _ _ _ h => h) (Or.inl ⟨by kernel_rfl, ?_⟩) hS ?_
    rotate_left
    · (intro wS hSw; (try dsimp only at hSw); go_simp; (try rw [if_neg (by omega)]); try with_reducible rfl)
    simp only [Act.put, List.setIfInBounds_toArray, List.set_cons_zero, List.set_cons_succ]
    refine AtT.taked (i := 12) (v := ?_) (some 58) rfl rfl (by kernel_rfl) (by kernel_rfl) (by kernel_rfl) (by kernel_rfl) (fun _ _ _ h => h) (Or.inl ⟨by kernel_rfl, ?_⟩) hS ?_
    rotate_left
    · (intro wS hSw; (try dsimp only at hSw); have kr0 := (Mem.row hSw .here).cell; have kr2 := (Mem.row hSw (.there (.there (.there (.there .here))))).cell; have kr3 := (Mem.row hSw (.there (.there (.there (.there (.there .here)))))).cell; have hcx := (hf.ext hSw.below).get hmn; rw [HX.out] at hcx; have hcz := (hw.ext hSw.below).get hmn; rw [HZ.out] at hcz; go_simp; (try rw [if_neg (by omega)]); try with_reducible rfl)
    simp only [Act.put, List.setIfInBounds_toArray, List.set_cons_zero, List.set_cons_succ]
    refine AtT.taked (i := 13) (v := ?_) (some 59) rfl rfl (by kernel_rfl) (by kernel_rfl) (by kernel_rfl) (by kernel_rfl) (fun _ _ _ h => h) (Or.inl ⟨by kernel_rfl, ?_⟩) hS ?_
    rotate_left
    · (intro wS hSw; (try dsimp only at hSw); have kr0 := (Mem.row hSw .here).cell; have kr2 := (Mem.row hSw (.there (.there (.there (.there .here))))).cell; have kr3 := (Mem.row hSw (.there (.there (.there (.there (.there .here)))))).cell; have hcx := (hf.ext hSw.below).get hmn; rw [HX.out] at hcx; have hcz := (hw.ext hSw.below).get hmn; rw [HZ.out] at hcz; go_simp; (try rw [if_neg (by omega)]); try with_reducible rfl)
    simp only [Act.put, List.setIfInBounds_toArray, List.set_cons_zero, List.set_cons_succ]
    refine AtT.taked (i := 14) (v := ?_) (some 60) rfl rfl (by kernel_rfl) (by kernel_rfl) (by kernel_rfl) (by kernel_rfl) (fun _ _ _ h => h) (Or.inl ⟨by kernel_rfl, ?_⟩) hS ?_
    rotate_left
    · (intro wS hSw; (try dsimp only at hSw); have kr0 := (Mem.row hSw .here).cell; have kr2 := (Mem.row hSw (.there (.there (.there (.there .here))))).cell; have kr3 := (Mem.row hSw (.there (.there (.there (.there (.there .here)))))).cell; have hcx := (hf.ext hSw.below).get hmn; rw [HX.out] at hcx; have hcz := (hw.ext hSw.below).get hmn; rw [HZ.out] at hcz; go_simp; (try rw [if_neg (by omega)]); try with_reducible rfl)
    simp only [Act.put, List.setIfInBounds_toArray, List.set_cons_zero, List.set_cons_succ]
    refine AtT.taked (i := 15) (v := ?_) (some 61) rfl rfl (by kernel_rfl) (by kernel_rfl) (by kernel_rfl) (by kernel_rfl) (fun _ _ _ h => h) (Or.inl ⟨by kernel_rfl, ?_⟩) hS ?_
    rotate_left
    · (intro wS hSw; (try dsimp only at hSw); go_simp; (try rw [if_neg (by omega)]); try with_reducible rfl)
    simp only [Act.put, List.setIfInBounds_toArray, List.set_cons_zero, List.set_cons_succ]
    refine AtT.taked (i := 16) (v := ?_) (some 62) rfl rfl (by kernel_rfl) (by kernel_rfl) (by kernel_rfl) (by kernel_rfl) (fun _ _ _ h => h) (Or.inl ⟨by kernel_rfl, ?_⟩) hS ?_
    rotate_left
    · (intro wS hSw; (try dsimp only at hSw); go_simp; (try rw [if_neg (by omega)]); try with_reducible rfl)
    simp only [Act.put, List.setIfInBounds_toArray, List.set_cons_zero, List.set_cons_succ]
    refine AtT.only (i := 17) (by kernel_rfl) rfl rfl ?_
    intro K hK
    have kk0 := (hM.row .here).cell
    have ff0 := (hM.row .here).free
    have ll0 := (hM.row .here).lt
    have kk1 := (hM.row (.there .here)).cell
    have ff1 := (hM.row (.there .here)).free
    have ll1 := (hM.row (.there .here)).lt
    have kk5 := (hM.row (.there (.there (.there (.there (.there .here)))))).cell
    have ff5 := (hM.row (.there (.there (.there (.there (.there .here)))))).free
    have ll5 := (hM.row (.there (.there (.there (.there (.there .here)))))).lt
    have kk6 := (hM.row (.there (.there (.there (.there (.there (.there .here))))))).cell
    have ff6 := (hM.row (.there (.there (.there (.there (.there (.there .here))))))).free
    have ll6 := (hM.row (.there (.there (.there (.there (.there (.there .here))))))).lt
    go_simp
    clear kk0 ff0 ll0 kk1 ff1 ll1 kk5 ff5 ll5 kk6 ff6 ll6
    refine hK.out _ _ (by apply Mem.tail; (repeat' (first | with_reducible exact hM | with_reducible exact hMp | with_reducible apply Mem.drew | with_reducible apply Mem.drewN | with_reducible apply Mem.alloc | with_reducible apply Mem.set | with_reducible exact Sto.row | ((with_reducible refine Sto.rowEq2 ?_ ?_); omega; rfl) | ((with_reducible refine Sto.rowEq ?_); omega) | with_reducible apply Sto.int | with_reducible apply Sto.there | with_reducible assumption | (unfold I64; omega) | (with_reducible (have hMx := Mem.undrew hM; exact hMx)) | (with_reducible (have hMx := Mem.undrew hMp; exact hMx))))) ?_
    clear hK K hS
    apply Mem.atT
    · (repeat' (first | with_reducible exact hM | with_reducible exact hMp | with_reducible apply Mem.drew | with_reducible apply Mem.drewN | with_reducible apply Mem.alloc | with_reducible apply Mem.set | with_reducible exact Sto.row | ((with_reducible refine Sto.rowEq2 ?_ ?_); omega; rfl) | ((with_reducible refine Sto.rowEq ?_); omega) | with_reducible apply Sto.int | with_reducible apply Sto.there | with_reducible assumption | (unfold I64; omega) | (with_reducible (have hMx := Mem.undrew hM; exact hMx)) | (with_reducible (have hMx := Mem.undrew hMp; exact hMx))))
    clear hM
    intro hM
    (try simp only [World.size_alloc, World.size_setCell, World.heap_drewN, heapDrew, Nat.add_assoc, Nat.reduceAdd, List.setIfInBounds_toArray, List.set_cons_zero, List.set_cons_succ, List.cons_append, List.nil_append] at hM)
    have hS := hM.tail
    refine AtT.last (by kernel_rfl) rfl (by kernel_rfl) ?_
    intro K hK
    clear hS
    go_simp
    refine hK.out _ _ ?_
    clear hK K
    obtain ⟨k0, f0, l0⟩ := hM.row .here
    go_wp2
    rw [HF.out, HX0.out]
    refine bodyPost_ret (v := .tuple #[.agg #[.int .i64 W, .int .i64 Hn, .slice b1 n d1, .slice b2 n d2, .slice (some ⟨g3, 0, none⟩) n d3, .int .i64 t], .bool (decide (z < 5))]) (by simp [results, Try.results89, go_sem, k0]) rfl ⟨b1, n, d1, b2, n, d2, some ⟨g3, 0, none⟩, n, d3, rfl, ?_⟩
    apply Mem.pick (is := [2, 3, 4])
    · (repeat' (first | with_reducible exact hM | with_reducible exact hMp | with_reducible apply Mem.drew | with_reducible apply Mem.drewN | with_reducible apply Mem.alloc | with_reducible apply Mem.set | with_reducible exact Sto.row | ((with_reducible refine Sto.rowEq2 ?_ ?_); omega; rfl) | ((with_reducible refine Sto.rowEq ?_); omega) | with_reducible apply Sto.int | with_reducible apply Sto.there | with_reducible assumption | (unfold I64; omega) | (with_reducible (have hMx := Mem.undrew hM; exact hMx)) | (with_reducible (have hMx := Mem.undrew hMp; exact hMx))))
    · decide
    · rfl

set_option maxRecDepth 100000 in
set_option maxHeartbeats 30000000 in
theorem act_any (W Hn : Nat) (a : Option Addr) (n c : Nat) (xs : List Int) (af : Option Addr) (cf : Nat) (fs : List Int) (aw : Option Addr) (cw : Nat) (ws : List Int) (t : Int) (k cc : Int) (w : World) (h : Ints w a n c xs) (hf : Ints w af n cf fs) (hw : Ints w aw n cw ws) (hnp : 0 < n) (hn25 : n ≤ 25) (hW : 1 ≤ W ∧ W ≤ 5) (ht : -1 ≤ t ∧ t ≤ 2000000) (hxs : ∀ x ∈ xs, 0 ≤ x) (hws : ∀ x ∈ ws, 0 ≤ x) (ha : actionB n k cc = true) :
    Calls Try.prog 89 #[.agg #[.int .i64 W, .int .i64 Hn, .slice a n c, .slice af n cf, .slice aw n cw, .int .i64 t], .agg #[.int .i64 k, .int .i64 cc]] w ((IncRes w (actI n ⟨W, Hn, xs, fs, ws, t⟩ k cc.toNat))) := by
  rcases actionB_cases ha with rfl | ⟨rfl | rfl, m, rfl, hmn⟩
  · exact act1_any W Hn a n c xs af cf fs aw cw ws t cc w h hf hw hnp hn25 hW ht hxs hws
  · exact act2_any W Hn a n c xs af cf fs aw cw ws t m w h hf hw hnp hn25 hW ht hxs hws hmn
  · exact act3_any W Hn a n c xs af cf fs aw cw ws t m w h hf hw hnp hn25 hW ht hxs hws hmn

set_option maxRecDepth 100000 in
set_option maxHeartbeats 30000000 in
theorem l21Act1_any (W Hn : Nat) (a : Option Addr) (n c : Nat) (xs : List Int) (af : Option Addr) (cf : Nat) (fs : List Int) (aw : Option Addr) (cw : Nat) (ws : List Int) (t : Int) (cc : Int) (w : World) (h : Ints w a n c xs) (hf : Ints w af n cf fs) (hw : Ints w aw n cw ws) (hnp : 0 < n) (hn25 : n ≤ 25) (hW : 1 ≤ W ∧ W ≤ 5) (ht : -1 ≤ t ∧ t ≤ 2000000) (hxs : ∀ x ∈ xs, 0 ≤ x) (hws : ∀ x ∈ ws, 0 ≤ x) :
    Calls Try.prog 97 #[.agg #[.int .i64 W, .int .i64 Hn, .slice a n c, .slice af n cf, .slice aw n cw, .int .i64 t], .agg #[.int .i64 1, .int .i64 cc]] w ((IncRes w (actI n ⟨W, Hn, xs, fs, ws, t⟩ 1 cc.toNat))) := by
  have hM := Mem.start w
  have HXS := Lib.hid hxs; have HWS := Lib.hid hws
  clear hxs hws
  have HF := Lib.hid (show actI n ⟨W, Hn, xs, fs, ws, t⟩ 1 cc.toNat = ⟨⟨W, Hn, xs, fireT W n xs fs ws, wetT n ws, t + 1⟩, decide (t < 9999)⟩ from rfl)
  go_enter Try.func97, Try.ntmps97
  go_wp2_with fail
  apply Mem.atA
  · (repeat' (first | with_reducible exact hM | with_reducible exact hMp | with_reducible apply Mem.drew | with_reducible apply Mem.drewN | with_reducible apply Mem.alloc | with_reducible apply Mem.set | with_reducible exact Sto.row | ((with_reducible refine Sto.rowEq2 ?_ ?_); omega; rfl) | ((with_reducible refine Sto.rowEq ?_); omega) | with_reducible apply Sto.int | with_reducible apply Sto.there | with_reducible assumption | (unfold I64; omega) | (with_reducible (have hMx := Mem.undrew hM; exact hMx)) | (with_reducible (have hMx := Mem.undrew hMp; exact hMx))))
  clear hM
  intro wst hM
  (try simp only [World.size_alloc, World.size_setCell, World.heap_drewN, heapDrew, Nat.add_assoc, Nat.reduceAdd, List.setIfInBounds_toArray, List.set_cons_zero, List.set_cons_succ, List.cons_append, List.nil_append] at hM)
  apply Calls.mono
  · (apply l21Own_any W Hn a n c xs af cf fs aw cw ws t) <;> (first | (show (_ : Prop); with_reducible assumption) | (apply Hid.out; with_reducible assumption) | (apply Mem.intsR hM; (repeat' (first | with_reducible exact In.here | with_reducible apply In.there)); done) | (apply Ints.ext (hb := hM.below); with_reducible assumption) | (apply Rd.ext (hb := hM.below); with_reducible assumption) | (apply Mem.row hM; (repeat' (first | with_reducible exact In.here | with_reducible apply In.there)); done) | (apply Row.ext (hb := hM.below); with_reducible assumption) | exact ⟨by omega, by omega⟩ | omega | (trace_state; fail))
  rintro e wq ⟨b1, d1, b2, d2, b3, d3, rfl, hm⟩
  replace hM := hM.join hm
  clear hm
  (try simp only [World.size_alloc, World.size_setCell, World.heap_drewN, heapDrew, Nat.add_assoc, Nat.reduceAdd, List.setIfInBounds_toArray, List.set_cons_zero, List.set_cons_succ, List.cons_append, List.nil_append] at hM)
  rw [show w.heap.size + 1 + 1 = w.heap.size + 2 from rfl]
  generalize w.heap.size + 2 = q2 at hM ⊢
  generalize w.heap.size + 1 = q1 at hM ⊢
  obtain ⟨k4, f4, l4⟩ := hM.row (.there (.there (.there (.there .here))))
  obtain ⟨k5, f5, l5⟩ := hM.row (.there (.there (.there (.there (.there .here)))))
  go_wp2_with fail
  clear k4 f4 l4 k5 f5 l5
  apply Mem.atWpA
  · (repeat' (first | with_reducible exact hM | with_reducible exact hMp | with_reducible apply Mem.drew | with_reducible apply Mem.drewN | with_reducible apply Mem.alloc | with_reducible apply Mem.set | with_reducible exact Sto.row | ((with_reducible refine Sto.rowEq2 ?_ ?_); omega; rfl) | ((with_reducible refine Sto.rowEq ?_); omega) | with_reducible apply Sto.int | with_reducible apply Sto.there | with_reducible assumption | (unfold I64; omega) | (with_reducible (have hMx := Mem.undrew hM; exact hMx)) | (with_reducible (have hMx := Mem.undrew hMp; exact hMx))))
  clear hM
  intro wst hM
  (try simp only [World.size_alloc, World.size_setCell, World.heap_drewN, heapDrew, Nat.add_assoc, Nat.reduceAdd, List.setIfInBounds_toArray, List.set_cons_zero, List.set_cons_succ, List.cons_append, List.nil_append] at hM)
  replace hM := hM.perm pf4
  refine AtT.startA hM.tail hM 6 (by kernel_rfl) ?_
  clear hM
  intro wd hM
  have hS := hM.tail
  refine AtT.taked (i := 0) (v := ?_) (some 13) rfl rfl (by kernel_rfl) (by kernel_rfl) (by kernel_rfl) (by kernel_rfl) (fun _ _ _ h => h) (Or.inl ⟨by kernel_rfl, ?_⟩) hS ?_
  rotate_left
  · (intro wS hSw; (try dsimp only at hSw); have kr0 := (Mem.row hSw .here).cell; have kr2 := (Mem.row hSw (.there (.there (.there (.there .here))))).cell; have kr3 := (Mem.row hSw (.there (.there (.there (.there (.there .here)))))).cell; go_simp; (try rw [if_neg (by omega)]); try with_reducible rfl)
  simp only [Act.put, List.setIfInBounds_toArray, List.set_cons_zero, List.set_cons_succ]
  refine AtT.taked (i := 2) (v := ?_) (some 15) rfl rfl (by kernel_rfl) (by kernel_rfl) (by kernel_rfl) (by kernel_rfl) (fun _ _ _ h => h) (Or.inl ⟨by kernel_rfl, ?_⟩) hS ?_
  rotate_left
  · (intro wS hSw; (try dsimp only at hSw); go_simp; (try rw [if_neg (by omega)]); try with_reducible rfl)
  simp only [Act.put, List.setIfInBounds_toArray, List.set_cons_zero, List.set_cons_succ]
  refine AtT.taked (i := 3) (v := ?_) (some 16) rfl rfl (by kernel_rfl) (by kernel_rfl) (by kernel_rfl) (by kernel_rfl) (fun _ _ _ h => h) (Or.inl ⟨by kernel_rfl, ?_⟩) hS ?_
  rotate_left
  · (intro wS hSw; (try dsimp only at hSw); have kr0 := (Mem.row hSw .here).cell; have kr2 := (Mem.row hSw (.there (.there (.there (.there .here))))).cell; have kr3 := (Mem.row hSw (.there (.there (.there (.there (.there .here)))))).cell; go_simp; (try rw [if_neg (by omega)]); try with_reducible rfl)
  simp only [Act.put, List.setIfInBounds_toArray, List.set_cons_zero, List.set_cons_succ]
  refine AtT.taked (i := 4) (v := ?_) (some 17) rfl rfl (by kernel_rfl) (by kernel_rfl) (by kernel_rfl) (by kernel_rfl) (fun _ _ _ h => h) (Or.inl ⟨by kernel_rfl, ?_⟩) hS ?_
  rotate_left
  · (intro wS hSw; (try dsimp only at hSw); go_simp; (try rw [if_neg (by omega)]); try with_reducible rfl)
  simp only [Act.put, List.setIfInBounds_toArray, List.set_cons_zero, List.set_cons_succ]
  refine AtT.only (i := 1) (by kernel_rfl) rfl rfl ?_
  intro K hK
  go_simp
  apply Calls.mono
  · (apply l21Tick_any W Hn a n c xs af cf fs aw cw ws t) <;> (first | (show (_ : Prop); with_reducible assumption) | (apply Hid.out; with_reducible assumption) | (apply Mem.intsR hM; (repeat' (first | with_reducible exact In.here | with_reducible apply In.there)); done) | (apply Ints.ext (hb := hM.below); with_reducible assumption) | (apply Rd.ext (hb := hM.below); with_reducible assumption) | (apply Mem.row hM; (repeat' (first | with_reducible exact In.here | with_reducible apply In.there)); done) | (apply Row.ext (hb := hM.below); with_reducible assumption) | exact ⟨by omega, by omega⟩ | omega | (trace_state; fail))
  rintro e w3 ⟨b4, d4, b5, d5, b6, d6, rfl, hm⟩
  replace hM := hM.join hm
  clear hm
  (try simp only [World.size_alloc, World.size_setCell, World.heap_drewN, heapDrew, Nat.add_assoc, Nat.reduceAdd, List.setIfInBounds_toArray, List.set_cons_zero, List.set_cons_succ, List.cons_append, List.nil_append] at hM)
  try dsimp only
  refine hK.out _ _ (hM.tail.tail.tail.tail) ?_
  clear hK K hS
  have hS := hM.tail.tail.tail.tail
  refine AtT.only (i := 5) (by kernel_rfl) rfl rfl ?_
  intro K hK
  have kk3 := (hM.row (.there (.there (.there .here)))).cell
  have ff3 := (hM.row (.there (.there (.there .here)))).free
  have ll3 := (hM.row (.there (.there (.there .here)))).lt
  have kk4 := (hM.row (.there (.there (.there (.there .here))))).cell
  have ff4 := (hM.row (.there (.there (.there (.there .here))))).free
  have ll4 := (hM.row (.there (.there (.there (.there .here))))).lt
  have kk8 := (hM.row (.there (.there (.there (.there (.there (.there (.there (.there .here))))))))).cell
  have ff8 := (hM.row (.there (.there (.there (.there (.there (.there (.there (.there .here))))))))).free
  have ll8 := (hM.row (.there (.there (.there (.there (.there (.there (.there (.there .here))))))))).lt
  have kk9 := (hM.row (.there (.there (.there (.there (.there (.there (.there (.there (.there .here)))))))))).cell
  have ff9 := (hM.row (.there (.there (.there (.there (.there (.there (.there (.there (.there .here)))))))))).free
  have ll9 := (hM.row (.there (.there (.there (.there (.there (.there (.there (.there (.there .here)))))))))).lt
  go_simp
  clear kk3 ff3 ll3 kk4 ff4 ll4 kk8 ff8 ll8 kk9 ff9 ll9
  refine hK.out _ _ (by apply Mem.tail; apply Mem.tail; apply Mem.tail; apply Mem.tail; (repeat' (first | with_reducible exact hM | with_reducible exact hMp | with_reducible apply Mem.drew | with_reducible apply Mem.drewN | with_reducible apply Mem.alloc | with_reducible apply Mem.set | with_reducible exact Sto.row | ((with_reducible refine Sto.rowEq2 ?_ ?_); omega; rfl) | ((with_reducible refine Sto.rowEq ?_); omega) | with_reducible apply Sto.int | with_reducible apply Sto.there | with_reducible assumption | (unfold I64; omega) | (with_reducible (have hMx := Mem.undrew hM; exact hMx)) | (with_reducible (have hMx := Mem.undrew hMp; exact hMx))))) ?_
  clear hK K hS
  apply Mem.atT
  · (repeat' (first | with_reducible exact hM | with_reducible exact hMp | with_reducible apply Mem.drew | with_reducible apply Mem.drewN | with_reducible apply Mem.alloc | with_reducible apply Mem.set | with_reducible exact Sto.row | ((with_reducible refine Sto.rowEq2 ?_ ?_); omega; rfl) | ((with_reducible refine Sto.rowEq ?_); omega) | with_reducible apply Sto.int | with_reducible apply Sto.there | with_reducible assumption | (unfold I64; omega) | (with_reducible (have hMx := Mem.undrew hM; exact hMx)) | (with_reducible (have hMx := Mem.undrew hMp; exact hMx))))
  clear hM
  intro hM
  (try simp only [World.size_alloc, World.size_setCell, World.heap_drewN, heapDrew, Nat.add_assoc, Nat.reduceAdd, List.setIfInBounds_toArray, List.set_cons_zero, List.set_cons_succ, List.cons_append, List.nil_append] at hM)
  have hS := hM.tail.tail.tail.tail
  refine AtT.last (by kernel_rfl) rfl (by kernel_rfl) ?_
  intro K hK
  clear hS
  go_simp
  refine hK.out _ _ ?_
  clear hK K
  obtain ⟨k3, f3, l3⟩ := hM.row (.there (.there (.there .here)))
  go_wp2
  rw [HF.out]
  refine bodyPost_ret (v := .tuple #[.agg #[.int .i64 W, .int .i64 Hn, .slice b4 n d4, .slice b5 n d5, .slice b6 n d6, .int .i64 (t + 1)], .bool (decide (t < 9999))]) (by simp [results, Try.results97, go_sem, k3]) rfl ⟨b4, n, d4, b5, n, d5, b6, n, d6, rfl, ?_⟩
  apply Mem.pick (is := [0, 1, 2])
  · (repeat' (first | with_reducible exact hM | with_reducible exact hMp | with_reducible apply Mem.drew | with_reducible apply Mem.drewN | with_reducible apply Mem.alloc | with_reducible apply Mem.set | with_reducible exact Sto.row | ((with_reducible refine Sto.rowEq2 ?_ ?_); omega; rfl) | ((with_reducible refine Sto.rowEq ?_); omega) | with_reducible apply Sto.int | with_reducible apply Sto.there | with_reducible assumption | (unfold I64; omega) | (with_reducible (have hMx := Mem.undrew hM; exact hMx)) | (with_reducible (have hMx := Mem.undrew hMp; exact hMx))))
  · decide
  · rfl

set_option maxRecDepth 100000 in
set_option maxHeartbeats 30000000 in
theorem l21Act2_any (W Hn : Nat) (a : Option Addr) (n c : Nat) (xs : List Int) (af : Option Addr) (cf : Nat) (fs : List Int) (aw : Option Addr) (cw : Nat) (ws : List Int) (t : Int) (m : Nat) (w : World) (h : Ints w a n c xs) (hf : Ints w af n cf fs) (hw : Ints w aw n cw ws) (hnp : 0 < n) (hn25 : n ≤ 25) (hW : 1 ≤ W ∧ W ≤ 5) (ht : -1 ≤ t ∧ t ≤ 2000000) (hxs : ∀ x ∈ xs, 0 ≤ x) (hws : ∀ x ∈ ws, 0 ≤ x) (hmn : m < n) :
    Calls Try.prog 97 #[.agg #[.int .i64 W, .int .i64 Hn, .slice a n c, .slice af n cf, .slice aw n cw, .int .i64 t], .agg #[.int .i64 2, .int .i64 (m : Int)]] w ((IncRes w (actI n ⟨W, Hn, xs, fs, ws, t⟩ 2 m))) := by
  have hM := Mem.start w
  have HXS := Lib.hid hxs; have HWS := Lib.hid hws
  clear hxs hws
  obtain ⟨bx, offx, rfl, -, -⟩ := hf.at' _ hmn
  obtain ⟨x, hx⟩ : ∃ x, fs.getD m 0 = x := ⟨_, rfl⟩
  have HX := Lib.hid hx
  have HL := Lib.hid h.len
  have i0 : (0 : Int) ≤ (m : Int) := by omega
  have i1 : (m : Int) < (n : Int) := by omega
  obtain ⟨y, hy⟩ : ∃ y, brn xs m = y := ⟨_, rfl⟩
  have HY := Lib.hid hy
  have HF := Lib.hid (show actI n ⟨W, Hn, xs, fs, ws, t⟩ 2 m = ⟨⟨W, Hn, xs.set m 0, fs, ws, t⟩, (x == 0) && y⟩ by
    unfold actI
    rw [if_neg (by decide), if_pos rfl, hx, hy])
  clear hx hy
  obtain ⟨ba, offa, rfl, -, -⟩ := h.at' _ hmn
  obtain ⟨v, hv⟩ : ∃ v, xs.getD m 0 = v := ⟨_, rfl⟩
  have HV := Lib.hid hv
  obtain rfl : decide (0 < v) = y := by rw [← HY.out, brn, hv]
  clear hv
  go_enter Try.func97, Try.ntmps97
  go_wp2_with fail
  apply Mem.atA
  · (repeat' (first | with_reducible exact hM | with_reducible exact hMp | with_reducible apply Mem.drew | with_reducible apply Mem.drewN | with_reducible apply Mem.alloc | with_reducible apply Mem.set | with_reducible exact Sto.row | ((with_reducible refine Sto.rowEq2 ?_ ?_); omega; rfl) | ((with_reducible refine Sto.rowEq ?_); omega) | with_reducible apply Sto.int | with_reducible apply Sto.there | with_reducible assumption | (unfold I64; omega) | (with_reducible (have hMx := Mem.undrew hM; exact hMx)) | (with_reducible (have hMx := Mem.undrew hMp; exact hMx))))
  clear hM
  intro wst hM
  (try simp only [World.size_alloc, World.size_setCell, World.heap_drewN, heapDrew, Nat.add_assoc, Nat.reduceAdd, List.setIfInBounds_toArray, List.set_cons_zero, List.set_cons_succ, List.cons_append, List.nil_append] at hM)
  apply Calls.mono
  · (apply l21Own_any W Hn _ n c xs _ cf fs aw cw ws t) <;> (first | (show (_ : Prop); with_reducible assumption) | (apply Hid.out; with_reducible assumption) | (apply Mem.intsR hM; (repeat' (first | with_reducible exact In.here | with_reducible apply In.there)); done) | (apply Ints.ext (hb := hM.below); with_reducible assumption) | (apply Rd.ext (hb := hM.below); with_reducible assumption) | (apply Mem.row hM; (repeat' (first | with_reducible exact In.here | with_reducible apply In.there)); done) | (apply Row.ext (hb := hM.below); with_reducible assumption) | exact ⟨by omega, by omega⟩ | omega | (trace_state; fail))
  rintro e wq ⟨b1, d1, b2, d2, b3, d3, rfl, hm⟩
  replace hM := hM.join hm
  clear hm
  (try simp only [World.size_alloc, World.size_setCell, World.heap_drewN, heapDrew, Nat.add_assoc, Nat.reduceAdd, List.setIfInBounds_toArray, List.set_cons_zero, List.set_cons_succ, List.cons_append, List.nil_append] at hM)
  rw [show w.heap.size + 1 + 1 = w.heap.size + 2 from rfl]
  generalize w.heap.size + 2 = q2 at hM ⊢
  generalize w.heap.size + 1 = q1 at hM ⊢
  obtain ⟨g1, rfl, -⟩ := (hM.ints .here).head hnp
  go_upto_region 2 with fail
  apply Mem.atWpA
  · (repeat' (first | with_reducible exact hM | with_reducible exact hMp | with_reducible apply Mem.drew | with_reducible apply Mem.drewN | with_reducible apply Mem.alloc | with_reducible apply Mem.set | with_reducible exact Sto.row | ((with_reducible refine Sto.rowEq2 ?_ ?_); omega; rfl) | ((with_reducible refine Sto.rowEq ?_); omega) | with_reducible apply Sto.int | with_reducible apply Sto.there | with_reducible assumption | (unfold I64; omega) | (with_reducible (have hMx := Mem.undrew hM; exact hMx)) | (with_reducible (have hMx := Mem.undrew hMp; exact hMx))))
  clear hM
  intro wst hM
  (try simp only [World.size_alloc, World.size_setCell, World.heap_drewN, heapDrew, Nat.add_assoc, Nat.reduceAdd, List.setIfInBounds_toArray, List.set_cons_zero, List.set_cons_succ, List.cons_append, List.nil_append] at hM)
  have hfk := (hM.ints (.there .here)).freeAt m
  have hdk := (hM.ints (.there .here)).cellAt hmn
  obtain ⟨k0, f0, l0⟩ := hM.row .here
  obtain ⟨k5, f5, l5⟩ := hM.row (.there (.there (.there (.there (.there .here)))))
  go_wp2_with fail
  clear k0 f0 l0 k5 f5 l5
  apply Mem.atWpA
  · (repeat' (first | with_reducible exact hM | with_reducible exact hMp | with_reducible apply Mem.drew | with_reducible apply Mem.drewN | with_reducible apply Mem.alloc | with_reducible apply Mem.set | with_reducible exact Sto.row | ((with_reducible refine Sto.rowEq2 ?_ ?_); omega; rfl) | ((with_reducible refine Sto.rowEq ?_); omega) | with_reducible apply Sto.int | with_reducible apply Sto.there | with_reducible assumption | (unfold I64; omega) | (with_reducible (have hMx := Mem.undrew hM; exact hMx)) | (with_reducible (have hMx := Mem.undrew hMp; exact hMx))))
  clear hM
  intro wst hM
  (try simp only [World.size_alloc, World.size_setCell, World.heap_drewN, heapDrew, Nat.add_assoc, Nat.reduceAdd, List.setIfInBounds_toArray, List.set_cons_zero, List.set_cons_succ, List.cons_append, List.nil_append] at hM)
  clear hfk hdk
  replace hM := hM.perm pf4
  cases hx0 : (x == 0)
  · skip
    refine AtT.startA hM.tail hM 19 (by kernel_rfl) ?_
    clear hM
    intro wd hM
    have hS := hM.tail
    refine AtT.taked (i := 0) (v := ?_) (some 26) rfl rfl (by kernel_rfl) (by kernel_rfl) (by kernel_rfl) (by kernel_rfl) (fun _ _ _ h => h) (Or.inl ⟨by kernel_rfl, ?_⟩) hS ?_
    rotate_left
    · (intro wS hSw; (try dsimp only at hSw); have kr0 := (Mem.row hSw .here).cell; have kr2 := (Mem.row hSw (.there (.there (.there (.there .here))))).cell; have kr3 := (Mem.row hSw (.there (.there (.there (.there (.there .here)))))).cell; have hcx := (hf.ext hSw.below).get hmn; rw [HX.out] at hcx; go_simp; (try rw [if_neg (by omega)]); try with_reducible rfl)
    simp only [Act.put, List.setIfInBounds_toArray, List.set_cons_zero, List.set_cons_succ]
    refine AtT.taked (i := 1) (v := ?_) (some 27) rfl rfl (by kernel_rfl) (by kernel_rfl) (by kernel_rfl) (by kernel_rfl) (fun _ _ _ h => h) (Or.inl ⟨by kernel_rfl, ?_⟩) hS ?_
    rotate_left
    · (intro wS hSw; (try dsimp only at hSw); go_simp; (try rw [if_neg (by omega)]); try with_reducible rfl)
    simp only [Act.put, List.setIfInBounds_toArray, List.set_cons_zero, List.set_cons_succ]
    refine AtT.taked (i := 2) (v := ?_) (some 28) rfl rfl (by kernel_rfl) (by kernel_rfl) (by kernel_rfl) (by kernel_rfl) (fun _ _ _ h => h) (Or.inl ⟨by kernel_rfl, ?_⟩) hS ?_
    rotate_left
    · (intro wS hSw; (try dsimp only at hSw); have kr0 := (Mem.row hSw .here).cell; have kr2 := (Mem.row hSw (.there (.there (.there (.there .here))))).cell; have kr3 := (Mem.row hSw (.there (.there (.there (.there (.there .here)))))).cell; have hcx := (hf.ext hSw.below).get hmn; rw [HX.out] at hcx; go_simp; (try rw [if_neg (by omega)]); try with_reducible rfl)
    simp only [Act.put, List.setIfInBounds_toArray, List.set_cons_zero, List.set_cons_succ]
    refine AtT.taked (i := 3) (v := ?_) (some 29) rfl rfl (by kernel_rfl) (by kernel_rfl) (by kernel_rfl) (by kernel_rfl) (fun _ _ _ h => h) (Or.inl ⟨by kernel_rfl, ?_⟩) hS ?_
    rotate_left
    · (intro wS hSw; (try dsimp only at hSw); go_simp; (try rw [if_neg (by omega)]); try with_reducible rfl)
    simp only [Act.put, List.setIfInBounds_toArray, List.set_cons_zero, List.set_cons_succ]
    refine AtT.taked (i := 4) (v := ?_) (some 30) rfl rfl (by kernel_rfl) (by kernel_rfl) (by kernel_rfl) (by kernel_rfl) (fun _ _ _ h => h) (Or.inl ⟨by kernel_rfl, ?_⟩) hS ?_
    rotate_left
    · (intro wS hSw; (try dsimp only at hSw); have kr0 := (Mem.row hSw .here).cell; have kr2 := (Mem.row hSw (.there (.there (.there (.there .here))))).cell; have kr3 := (Mem.row hSw (.there (.there (.there (.there (.there .here)))))).cell; have hcx := (hf.ext hSw.below).get hmn; rw [HX.out] at hcx; go_simp; (try rw [if_neg (by omega)]); try with_reducible rfl)
    simp only [Act.put, List.setIfInBounds_toArray, List.set_cons_zero, List.set_cons_succ]
    refine AtT.taked (i := 5) (v := ?_) (some 31) rfl rfl (by kernel_rfl) (by kernel_rfl) (by kernel_rfl) (by kernel_rfl) (fun _ _ _ h => h) (Or.inl ⟨by kernel_rfl, ?_⟩) hS ?_
    rotate_left
    · (intro wS hSw; (try dsimp only at hSw); have kr0 := (Mem.row hSw .here).cell; have kr2 := (Mem.row hSw (.there (.there (.there (.there .here))))).cell; have kr3 := (Mem.row hSw (.there (.there (.there (.there (.there .here)))))).cell; have hcx := (hf.ext hSw.below).get hmn; rw [HX.out] at hcx; go_simp; (try rw [if_neg (by omega)]); try with_reducible rfl)
    simp only [Act.put, List.setIfInBounds_toArray, List.set_cons_zero, List.set_cons_succ]
    refine AtT.taked (i := 6) (v := ?_) (some 32) rfl rfl (by kernel_rfl) (by kernel_rfl) (by kernel_rfl) (by kernel_rfl) (fun _ _ _ h => h) (Or.inl ⟨by kernel_rfl, ?_⟩) hS ?_
    rotate_left
    · (intro wS hSw; (try dsimp only at hSw); have kr0 := (Mem.row hSw .here).cell; have kr2 := (Mem.row hSw (.there (.there (.there (.there .here))))).cell; have kr3 := (Mem.row hSw (.there (.there (.there (.there (.there .here)))))).cell; have hcx := (hf.ext hSw.below).get hmn; rw [HX.out] at hcx; go_simp; (try rw [if_neg (by omega)]); try with_reducible rfl)
    simp only [Act.put, List.setIfInBounds_toArray, List.set_cons_zero, List.set_cons_succ]
    refine AtT.taked (i := 7) (v := ?_) (some 33) rfl rfl (by kernel_rfl) (by kernel_rfl) (by kernel_rfl) (by kernel_rfl) (fun _ _ _ h => h) (Or.inl ⟨by kernel_rfl, ?_⟩) hS ?_
    rotate_left
    · (intro wS hSw; (try dsimp only at hSw); go_simp; (try rw [if_neg (by omega)]); try with_reducible rfl)
    simp only [Act.put, List.setIfInBounds_toArray, List.set_cons_zero, List.set_cons_succ]
    refine AtT.taked (i := 8) (v := ?_) (some 34) rfl rfl (by kernel_rfl) (by kernel_rfl) (by kernel_rfl) (by kernel_rfl) (fun _ _ _ h => h) (Or.inl ⟨by kernel_rfl, ?_⟩) hS ?_
    rotate_left
    · (intro wS hSw; (try dsimp only at hSw); go_simp; (try rw [if_neg (by omega)]); try with_reducible rfl)
    simp only [Act.put, List.setIfInBounds_toArray, List.set_cons_zero, List.set_cons_succ]
    refine AtT.taked (i := 9) (v := undef) (some 35) rfl rfl (by kernel_rfl) (by kernel_rfl) (by kernel_rfl) (by kernel_rfl) (fun _ _ _ h => h) (Or.inr ⟨by kernel_rfl, rfl⟩) hS ?_
    simp only [Act.put, List.setIfInBounds_toArray, List.set_cons_zero, List.set_cons_succ]
    refine AtT.taked (i := 10) (v := undef) (some 36) rfl rfl (by kernel_rfl) (by kernel_rfl) (by kernel_rfl) (by kernel_rfl) (fun _ _ _ h => h) (Or.inr ⟨by kernel_rfl, rfl⟩) hS ?_
    simp only [Act.put, List.setIfInBounds_toArray, List.set_cons_zero, List.set_cons_succ]
    refine AtT.taked (i := 11) (v := undef) (some 37) rfl rfl (by kernel_rfl) (by kernel_rfl) (by kernel_rfl) (by kernel_rfl) (fun _ _ _ h => h) (Or.inr ⟨by kernel_rfl, rfl⟩) hS ?_
    simp only [Act.put, List.setIfInBounds_toArray, List.set_cons_zero, List.set_cons_succ]
    refine AtT.taked (i := 12) (v := undef) (some 38) rfl rfl (by kernel_rfl) (by kernel_rfl) (by kernel_rfl) (by kernel_rfl) (fun _ _ _ h => h) (Or.inr ⟨by kernel_rfl, rfl⟩) hS ?_
    simp only [Act.put, List.setIfInBounds_toArray, List.set_cons_zero, List.set_cons_succ]
    refine AtT.taked (i := 13) (v := undef) (some 39) rfl rfl (by kernel_rfl) (by kernel_rfl) (by kernel_rfl) (by kernel_rfl) (fun _ _ _ h => h) (Or.inr ⟨by kernel_rfl, rfl⟩) hS ?_
    simp only [Act.put, List.setIfInBounds_toArray, List.set_cons_zero, List.set_cons_succ]
    refine AtT.taked (i := 14) (v := undef) (some 40) rfl rfl (by kernel_rfl) (by kernel_rfl) (by kernel_rfl) (by kernel_rfl) (fun _ _ _ h => h) (Or.inr ⟨by kernel_rfl, rfl⟩) hS ?_
    simp only [Act.put, List.setIfInBounds_toArray, List.set_cons_zero, List.set_cons_succ]
    refine AtT.taked (i := 15) (v := undef) (some 41) rfl rfl (by kernel_rfl) (by kernel_rfl) (by kernel_rfl) (by kernel_rfl) (fun _ _ _ h => h) (Or.inr ⟨by kernel_rfl, rfl⟩) hS ?_
    simp only [Act.put, List.setIfInBounds_toArray, List.set_cons_zero, List.set_cons_succ]
    refine AtT.taked (i := 16) (v := undef) (some 42) rfl rfl (by kernel_rfl) (by kernel_rfl) (by kernel_rfl) (by kernel_rfl) (fun _ _ _ h => h) (Or.inr ⟨by kernel_rfl, rfl⟩) hS ?_
    simp only [Act.put, List.setIfInBounds_toArray, List.set_cons_zero, List.set_cons_succ]
    refine AtT.taked (i := 17) (v := ?_) (some 43) rfl rfl (by kernel_rfl) (by kernel_rfl) (by kernel_rfl) (by kernel_rfl) (fun _ _ _ h => h) (Or.inl ⟨by kernel_rfl, ?_⟩) hS ?_
    rotate_left
    · (intro wS hSw; (try dsimp only at hSw); go_simp; (try rw [if_neg (by omega)]); try with_reducible rfl)
    simp only [Act.put, List.setIfInBounds_toArray, List.set_cons_zero, List.set_cons_succ]
    refine AtT.only (i := 18) (by kernel_rfl) rfl rfl ?_
    intro K hK
    have kk0 := (hM.row .here).cell
    have ff0 := (hM.row .here).free
    have ll0 := (hM.row .here).lt
    have kk1 := (hM.row (.there .here)).cell
    have ff1 := (hM.row (.there .here)).free
    have ll1 := (hM.row (.there .here)).lt
    have kk5 := (hM.row (.there (.there (.there (.there (.there .here)))))).cell
    have ff5 := (hM.row (.there (.there (.there (.there (.there .here)))))).free
    have ll5 := (hM.row (.there (.there (.there (.there (.there .here)))))).lt
    have kk6 := (hM.row (.there (.there (.there (.there (.there (.there .here))))))).cell
    have ff6 := (hM.row (.there (.there (.there (.there (.there (.there .here))))))).free
    have ll6 := (hM.row (.there (.there (.there (.there (.there (.there .here))))))).lt
    go_simp
    clear kk0 ff0 ll0 kk1 ff1 ll1 kk5 ff5 ll5 kk6 ff6 ll6
    refine hK.out _ _ (by apply Mem.tail; (repeat' (first | with_reducible exact hM | with_reducible exact hMp | with_reducible apply Mem.drew | with_reducible apply Mem.drewN | with_reducible apply Mem.alloc | with_reducible apply Mem.set | with_reducible exact Sto.row | ((with_reducible refine Sto.rowEq2 ?_ ?_); omega; rfl) | ((with_reducible refine Sto.rowEq ?_); omega) | with_reducible apply Sto.int | with_reducible apply Sto.there | with_reducible assumption | (unfold I64; omega) | (with_reducible (have hMx := Mem.undrew hM; exact hMx)) | (with_reducible (have hMx := Mem.undrew hMp; exact hMx))))) ?_
    clear hK K hS
    apply Mem.atT
    · (repeat' (first | with_reducible exact hM | with_reducible exact hMp | with_reducible apply Mem.drew | with_reducible apply Mem.drewN | with_reducible apply Mem.alloc | with_reducible apply Mem.set | with_reducible exact Sto.row | ((with_reducible refine Sto.rowEq2 ?_ ?_); omega; rfl) | ((with_reducible refine Sto.rowEq ?_); omega) | with_reducible apply Sto.int | with_reducible apply Sto.there | with_reducible assumption | (unfold I64; omega) | (with_reducible (have hMx := Mem.undrew hM; exact hMx)) | (with_reducible (have hMx := Mem.undrew hMp; exact hMx))))
    clear hM
    intro hM
    (try simp only [World.size_alloc, World.size_setCell, World.heap_drewN, heapDrew, Nat.add_assoc, Nat.reduceAdd, List.setIfInBounds_toArray, List.set_cons_zero, List.set_cons_succ, List.cons_append, List.nil_append] at hM)
    have hS := hM.tail
    refine AtT.last (by kernel_rfl) rfl (by kernel_rfl) ?_
    intro K hK
    clear hS
    go_simp
    refine hK.out _ _ ?_
    clear hK K
    obtain ⟨k0, f0, l0⟩ := hM.row .here
    go_wp2
    rw [HF.out, hx0]
    refine bodyPost_ret (v := .tuple #[.agg #[.int .i64 W, .int .i64 Hn, .slice (some ⟨g1, 0, none⟩) n d1, .slice b2 n d2, .slice b3 n d3, .int .i64 t], .bool false]) (by simp [results, Try.results97, go_sem, k0]) rfl ⟨some ⟨g1, 0, none⟩, n, d1, b2, n, d2, b3, n, d3, rfl, ?_⟩
    apply Mem.pick (is := [2, 3, 4])
    · (repeat' (first | with_reducible exact hM | with_reducible exact hMp | with_reducible apply Mem.drew | with_reducible apply Mem.drewN | with_reducible apply Mem.alloc | with_reducible apply Mem.set | with_reducible exact Sto.row | ((with_reducible refine Sto.rowEq2 ?_ ?_); omega; rfl) | ((with_reducible refine Sto.rowEq ?_); omega) | with_reducible apply Sto.int | with_reducible apply Sto.there | with_reducible assumption | (unfold I64; omega) | (with_reducible (have hMx := Mem.undrew hM; exact hMx)) | (with_reducible (have hMx := Mem.undrew hMp; exact hMx))))
    · decide
    · rfl
  · skip
    refine AtT.startA hM.tail hM 19 (by kernel_rfl) ?_
    clear hM
    intro wd hM
    have hS := hM.tail
    refine AtT.taked (i := 0) (v := ?_) (some 26) rfl rfl (by kernel_rfl) (by kernel_rfl) (by kernel_rfl) (by kernel_rfl) (fun _ _ _ h => h) (Or.inl ⟨by kernel_rfl, ?_⟩) hS ?_
    rotate_left
    · (intro wS hSw; (try dsimp only at hSw); have kr0 := (Mem.row hSw .here).cell; have kr2 := (Mem.row hSw (.there (.there (.there (.there .here))))).cell; have kr3 := (Mem.row hSw (.there (.there (.there (.there (.there .here)))))).cell; have hcx := (hf.ext hSw.below).get hmn; rw [HX.out] at hcx; have hcv := (h.ext hSw.below).get hmn; rw [HV.out] at hcv; go_simp; (try rw [if_neg (by omega)]); try with_reducible rfl)
    simp only [Act.put, List.setIfInBounds_toArray, List.set_cons_zero, List.set_cons_succ]
    refine AtT.taked (i := 1) (v := ?_) (some 27) rfl rfl (by kernel_rfl) (by kernel_rfl) (by kernel_rfl) (by kernel_rfl) (fun _ _ _ h => h) (Or.inl ⟨by kernel_rfl, ?_⟩) hS ?_
    rotate_left
    · (intro wS hSw; (try dsimp only at hSw); go_simp; (try rw [if_neg (by omega)]); try with_reducible rfl)
    simp only [Act.put, List.setIfInBounds_toArray, List.set_cons_zero, List.set_cons_succ]
    refine AtT.taked (i := 2) (v := ?_) (some 28) rfl rfl (by kernel_rfl) (by kernel_rfl) (by kernel_rfl) (by kernel_rfl) (fun _ _ _ h => h) (Or.inl ⟨by kernel_rfl, ?_⟩) hS ?_
    rotate_left
    · (intro wS hSw; (try dsimp only at hSw); have kr0 := (Mem.row hSw .here).cell; have kr2 := (Mem.row hSw (.there (.there (.there (.there .here))))).cell; have kr3 := (Mem.row hSw (.there (.there (.there (.there (.there .here)))))).cell; have hcx := (hf.ext hSw.below).get hmn; rw [HX.out] at hcx; have hcv := (h.ext hSw.below).get hmn; rw [HV.out] at hcv; go_simp; (try rw [if_neg (by omega)]); try with_reducible rfl)
    simp only [Act.put, List.setIfInBounds_toArray, List.set_cons_zero, List.set_cons_succ]
    refine AtT.taked (i := 3) (v := ?_) (some 29) rfl rfl (by kernel_rfl) (by kernel_rfl) (by kernel_rfl) (by kernel_rfl) (fun _ _ _ h => h) (Or.inl ⟨by kernel_rfl, ?_⟩) hS ?_
    rotate_left
    · (intro wS hSw; (try dsimp only at hSw); go_simp; (try rw [if_neg (by omega)]); try with_reducible rfl)
    simp only [Act.put, List.setIfInBounds_toArray, List.set_cons_zero, List.set_cons_succ]
    refine AtT.taked (i := 4) (v := ?_) (some 30) rfl rfl (by kernel_rfl) (by kernel_rfl) (by kernel_rfl) (by kernel_rfl) (fun _ _ _ h => h) (Or.inl ⟨by kernel_rfl, ?_⟩) hS ?_
    rotate_left
    · (intro wS hSw; (try dsimp only at hSw); have kr0 := (Mem.row hSw .here).cell; have kr2 := (Mem.row hSw (.there (.there (.there (.there .here))))).cell; have kr3 := (Mem.row hSw (.there (.there (.there (.there (.there .here)))))).cell; have hcx := (hf.ext hSw.below).get hmn; rw [HX.out] at hcx; have hcv := (h.ext hSw.below).get hmn; rw [HV.out] at hcv; go_simp; (try rw [if_neg (by omega)]); try with_reducible rfl)
    simp only [Act.put, List.setIfInBounds_toArray, List.set_cons_zero, List.set_cons_succ]
    refine AtT.taked (i := 5) (v := ?_) (some 31) rfl rfl (by kernel_rfl) (by kernel_rfl) (by kernel_rfl) (by kernel_rfl) (fun _ _ _ h => h) (Or.inl ⟨by kernel_rfl, ?_⟩) hS ?_
    rotate_left
    · (intro wS hSw; (try dsimp only at hSw); have kr0 := (Mem.row hSw .here).cell; have kr2 := (Mem.row hSw (.there (.there (.there (.there .here))))).cell; have kr3 := (Mem.row hSw (.there (.there (.there (.there (.there .here)))))).cell; have hcx := (hf.ext hSw.below).get hmn; rw [HX.out] at hcx; have hcv := (h.ext hSw.below).get hmn; rw [HV.out] at hcv; go_simp; (try rw [if_neg (by omega)]); try with_reducible rfl)
    simp only [Act.put, List.setIfInBounds_toArray, List.set_cons_zero, List.set_cons_succ]
    refine AtT.taked (i := 6) (v := ?_) (some 32) rfl rfl (by kernel_rfl) (by kernel_rfl) (by kernel_rfl) (by kernel_rfl) (fun _ _ _ h => h) (Or.inl ⟨by kernel_rfl, ?_⟩) hS ?_
    rotate_left
    · (intro wS hSw; (try dsimp only at hSw); have kr0 := (Mem.row hSw .here).cell; have kr2 := (Mem.row hSw (.there (.there (.there (.there .here))))).cell; have kr3 := (Mem.row hSw (.there (.there (.there (.there (.there .here)))))).cell; have hcx := (hf.ext hSw.below).get hmn; rw [HX.out] at hcx; have hcv := (h.ext hSw.below).get hmn; rw [HV.out] at hcv; go_simp; (try rw [if_neg (by omega)]); try with_reducible rfl)
    simp only [Act.put, List.setIfInBounds_toArray, List.set_cons_zero, List.set_cons_succ]
    refine AtT.taked (i := 7) (v := ?_) (some 33) rfl rfl (by kernel_rfl) (by kernel_rfl) (by kernel_rfl) (by kernel_rfl) (fun _ _ _ h => h) (Or.inl ⟨by kernel_rfl, ?_⟩) hS ?_
    rotate_left
    · (intro wS hSw; (try dsimp only at hSw); go_simp; (try rw [if_neg (by omega)]); try with_reducible rfl)
    simp only [Act.put, List.setIfInBounds_toArray, List.set_cons_zero, List.set_cons_succ]
    refine AtT.taked (i := 8) (v := ?_) (some 34) rfl rfl (by kernel_rfl) (by kernel_rfl) (by kernel_rfl) (by kernel_rfl) (fun _ _ _ h => h) (Or.inl ⟨by kernel_rfl, ?_⟩) hS ?_
    rotate_left
    · (intro wS hSw; (try dsimp only at hSw); go_simp; (try rw [if_neg (by omega)]); try with_reducible rfl)
    simp only [Act.put, List.setIfInBounds_toArray, List.set_cons_zero, List.set_cons_succ]
    refine AtT.taked (i := 9) (v := ?_) (some 35) rfl rfl (by kernel_rfl) (by kernel_rfl) (by kernel_rfl) (by kernel_rfl) (fun _ _ _ h => h) (Or.inl ⟨by kernel_rfl, ?_⟩) hS ?_
    rotate_left
    · (intro wS hSw; (try dsimp only at hSw); go_simp; (try rw [if_neg (by omega)]); try with_reducible rfl)
    simp only [Act.put, List.setIfInBounds_toArray, List.set_cons_zero, List.set_cons_succ]
    refine AtT.taked (i := 10) (v := ?_) (some 36) rfl rfl (by kernel_rfl) (by kernel_rfl) (by kernel_rfl) (by kernel_rfl) (fun _ _ _ h => h) (Or.inl ⟨by kernel_rfl, ?_⟩) hS ?_
    rotate_left
    · (intro wS hSw; (try dsimp only at hSw); go_simp; (try rw [if_neg (by omega)]); try with_reducible rfl)
    simp only [Act.put, List.setIfInBounds_toArray, List.set_cons_zero, List.set_cons_succ]
    refine AtT.taked (i := 11) (v := ?_) (some 37) rfl rfl (by kernel_rfl) (by kernel_rfl) (by kernel_rfl) (by kernel_rfl) (fun _ _ _ h => h) (Or.inl ⟨by kernel_rfl, ?_⟩) hS ?_
    rotate_left
    · (intro wS hSw; (try dsimp only at hSw); have kr0 := (Mem.row hSw .here).cell; have kr2 := (Mem.row hSw (.there (.there (.there (.there .here))))).cell; have kr3 := (Mem.row hSw (.there (.there (.there (.there (.there .here)))))).cell; have hcx := (hf.ext hSw.below).get hmn; rw [HX.out] at hcx; have hcv := (h.ext hSw.below).get hmn; rw [HV.out] at hcv; go_simp; (try rw [if_neg (by omega)]); try with_reducible rfl)
    simp only [Act.put, List.setIfInBounds_toArray, List.set_cons_zero, List.set_cons_succ]
    refine AtT.taked (i := 12) (v := ?_) (some 38) rfl rfl (by kernel_rfl) (by kernel_rfl) (by kernel_rfl) (by kernel_rfl) (fun _ _ _ h => h) (Or.inl ⟨by kernel_rfl, ?_⟩) hS ?_
    rotate_left
    · (intro wS hSw; (try dsimp only at hSw); go_simp; (try rw [if_neg (by omega)]); try with_reducible rfl)
    simp only [Act.put, List.setIfInBounds_toArray, List.set_cons_zero, List.set_cons_succ]
    refine AtT.taked (i := 13) (v := ?_) (some 39) rfl rfl (by kernel_rfl) (by kernel_rfl) (by kernel_rfl) (by kernel_rfl) (fun _ _ _ h => h) (Or.inl ⟨by kernel_rfl, ?_⟩) hS ?_
    rotate_left
    · (intro wS hSw; (try dsimp only at hSw); have kr0 := (Mem.row hSw .here).cell; have kr2 := (Mem.row hSw (.there (.there (.there (.there .here))))).cell; have kr3 := (Mem.row hSw (.there (.there (.there (.there (.there .here)))))).cell; have hcx := (hf.ext hSw.below).get hmn; rw [HX.out] at hcx; have hcv := (h.ext hSw.below).get hmn; rw [HV.out] at hcv; go_simp; (try rw [if_neg (by omega)]); try with_reducible rfl)
    simp only [Act.put, List.setIfInBounds_toArray, List.set_cons_zero, List.set_cons_succ]
    refine AtT.taked (i := 14) (v := ?_) (some 40) rfl rfl (by kernel_rfl) (by kernel_rfl) (by kernel_rfl) (by kernel_rfl) (fun _ _ _ h => h) (Or.inl ⟨by kernel_rfl, ?_⟩) hS ?_
    rotate_left
    · (intro wS hSw; (try dsimp only at hSw); have kr0 := (Mem.row hSw .here).cell; have kr2 := (Mem.row hSw (.there (.there (.there (.there .here))))).cell; have kr3 := (Mem.row hSw (.there (.there (.there (.there (.there .here)))))).cell; have hcx := (hf.ext hSw.below).get hmn; rw [HX.out] at hcx; have hcv := (h.ext hSw.below).get hmn; rw [HV.out] at hcv; go_simp; (try rw [if_neg (by omega)]); try with_reducible rfl)
    simp only [Act.put, List.setIfInBounds_toArray, List.set_cons_zero, List.set_cons_succ]
    refine AtT.taked (i := 15) (v := ?_) (some 41) rfl rfl (by kernel_rfl) (by kernel_rfl) (by kernel_rfl) (by kernel_rfl) (fun _ _ _ h => h) (Or.inl ⟨by kernel_rfl, ?_⟩) hS ?_
    rotate_left
    · (intro wS hSw; (try dsimp only at hSw); have kr0 := (Mem.row hSw .here).cell; have kr2 := (Mem.row hSw (.there (.there (.there (.there .here))))).cell; have kr3 := (Mem.row hSw (.there (.there (.there (.there (.there .here)))))).cell; have hcx := (hf.ext hSw.below).get hmn; rw [HX.out] at hcx; have hcv := (h.ext hSw.below).get hmn; rw [HV.out] at hcv; go_simp; (try rw [if_neg (by omega)]); try with_reducible rfl)
    simp only [Act.put, List.setIfInBounds_toArray, List.set_cons_zero, List.set_cons_succ]
    refine AtT.taked (i := 16) (v := ?_) (some 42) rfl rfl (by kernel_rfl) (by kernel_rfl) (by kernel_rfl) (by kernel_rfl) (fun _ _ _ h => h) (Or.inl ⟨by kernel_rfl, ?_⟩) hS ?_
    rotate_left
    · (intro wS hSw; (try dsimp only at hSw); go_simp; (try rw [if_neg (by omega)]); try with_reducible rfl)
    simp only [Act.put, List.setIfInBounds_toArray, List.set_cons_zero, List.set_cons_succ]
    refine AtT.taked (i := 17) (v := ?_) (some 43) rfl rfl (by kernel_rfl) (by kernel_rfl) (by kernel_rfl) (by kernel_rfl) (fun _ _ _ h => h) (Or.inl ⟨by kernel_rfl, ?_⟩) hS ?_
    rotate_left
    · (intro wS hSw; (try dsimp only at hSw); go_simp; (try rw [if_neg (by omega)]); try with_reducible rfl)
    simp only [Act.put, List.setIfInBounds_toArray, List.set_cons_zero, List.set_cons_succ]
    refine AtT.only (i := 18) (by kernel_rfl) rfl rfl ?_
    intro K hK
    have kk0 := (hM.row .here).cell
    have ff0 := (hM.row .here).free
    have ll0 := (hM.row .here).lt
    have kk1 := (hM.row (.there .here)).cell
    have ff1 := (hM.row (.there .here)).free
    have ll1 := (hM.row (.there .here)).lt
    have kk5 := (hM.row (.there (.there (.there (.there (.there .here)))))).cell
    have ff5 := (hM.row (.there (.there (.there (.there (.there .here)))))).free
    have ll5 := (hM.row (.there (.there (.there (.there (.there .here)))))).lt
    have kk6 := (hM.row (.there (.there (.there (.there (.there (.there .here))))))).cell
    have ff6 := (hM.row (.there (.there (.there (.there (.there (.there .here))))))).free
    have ll6 := (hM.row (.there (.there (.there (.there (.there (.there .here))))))).lt
    go_simp
    clear kk0 ff0 ll0 kk1 ff1 ll1 kk5 ff5 ll5 kk6 ff6 ll6
    refine hK.out _ _ (by apply Mem.tail; (repeat' (first | with_reducible exact hM | with_reducible exact hMp | with_reducible apply Mem.drew | with_reducible apply Mem.drewN | with_reducible apply Mem.alloc | with_reducible apply Mem.set | with_reducible exact Sto.row | ((with_reducible refine Sto.rowEq2 ?_ ?_); omega; rfl) | ((with_reducible refine Sto.rowEq ?_); omega) | with_reducible apply Sto.int | with_reducible apply Sto.there | with_reducible assumption | (unfold I64; omega) | (with_reducible (have hMx := Mem.undrew hM; exact hMx)) | (with_reducible (have hMx := Mem.undrew hMp; exact hMx))))) ?_
    clear hK K hS
    apply Mem.atT
    · (repeat' (first | with_reducible exact hM | with_reducible exact hMp | with_reducible apply Mem.drew | with_reducible apply Mem.drewN | with_reducible apply Mem.alloc | with_reducible apply Mem.set | with_reducible exact Sto.row | ((with_reducible refine Sto.rowEq2 ?_ ?_); omega; rfl) | ((with_reducible refine Sto.rowEq ?_); omega) | with_reducible apply Sto.int | with_reducible apply Sto.there | with_reducible assumption | (unfold I64; omega) | (with_reducible (have hMx := Mem.undrew hM; exact hMx)) | (with_reducible (have hMx := Mem.undrew hMp; exact hMx))))
    clear hM
    intro hM
    (try simp only [World.size_alloc, World.size_setCell, World.heap_drewN, heapDrew, Nat.add_assoc, Nat.reduceAdd, List.setIfInBounds_toArray, List.set_cons_zero, List.set_cons_succ, List.cons_append, List.nil_append] at hM)
    have hS := hM.tail
    refine AtT.last (by kernel_rfl) rfl (by kernel_rfl) ?_
    intro K hK
    clear hS
    go_simp
    refine hK.out _ _ ?_
    clear hK K
    obtain ⟨k0, f0, l0⟩ := hM.row .here
    go_wp2
    rw [HF.out, hx0]
    refine bodyPost_ret (v := .tuple #[.agg #[.int .i64 W, .int .i64 Hn, .slice (some ⟨g1, 0, none⟩) n d1, .slice b2 n d2, .slice b3 n d3, .int .i64 t], .bool (decide (0 < v))]) (by simp [results, Try.results97, go_sem, k0]) rfl ⟨some ⟨g1, 0, none⟩, n, d1, b2, n, d2, b3, n, d3, rfl, ?_⟩
    apply Mem.pick (is := [2, 3, 4])
    · (repeat' (first | with_reducible exact hM | with_reducible exact hMp | with_reducible apply Mem.drew | with_reducible apply Mem.drewN | with_reducible apply Mem.alloc | with_reducible apply Mem.set | with_reducible exact Sto.row | ((with_reducible refine Sto.rowEq2 ?_ ?_); omega; rfl) | ((with_reducible refine Sto.rowEq ?_); omega) | with_reducible apply Sto.int | with_reducible apply Sto.there | with_reducible assumption | (unfold I64; omega) | (with_reducible (have hMx := Mem.undrew hM; exact hMx)) | (with_reducible (have hMx := Mem.undrew hMp; exact hMx))))
    · decide
    · rfl

set_option maxRecDepth 100000 in
set_option maxHeartbeats 30000000 in
theorem l21Act3_any (W Hn : Nat) (a : Option Addr) (n c : Nat) (xs : List Int) (af : Option Addr) (cf : Nat) (fs : List Int) (aw : Option Addr) (cw : Nat) (ws : List Int) (t : Int) (m : Nat) (w : World) (h : Ints w a n c xs) (hf : Ints w af n cf fs) (hw : Ints w aw n cw ws) (hnp : 0 < n) (hn25 : n ≤ 25) (hW : 1 ≤ W ∧ W ≤ 5) (ht : -1 ≤ t ∧ t ≤ 2000000) (hxs : ∀ x ∈ xs, 0 ≤ x) (hws : ∀ x ∈ ws, 0 ≤ x) (hmn : m < n) :
    Calls Try.prog 97 #[.agg #[.int .i64 W, .int .i64 Hn, .slice a n c, .slice af n cf, .slice aw n cw, .int .i64 t], .agg #[.int .i64 3, .int .i64 (m : Int)]] w ((IncRes w (actI n ⟨W, Hn, xs, fs, ws, t⟩ 3 m))) := by
  have hM := Mem.start w
  have HXS := Lib.hid hxs; have HWS := Lib.hid hws
  clear hxs hws
  obtain ⟨bx, offx, rfl, -, -⟩ := hf.at' _ hmn
  obtain ⟨x, hx⟩ : ∃ x, fs.getD m 0 = x := ⟨_, rfl⟩
  have HX := Lib.hid hx
  have HL := Lib.hid h.len
  have i0 : (0 : Int) ≤ (m : Int) := by omega
  have i1 : (m : Int) < (n : Int) := by omega
  obtain ⟨bz, offz, rfl, -, -⟩ := hw.at' _ hmn
  obtain ⟨z, hz⟩ : ∃ z, ws.getD m 0 = z := ⟨_, rfl⟩
  have HZ := Lib.hid hz
  have HF := Lib.hid (show actI n ⟨W, Hn, xs, fs, ws, t⟩ 3 m = ⟨⟨W, Hn, xs, fs, ws.set m 5, t⟩, decide (x ≤ 0) && decide (z < 5)⟩ by
    unfold actI
    rw [if_neg (by decide), if_neg (by decide), hx, hz])
  clear hx hz
  go_enter Try.func97, Try.ntmps97
  go_wp2_with fail
  apply Mem.atA
  · (repeat' (first | with_reducible exact hM | with_reducible exact hMp | with_reducible apply Mem.drew | with_reducible apply Mem.drewN | with_reducible apply Mem.alloc | with_reducible apply Mem.set | with_reducible exact Sto.row | ((with_reducible refine Sto.rowEq2 ?_ ?_); omega; rfl) | ((with_reducible refine Sto.rowEq ?_); omega) | with_reducible apply Sto.int | with_reducible apply Sto.there | with_reducible assumption | (unfold I64; omega) | (with_reducible (have hMx := Mem.undrew hM; exact hMx)) | (with_reducible (have hMx := Mem.undrew hMp; exact hMx))))
  clear hM
  intro wst hM
  (try simp only [World.size_alloc, World.size_setCell, World.heap_drewN, heapDrew, Nat.add_assoc, Nat.reduceAdd, List.setIfInBounds_toArray, List.set_cons_zero, List.set_cons_succ, List.cons_append, List.nil_append] at hM)
  apply Calls.mono
  · (apply l21Own_any W Hn a n c xs _ cf fs _ cw ws t) <;> (first | (show (_ : Prop); with_reducible assumption) | (apply Hid.out; with_reducible assumption) | (apply Mem.intsR hM; (repeat' (first | with_reducible exact In.here | with_reducible apply In.there)); done) | (apply Ints.ext (hb := hM.below); with_reducible assumption) | (apply Rd.ext (hb := hM.below); with_reducible assumption) | (apply Mem.row hM; (repeat' (first | with_reducible exact In.here | with_reducible apply In.there)); done) | (apply Row.ext (hb := hM.below); with_reducible assumption) | exact ⟨by omega, by omega⟩ | omega | (trace_state; fail))
  rintro e wq ⟨b1, d1, b2, d2, b3, d3, rfl, hm⟩
  replace hM := hM.join hm
  clear hm
  (try simp only [World.size_alloc, World.size_setCell, World.heap_drewN, heapDrew, Nat.add_assoc, Nat.reduceAdd, List.setIfInBounds_toArray, List.set_cons_zero, List.set_cons_succ, List.cons_append, List.nil_append] at hM)
  rw [show w.heap.size + 1 + 1 = w.heap.size + 2 from rfl]
  generalize w.heap.size + 2 = q2 at hM ⊢
  generalize w.heap.size + 1 = q1 at hM ⊢
  obtain ⟨g3, rfl, -⟩ := (hM.ints (.there (.there .here))).head hnp
  go_upto_region 2 with fail
  apply Mem.atWpA
  · (repeat' (first | with_reducible exact hM | with_reducible exact hMp | with_reducible apply Mem.drew | with_reducible apply Mem.drewN | with_reducible apply Mem.alloc | with_reducible apply Mem.set | with_reducible exact Sto.row | ((with_reducible refine Sto.rowEq2 ?_ ?_); omega; rfl) | ((with_reducible refine Sto.rowEq ?_); omega) | with_reducible apply Sto.int | with_reducible apply Sto.there | with_reducible assumption | (unfold I64; omega) | (with_reducible (have hMx := Mem.undrew hM; exact hMx)) | (with_reducible (have hMx := Mem.undrew hMp; exact hMx))))
  clear hM
  intro wst hM
  (try simp only [World.size_alloc, World.size_setCell, World.heap_drewN, heapDrew, Nat.add_assoc, Nat.reduceAdd, List.setIfInBounds_toArray, List.set_cons_zero, List.set_cons_succ, List.cons_append, List.nil_append] at hM)
  have hfk := (hM.ints (.there (.there (.there .here)))).freeAt m
  have hdk := (hM.ints (.there (.there (.there .here)))).cellAt hmn
  obtain ⟨k0, f0, l0⟩ := hM.row .here
  obtain ⟨k5, f5, l5⟩ := hM.row (.there (.there (.there (.there (.there .here)))))
  go_wp2_with fail
  clear k0 f0 l0 k5 f5 l5
  apply Mem.atWpA
  · (repeat' (first | with_reducible exact hM | with_reducible exact hMp | with_reducible apply Mem.drew | with_reducible apply Mem.drewN | with_reducible apply Mem.alloc | with_reducible apply Mem.set | with_reducible exact Sto.row | ((with_reducible refine Sto.rowEq2 ?_ ?_); omega; rfl) | ((with_reducible refine Sto.rowEq ?_); omega) | with_reducible apply Sto.int | with_reducible apply Sto.there | with_reducible assumption | (unfold I64; omega) | (with_reducible (have hMx := Mem.undrew hM; exact hMx)) | (with_reducible (have hMx := Mem.undrew hMp; exact hMx))))
  clear hM
  intro wst hM
  (try simp only [World.size_alloc, World.size_setCell, World.heap_drewN, heapDrew, Nat.add_assoc, Nat.reduceAdd, List.setIfInBounds_toArray, List.set_cons_zero, List.set_cons_succ, List.cons_append, List.nil_append] at hM)
  clear hfk hdk
  replace hM := hM.perm pf4
  by_cases hx1 : x ≤ 0
  rotate_left
  · have hx0 : decide (x ≤ 0) = false := decide_eq_false hx1
    have HX0 := Lib.hid hx0
    clear hx1
    refine AtT.startA hM.tail hM 18 (by kernel_rfl) ?_
    clear hM
    intro wd hM
    have hS := hM.tail
    refine AtT.taked (i := 0) (v := ?_) (some 49) rfl rfl (by kernel_rfl) (by kernel_rfl) (by kernel_rfl) (by kernel_rfl) (fun _ _ _ h => h) (Or.inl ⟨by kernel_rfl, ?_⟩) hS ?_
    rotate_left
    · (intro wS hSw; (try dsimp only at hSw); have kr0 := (Mem.row hSw .here).cell; have kr2 := (Mem.row hSw (.there (.there (.there (.there .here))))).cell; have kr3 := (Mem.row hSw (.there (.there (.there (.there (.there .here)))))).cell; have hcx := (hf.ext hSw.below).get hmn; rw [HX.out] at hcx; go_simp; (try rw [if_neg (by omega)]); try with_reducible rfl)
    simp only [Act.put, List.setIfInBounds_toArray, List.set_cons_zero, List.set_cons_succ]
    refine AtT.taked (i := 1) (v := ?_) (some 50) rfl rfl (by kernel_rfl) (by kernel_rfl) (by kernel_rfl) (by kernel_rfl) (fun _ _ _ h => h) (Or.inl ⟨by kernel_rfl, ?_⟩) hS ?_
    rotate_left
    · (intro wS hSw; (try dsimp only at hSw); go_simp; (try rw [if_neg (by omega)]); try with_reducible rfl)
    simp only [Act.put, List.setIfInBounds_toArray, List.set_cons_zero, List.set_cons_succ]
    refine AtT.taked (i := 2) (v := ?_) (some 51) rfl rfl (by kernel_rfl) (by kernel_rfl) (by kernel_rfl) (by kernel_rfl) (fun _ _ _ h => h) (Or.inl ⟨by kernel_rfl, ?_⟩) hS ?_
    rotate_left
    · (intro wS hSw; (try dsimp only at hSw); have kr0 := (Mem.row hSw .here).cell; have kr2 := (Mem.row hSw (.there (.there (.there (.there .here))))).cell; have kr3 := (Mem.row hSw (.there (.there (.there (.there (.there .here)))))).cell; have hcx := (hf.ext hSw.below).get hmn; rw [HX.out] at hcx; go_simp; (try rw [if_neg (by omega)]); try with_reducible rfl)
    simp only [Act.put, List.setIfInBounds_toArray, List.set_cons_zero, List.set_cons_succ]
    refine AtT.taked (i := 3) (v := ?_) (some 52) rfl rfl (by kernel_rfl) (by kernel_rfl) (by kernel_rfl) (by kernel_rfl) (fun _ _ _ h => h) (Or.inl ⟨by kernel_rfl, ?_⟩) hS ?_
    rotate_left
    · (intro wS hSw; (try dsimp only at hSw); go_simp; (try rw [if_neg (by omega)]); try with_reducible rfl)
    simp only [Act.put, List.setIfInBounds_toArray, List.set_cons_zero, List.set_cons_succ]
    refine AtT.taked (i := 4) (v := ?_) (some 53) rfl rfl (by kernel_rfl) (by kernel_rfl) (by kernel_rfl) (by kernel_rfl) (fun _ _ _ h => h) (Or.inl ⟨by kernel_rfl, ?_⟩) hS ?_
    rotate_left
    · (intro wS hSw; (try dsimp only at hSw); have kr0 := (Mem.row hSw .here).cell; have kr2 := (Mem.row hSw (.there (.there (.there (.there .here))))).cell; have kr3 := (Mem.row hSw (.there (.there (.there (.there (.there .here)))))).cell; have hcx := (hf.ext hSw.below).get hmn; rw [HX.out] at hcx; go_simp; (try rw [if_neg (by omega)]); try with_reducible rfl)
    simp only [Act.put, List.setIfInBounds_toArray, List.set_cons_zero, List.set_cons_succ]
    refine AtT.taked (i := 5) (v := ?_) (some 54) rfl rfl (by kernel_rfl) (by kernel_rfl) (by kernel_rfl) (by kernel_rfl) (fun _ _ _ h => h) (Or.inl ⟨by kernel_rfl, ?_⟩) hS ?_
    rotate_left
    · (intro wS hSw; (try dsimp only at hSw); have kr0 := (Mem.row hSw .here).cell; have kr2 := (Mem.row hSw (.there (.there (.there (.there .here))))).cell; have kr3 := (Mem.row hSw (.there (.there (.there (.there (.there .here)))))).cell; have hcx := (hf.ext hSw.below).get hmn; rw [HX.out] at hcx; go_simp; (try rw [if_neg (by omega)]); try with_reducible rfl)
    simp only [Act.put, List.setIfInBounds_toArray, List.set_cons_zero, List.set_cons_succ]
    refine AtT.taked (i := 6) (v := ?_) (some 55) rfl rfl (by kernel_rfl) (by kernel_rfl) (by kernel_rfl) (by kernel_rfl) (fun _ _ _ h => h) (Or.inl ⟨by kernel_rfl, ?_⟩) hS ?_
    rotate_left
    · (intro wS hSw; (try dsimp only at hSw); have kr0 := (Mem.row hSw .here).cell; have kr2 := (Mem.row hSw (.there (.there (.there (.there .here))))).cell; have kr3 := (Mem.row hSw (.there (.there (.there (.there (.there .here)))))).cell; have hcx := (hf.ext hSw.below).get hmn; rw [HX.out] at hcx; go_simp; (try rw [if_neg (by omega)]); try with_reducible rfl)
    simp only [Act.put, List.setIfInBounds_toArray, List.set_cons_zero, List.set_cons_succ]
    refine AtT.taked (i := 7) (v := ?_) (some 56) rfl rfl (by kernel_rfl) (by kernel_rfl) (by kernel_rfl) (by kernel_rfl) (fun _ _ _ h => h) (Or.inl ⟨by kernel_rfl, ?_⟩) hS ?_
    rotate_left
    · (intro wS hSw; (try dsimp only at hSw); go_simp; (try rw [if_neg (by omega)]); try with_reducible rfl)
    simp only [Act.put, List.setIfInBounds_toArray, List.set_cons_zero, List.set_cons_succ]
    refine AtT.taked (i := 8) (v := ?_) (some 57) rfl rfl (by kernel_rfl) (by kernel_rfl) (by kernel_rfl) (by kernel_rfl) (fun _ _ _ h => h) (Or.inl ⟨by kernel_rfl, ?_⟩) hS ?_
    rotate_left
    · (intro wS hSw; (try dsimp only at hSw); go_simp; (try rw [if_neg (by omega)]); try with_reducible rfl)
    simp only [Act.put, List.setIfInBounds_toArray, List.set_cons_zero, List.set_cons_succ]
    refine AtT.taked (i := 9) (v := undef) (some 58) rfl rfl (by kernel_rfl) (by kernel_rfl) (by kernel_rfl) (by kernel_rfl) (fun _ _ _ h => h) (Or.inr ⟨by kernel_rfl, rfl⟩) hS ?_
    simp only [Act.put, List.setIfInBounds_toArray, List.set_cons_zero, List.set_cons_succ]
    refine AtT.taked (i := 10) (v := undef) (some 59) rfl rfl (by kernel_rfl) (by kernel_rfl) (by kernel_rfl) (by kernel_rfl) (fun _ _ _ h => h) (Or.inr ⟨by kernel_rfl, rfl⟩) hS ?_
    simp only [Act.put, List.setIfInBounds_toArray, List.set_cons_zero, List.set_cons_succ]
    refine AtT.taked (i := 11) (v := undef) (some 60) rfl rfl (by kernel_rfl) (by kernel_rfl) (by kernel_rfl) (by kernel_rfl) (fun _ _ _ h => h) (Or.inr ⟨by kernel_rfl, rfl⟩) hS ?_
    simp only [Act.put, List.setIfInBounds_toArray, List.set_cons_zero, List.set_cons_succ]
    refine AtT.taked (i := 12) (v := undef) (some 61) rfl rfl (by kernel_rfl) (by kernel_rfl) (by kernel_rfl) (by kernel_rfl) (fun _ _ _ h => h) (Or.inr ⟨by kernel_rfl, rfl⟩) hS ?_
    simp only [Act.put, List.setIfInBounds_toArray, List.set_cons_zero, List.set_cons_succ]
    refine AtT.taked (i := 13) (v := undef) (some 62) rfl rfl (by kernel_rfl) (by kernel_rfl) (by kernel_rfl) (by kernel_rfl) (fun _ _ _ h => h) (Or.inr ⟨by kernel_rfl, rfl⟩) hS ?_
    simp only [Act.put, List.setIfInBounds_toArray, List.set_cons_zero, List.set_cons_succ]
    refine AtT.taked (i := 14) (v := undef) (some 63) rfl rfl (by kernel_rfl) (by kernel_rfl) (by kernel_rfl) (by kernel_rfl) (fun _ _ _ h => h) (Or.inr ⟨by kernel_rfl, rfl⟩) hS ?_
    simp only [Act.put, List.setIfInBounds_toArray, List.set_cons_zero, List.set_cons_succ]
    refine AtT.taked (i := 15) (v := undef) (some 64) rfl rfl (by kernel_rfl) (by kernel_rfl) (by kernel_rfl) (by kernel_rfl) (fun _ _ _ h => h) (Or.inr ⟨by kernel_rfl, rfl⟩) hS ?_
    simp only [Act.put, List.setIfInBounds_toArray, List.set_cons_zero, List.set_cons_succ]
    refine AtT.taked (i := 16) (v := ?_) (some 65) rfl rfl (by kernel_rfl) (by kernel_rfl) (by kernel_rfl) (by kernel_rfl) (fun _ _ _ h => h) (Or.inl ⟨by kernel_rfl, ?_⟩) hS ?_
    rotate_left
    · (intro wS hSw; (try dsimp only at hSw); go_simp; (try rw [if_neg (by omega)]); try with_reducible rfl)
    simp only [Act.put, List.setIfInBounds_toArray, List.set_cons_zero, List.set_cons_succ]
    refine AtT.only (i := 17) (by kernel_rfl) rfl rfl ?_
    intro K hK
    have kk0 := (hM.row .here).cell
    have ff0 := (hM.row .here).free
    have ll0 := (hM.row .here).lt
    have kk1 := (hM.row (.there .here)).cell
    have ff1 := (hM.row (.there .here)).free
    have ll1 := (hM.row (.there .here)).lt
    have kk5 := (hM.row (.there (.there (.there (.there (.there .here)))))).cell
    have ff5 := (hM.row (.there (.there (.there (.there (.there .here)))))).free
    have ll5 := (hM.row (.there (.there (.there (.there (.there .here)))))).lt
    have kk6 := (hM.row (.there (.there (.there (.there (.there (.there .here))))))).cell
    have ff6 := (hM.row (.there (.there (.there (.there (.there (.there .here))))))).free
    have ll6 := (hM.row (.there (.there (.there (.there (.there (.there .here))))))).lt
    go_simp
    clear kk0 ff0 ll0 kk1 ff1 ll1 kk5 ff5 ll5 kk6 ff6 ll6
    refine hK.out _ _ (by apply Mem.tail; (repeat' (first | with_reducible exact hM | with_reducible exact hMp | with_reducible apply Mem.drew | with_reducible apply Mem.drewN | with_reducible apply Mem.alloc | with_reducible apply Mem.set | with_reducible exact Sto.row | ((with_reducible refine Sto.rowEq2 ?_ ?_); omega; rfl) | ((with_reducible refine Sto.rowEq ?_); omega) | with_reducible apply Sto.int | with_reducible apply Sto.there | with_reducible assumption | (unfold I64; omega) | (with_reducible (have hMx := Mem.undrew hM; exact hMx)) | (with_reducible (have hMx := Mem.undrew hMp; exact hMx))))) ?_
    clear hK K hS
    apply Mem.atT
    · (repeat' (first | with_reducible exact hM | with_reducible exact hMp | with_reducible apply Mem.drew | with_reducible apply Mem.drewN | with_reducible apply Mem.alloc | with_reducible apply Mem.set | with_reducible exact Sto.row | ((with_reducible refine Sto.rowEq2 ?_ ?_); omega; rfl) | ((with_reducible refine Sto.rowEq ?_); omega) | with_reducible apply Sto.int | with_reducible apply Sto.there | with_reducible assumption | (unfold I64; omega) | (with_reducible (have hMx := Mem.undrew hM; exact hMx)) | (with_reducible (have hMx := Mem.undrew hMp; exact hMx))))
    clear hM
    intro hM
    (try simp only [World.size_alloc, World.size_setCell, World.heap_drewN, heapDrew, Nat.add_assoc, Nat.reduceAdd, List.setIfInBounds_toArray, List.set_cons_zero, List.set_cons_succ, List.cons_append, List.nil_append] at hM)
    have hS := hM.tail
    refine AtT.last (by kernel_rfl) rfl (by kernel_rfl) ?_
    intro K hK
    clear hS
    go_simp
    refine hK.out _ _ ?_
    clear hK K
    obtain ⟨k0, f0, l0⟩ := hM.row .here
    go_wp2
    rw [HF.out, HX0.out]
    refine bodyPost_ret (v := .tuple #[.agg #[.int .i64 W, .int .i64 Hn, .slice b1 n d1, .slice b2 n d2, .slice (some ⟨g3, 0, none⟩) n d3, .int .i64 t], .bool false]) (by simp [results, Try.results97, go_sem, k0]) rfl ⟨b1, n, d1, b2, n, d2, some ⟨g3, 0, none⟩, n, d3, rfl, ?_⟩
    apply Mem.pick (is := [2, 3, 4])
    · (repeat' (first | with_reducible exact hM | with_reducible exact hMp | with_reducible apply Mem.drew | with_reducible apply Mem.drewN | with_reducible apply Mem.alloc | with_reducible apply Mem.set | with_reducible exact Sto.row | ((with_reducible refine Sto.rowEq2 ?_ ?_); omega; rfl) | ((with_reducible refine Sto.rowEq ?_); omega) | with_reducible apply Sto.int | with_reducible apply Sto.there | with_reducible assumption | (unfold I64; omega) | (with_reducible (have hMx := Mem.undrew hM; exact hMx)) | (with_reducible (have hMx := Mem.undrew hMp; exact hMx))))
    · decide
    · rfl
  · have hx0 : decide (x ≤ 0) = true := decide_eq_true hx1
    have HX0 := Lib.hid hx0
    clear hx1
    refine AtT.startA hM.tail hM 18 (by kernel_rfl) ?_
    clear hM
    intro wd hM
    have hS := hM.tail
    refine AtT.taked (i := 0) (v := ?_) (some 49) rfl rfl (by kernel_rfl) (by kernel_rfl) (by kernel_rfl) (by kernel_rfl) (fun _ _ _ h => h) (Or.inl ⟨by kernel_rfl, ?_⟩) hS ?_
    rotate_left
    · (intro wS hSw; (try dsimp only at hSw); have kr0 := (Mem.row hSw .here).cell; have kr2 := (Mem.row hSw (.there (.there (.there (.there .here))))).cell; have kr3 := (Mem.row hSw (.there (.there (.there (.there (.there .here)))))).cell; have hcx := (hf.ext hSw.below).get hmn; rw [HX.out] at hcx; have hcz := (hw.ext hSw.below).get hmn; rw [HZ.out] at hcz; go_simp; (try rw [if_neg (by omega)]); try with_reducible rfl)
    simp only [Act.put, List.setIfInBounds_toArray, List.set_cons_zero, List.set_cons_succ]
    refine AtT.taked (i := 1) (v := ?_) (some 50) rfl rfl (by kernel_rfl) (by kernel_rfl) (by kernel_rfl) (by kernel_rfl) (fun _ _ _ h => h) (Or.inl ⟨by kernel_rfl, ?_⟩) hS ?_
    rotate_left
    · (intro wS hSw; (try dsimp only at hSw); go_simp; (try rw [if_neg (by omega)]); try with_reducible rfl)
    simp only [Act.put, List.setIfInBounds_toArray, List.set_cons_zero, List.set_cons_succ]
    refine AtT.taked (i := 2) (v := ?_) (some 51) rfl rfl (by kernel_rfl) (by kernel_rfl) (by kernel_rfl) (by kernel_rfl) (fun _ _ _ h => h) (Or.inl ⟨by kernel_rfl, ?_⟩) hS ?_
    rotate_left
    · (intro wS hSw; (try dsimp only at hSw); have kr0 := (Mem.row hSw .here).cell; have kr2 := (Mem.row hSw (.there (.there (.there (.there .here))))).cell; have kr3 := (Mem.row hSw (.there (.there (.there (.there (.there .here)))))).cell; have hcx := (hf.ext hSw.below).get hmn; rw [HX.out] at hcx; have hcz := (hw.ext hSw.below).get hmn; rw [HZ.out] at hcz; go_simp; (try rw [if_neg (by omega)]); try with_reducible rfl)
    simp only [Act.put, List.setIfInBounds_toArray, List.set_cons_zero, List.set_cons_succ]
    refine AtT.taked (i := 3) (v := ?_) (some 52) rfl rfl (by kernel_rfl) (by kernel_rfl) (by kernel_rfl) (by kernel_rfl) (fun _ _ _ h => h) (Or.inl ⟨by kernel_rfl, ?_⟩) hS ?_
    rotate_left
    · (intro wS hSw; (try dsimp only at hSw); go_simp; (try rw [if_neg (by omega)]); try with_reducible rfl)
    simp only [Act.put, List.setIfInBounds_toArray, List.set_cons_zero, List.set_cons_succ]
    refine AtT.taked (i := 4) (v := ?_) (some 53) rfl rfl (by kernel_rfl) (by kernel_rfl) (by kernel_rfl) (by kernel_rfl) (fun _ _ _ h => h) (Or.inl ⟨by kernel_rfl, ?_⟩) hS ?_
    rotate_left
    · (intro wS hSw; (try dsimp only at hSw); have kr0 := (Mem.row hSw .here).cell; have kr2 := (Mem.row hSw (.there (.there (.there (.there .here))))).cell; have kr3 := (Mem.row hSw (.there (.there (.there (.there (.there .here)))))).cell; have hcx := (hf.ext hSw.below).get hmn; rw [HX.out] at hcx; have hcz := (hw.ext hSw.below).get hmn; rw [HZ.out] at hcz; go_simp; (try rw [if_neg (by omega)]); try with_reducible rfl)
    simp only [Act.put, List.setIfInBounds_toArray, List.set_cons_zero, List.set_cons_succ]
    refine AtT.taked (i := 5) (v := ?_) (some 54) rfl rfl (by kernel_rfl) (by kernel_rfl) (by kernel_rfl) (by kernel_rfl) (fun _ _ _ h => h) (Or.inl ⟨by kernel_rfl, ?_⟩) hS ?_
    rotate_left
    · (intro wS hSw; (try dsimp only at hSw); have kr0 := (Mem.row hSw .here).cell; have kr2 := (Mem.row hSw (.there (.there (.there (.there .here))))).cell; have kr3 := (Mem.row hSw (.there (.there (.there (.there (.there .here)))))).cell; have hcx := (hf.ext hSw.below).get hmn; rw [HX.out] at hcx; have hcz := (hw.ext hSw.below).get hmn; rw [HZ.out] at hcz; go_simp; (try rw [if_neg (by omega)]); try with_reducible rfl)
    simp only [Act.put, List.setIfInBounds_toArray, List.set_cons_zero, List.set_cons_succ]
    refine AtT.taked (i := 6) (v := ?_) (some 55) rfl rfl (by kernel_rfl) (by kernel_rfl) (by kernel_rfl) (by kernel_rfl) (fun _ _ _ h => h) (Or.inl ⟨by kernel_rfl, ?_⟩) hS ?_
    rotate_left
    · (intro wS hSw; (try dsimp only at hSw); have kr0 := (Mem.row hSw .here).cell; have kr2 := (Mem.row hSw (.there (.there (.there (.there .here))))).cell; have kr3 := (Mem.row hSw (.there (.there (.there (.there (.there .here)))))).cell; have hcx := (hf.ext hSw.below).get hmn; rw [HX.out] at hcx; have hcz := (hw.ext hSw.below).get hmn; rw [HZ.out] at hcz; go_simp; (try rw [if_neg (by omega)]); try with_reducible rfl)
    simp only [Act.put, List.setIfInBounds_toArray, List.set_cons_zero, List.set_cons_succ]
    refine AtT.taked (i := 7) (v := ?_) (some 56) rfl rfl (by kernel_rfl) (by kernel_rfl) (by kernel_rfl) (by kernel_rfl) (fun _ _ _ h => h) (Or.inl ⟨by kernel_rfl, ?_⟩) hS ?_
    rotate_left
    · (intro wS hSw; (try dsimp only at hSw); go_simp; (try rw [if_neg (by omega)]); try with_reducible rfl)
    simp only [Act.put, List.setIfInBounds_toArray, List.set_cons_zero, List.set_cons_succ]
    refine AtT.taked (i := 8) (v := ?_) (some 57) rfl rfl (by kernel_rfl) (by kernel_rfl) (by kernel_rfl) (by kernel_rfl) (fun _ _ _ h => h) (Or.inl ⟨by kernel_rfl, ?_⟩) hS ?_
    rotate_left
    · (intro wS hSw; (try dsimp only at hSw); go_simp; (try rw [if_neg (by omega)]); try with_reducible rfl)
    simp only [Act.put, List.setIfInBounds_toArray, List.set_cons_zero, List.set_cons_succ]
    refine AtT.taked (i := 9) (v := ?_) (some 58) rfl rfl (by kernel_rfl) (by kernel_rfl) (by kernel_rfl) (by kernel_rfl) (fun _ _ _ h => h) (Or.inl ⟨by kernel_rfl, ?_⟩) hS ?_
    rotate_left
    · (intro wS hSw; (try dsimp only at hSw); go_simp; (try rw [if_neg (by omega)]); try with_reducible rfl)
    simp only [Act.put, List.setIfInBounds_toArray, List.set_cons_zero, List.set_cons_succ]
    refine AtT.taked (i := 10) (v := ?_) (some 59) rfl rfl (by kernel_rfl) (by kernel_rfl) (by kernel_rfl) (by kernel_rfl) (fun _ _ _ h => h) (Or.inl ⟨by kernel_rfl, ?_⟩) hS ?_
    rotate_left
    · (intro wS hSw; (try dsimp only at hSw); have kr0 := (Mem.row hSw .here).cell; have kr2 := (Mem.row hSw (.there (.there (.there (.there .here))))).cell; have kr3 := (Mem.row hSw (.there (.there (.there (.there (.there .here)))))).cell; have hcx := (hf.ext hSw.below).get hmn; rw [HX.out] at hcx; have hcz := (hw.ext hSw.below).get hmn; rw [HZ.out] at hcz; go_simp; (try rw [if_neg (by omega)]); try with_reducible rfl)
    simp only [Act.put, List.setIfInBounds_toArray, List.set_cons_zero, List.set_cons_succ]
    refine AtT.taked (i := 11) (v := ?_) (some 60) rfl rfl (by kernel_rfl) (by kernel_rfl) (by kernel_rfl) (by kernel_rfl) (fun _ _ _ h => h) (Or.inl ⟨by kernel_rfl, ?_⟩) hS ?_
    rotate_left
    · (intro wS hSw; (try dsimp only at hSw); go_simp; (try rw [if_neg (by omega)]); try with_reducible rfl)
    simp only [Act.put, List.setIfInBounds_toArray, List.set_cons_zero, List.set_cons_succ]
    refine AtT.taked (i := 12) (v := ?_) (some 61) rfl rfl (by kernel_rfl) (by kernel_rfl) (by kernel_rfl) (by kernel_rfl) (fun _ _ _ h => h) (Or.inl ⟨by kernel_rfl, ?_⟩) hS ?_
    rotate_left
    · (intro wS hSw; (try dsimp only at hSw); have kr0 := (Mem.row hSw .here).cell; have kr2 := (Mem.row hSw (.there (.there (.there (.there .here))))).cell; have kr3 := (Mem.row hSw (.there (.there (.there (.there (.there .here)))))).cell; have hcx := (hf.ext hSw.below).get hmn; rw [HX.out] at hcx; have hcz := (hw.ext hSw.below).get hmn; rw [HZ.out] at hcz; go_simp; (try rw [if_neg (by omega)]); try with_reducible rfl)
    simp only [Act.put, List.setIfInBounds_toArray, List.set_cons_zero, List.set_cons_succ]
    refine AtT.taked (i := 13) (v := ?_) (some 62) rfl rfl (by kernel_rfl) (by kernel_rfl) (by kernel_rfl) (by kernel_rfl) (fun _ _ _ h => h) (Or.inl ⟨by kernel_rfl, ?_⟩) hS ?_
    rotate_left
    · (intro wS hSw; (try dsimp only at hSw); have kr0 := (Mem.row hSw .here).cell; have kr2 := (Mem.row hSw (.there (.there (.there (.there .here))))).cell; have kr3 := (Mem.row hSw (.there (.there (.there (.there (.there .here)))))).cell; have hcx := (hf.ext hSw.below).get hmn; rw [HX.out] at hcx; have hcz := (hw.ext hSw.below).get hmn; rw [HZ.out] at hcz; go_simp; (try rw [if_neg (by omega)]); try with_reducible rfl)
    simp only [Act.put, List.setIfInBounds_toArray, List.set_cons_zero, List.set_cons_succ]
    refine AtT.taked (i := 14) (v := ?_) (some 63) rfl rfl (by kernel_rfl) (by kernel_rfl) (by kernel_rfl) (by kernel_rfl) (fun _ _ _ h => h) (Or.inl ⟨by kernel_rfl, ?_⟩) hS ?_
    rotate_left
    · (intro wS hSw; (try dsimp only at hSw); have kr0 := (Mem.row hSw .here).cell; have kr2 := (Mem.row hSw (.there (.there (.there (.there .here))))).cell; have kr3 := (Mem.row hSw (.there (.there (.there (.there (.there .here)))))).cell; have hcx := (hf.ext hSw.below).get hmn; rw [HX.out] at hcx; have hcz := (hw.ext hSw.below).get hmn; rw [HZ.out] at hcz; go_simp; (try rw [if_neg (by omega)]); try with_reducible rfl)
    simp only [Act.put, List.setIfInBounds_toArray, List.set_cons_zero, List.set_cons_succ]
    refine AtT.taked (i := 15) (v := ?_) (some 64) rfl rfl (by kernel_rfl) (by kernel_rfl) (by kernel_rfl) (by kernel_rfl) (fun _ _ _ h => h) (Or.inl ⟨by kernel_rfl, ?_⟩) hS ?_
    rotate_left
    · (intro wS hSw; (try dsimp only at hSw); go_simp; (try rw [if_neg (by omega)]); try with_reducible rfl)
    simp only [Act.put, List.setIfInBounds_toArray, List.set_cons_zero, List.set_cons_succ]
    refine AtT.taked (i := 16) (v := ?_) (some 65) rfl rfl (by kernel_rfl) (by kernel_rfl) (by kernel_rfl) (by kernel_rfl) (fun _ _ _ h => h) (Or.inl ⟨by kernel_rfl, ?_⟩) hS ?_
    rotate_left
    · (intro wS hSw; (try dsimp only at hSw); go_simp; (try rw [if_neg (by omega)]); try with_reducible rfl)
    simp only [Act.put, List.setIfInBounds_toArray, List.set_cons_zero, List.set_cons_succ]
    refine AtT.only (i := 17) (by kernel_rfl) rfl rfl ?_
    intro K hK
    have kk0 := (hM.row .here).cell
    have ff0 := (hM.row .here).free
    have ll0 := (hM.row .here).lt
    have kk1 := (hM.row (.there .here)).cell
    have ff1 := (hM.row (.there .here)).free
    have ll1 := (hM.row (.there .here)).lt
    have kk5 := (hM.row (.there (.there (.there (.there (.there .here)))))).cell
    have ff5 := (hM.row (.there (.there (.there (.there (.there .here)))))).free
    have ll5 := (hM.row (.there (.there (.there (.there (.there .here)))))).lt
    have kk6 := (hM.row (.there (.there (.there (.there (.there (.there .here))))))).cell
    have ff6 := (hM.row (.there (.there (.there (.there (.there (.there .here))))))).free
    have ll6 := (hM.row (.there (.there (.there (.there (.there (.there .here))))))).lt
    go_simp
    clear kk0 ff0 ll0 kk1 ff1 ll1 kk5 ff5 ll5 kk6 ff6 ll6
    refine hK.out _ _ (by apply Mem.tail; (repeat' (first | with_reducible exact hM | with_reducible exact hMp | with_reducible apply Mem.drew | with_reducible apply Mem.drewN | with_reducible apply Mem.alloc | with_reducible apply Mem.set | with_reducible exact Sto.row | ((with_reducible refine Sto.rowEq2 ?_ ?_); omega; rfl) | ((with_reducible refine Sto.rowEq ?_); omega) | with_reducible apply Sto.int | with_reducible apply Sto.there | with_reducible assumption | (unfold I64; omega) | (with_reducible (have hMx := Mem.undrew hM; exact hMx)) | (with_reducible (have hMx := Mem.undrew hMp; exact hMx))))) ?_
    clear hK K hS
    apply Mem.atT
    · (repeat' (first | with_reducible exact hM | with_reducible exact hMp | with_reducible apply Mem.drew | with_reducible apply Mem.drewN | with_reducible apply Mem.alloc | with_reducible apply Mem.set | with_reducible exact Sto.row | ((with_reducible refine Sto.rowEq2 ?_ ?_); omega; rfl) | ((with_reducible refine Sto.rowEq ?_); omega) | with_reducible apply Sto.int | with_reducible apply Sto.there | with_reducible assumption | (unfold I64; omega) | (with_reducible (have hMx := Mem.undrew hM; exact hMx)) | (with_reducible (have hMx := Mem.undrew hMp; exact hMx))))
    clear hM
    intro hM
    (try simp only [World.size_alloc, World.size_setCell, World.heap_drewN, heapDrew, Nat.add_assoc, Nat.reduceAdd, List.setIfInBounds_toArray, List.set_cons_zero, List.set_cons_succ, List.cons_append, List.nil_append] at hM)
    have hS := hM.tail
    refine AtT.last (by kernel_rfl) rfl (by kernel_rfl) ?_
    intro K hK
    clear hS
    go_simp
    refine hK.out _ _ ?_
    clear hK K
    obtain ⟨k0, f0, l0⟩ := hM.row .here
    go_wp2
    rw [HF.out, HX0.out]
    refine bodyPost_ret (v := .tuple #[.agg #[.int .i64 W, .int .i64 Hn, .slice b1 n d1, .slice b2 n d2, .slice (some ⟨g3, 0, none⟩) n d3, .int .i64 t], .bool (decide (z < 5))]) (by simp [results, Try.results97, go_sem, k0]) rfl ⟨b1, n, d1, b2, n, d2, some ⟨g3, 0, none⟩, n, d3, rfl, ?_⟩
    apply Mem.pick (is := [2, 3, 4])
    · (repeat' (first | with_reducible exact hM | with_reducible exact hMp | with_reducible apply Mem.drew | with_reducible apply Mem.drewN | with_reducible apply Mem.alloc | with_reducible apply Mem.set | with_reducible exact Sto.row | ((with_reducible refine Sto.rowEq2 ?_ ?_); omega; rfl) | ((with_reducible refine Sto.rowEq ?_); omega) | with_reducible apply Sto.int | with_reducible apply Sto.there | with_reducible assumption | (unfold I64; omega) | (with_reducible (have hMx := Mem.undrew hM; exact hMx)) | (with_reducible (have hMx := Mem.undrew hMp; exact hMx))))
    · decide
    · rfl

set_option maxRecDepth 100000 in
set_option maxHeartbeats 30000000 in
theorem l21Act_any (W Hn : Nat) (a : Option Addr) (n c : Nat) (xs : List Int) (af : Option Addr) (cf : Nat) (fs : List Int) (aw : Option Addr) (cw : Nat) (ws : List Int) (t : Int) (k cc : Int) (w : World) (h : Ints w a n c xs) (hf : Ints w af n cf fs) (hw : Ints w aw n cw ws) (hnp : 0 < n) (hn25 : n ≤ 25) (hW : 1 ≤ W ∧ W ≤ 5) (ht : -1 ≤ t ∧ t ≤ 2000000) (hxs : ∀ x ∈ xs, 0 ≤ x) (hws : ∀ x ∈ ws, 0 ≤ x) (ha : actionB n k cc = true) :
    Calls Try.prog 97 #[.agg #[.int .i64 W, .int .i64 Hn, .slice a n c, .slice af n cf, .slice aw n cw, .int .i64 t], .agg #[.int .i64 k, .int .i64 cc]] w ((IncRes w (actI n ⟨W, Hn, xs, fs, ws, t⟩ k cc.toNat))) := by
  rcases actionB_cases ha with rfl | ⟨rfl | rfl, m, rfl, hmn⟩
  · exact l21Act1_any W Hn a n c xs af cf fs aw cw ws t cc w h hf hw hnp hn25 hW ht hxs hws
  · exact l21Act2_any W Hn a n c xs af cf fs aw cw ws t m w h hf hw hnp hn25 hW ht hxs hws hmn
  · exact l21Act3_any W Hn a n c xs af cf fs aw cw ws t m w h hf hw hnp hn25 hW ht hxs hws hmn

/-- an action of an incident that came in -/
def actIncR (W H : Int) (xs fs ws : List Int) (t k cc : Int) : IncR := if incB W H xs fs ws t && actionB xs.length k cc && (actI xs.length ⟨W, H, xs, fs, ws, t⟩ k cc.toNat).ok then actI xs.length ⟨W, H, xs, fs, ws, t⟩ k cc.toNat else ⟨IncI.zero, false⟩

set_option maxRecDepth 100000 in
set_option maxHeartbeats 30000000 in
theorem implAct_any (W H : Int) (a : Option Addr) (n c : Nat) (xs : List Int) (af : Option Addr) (nf cf : Nat) (fs : List Int) (aw : Option Addr) (nw cw : Nat) (ws : List Int) (t : Int) (k cc : Int) (w : World) (h : Ints w a n c xs) (hf : Ints w af nf cf fs) (hw : Ints w aw nw cw ws) :
    Calls Try.prog 33 #[.agg #[.int .i64 W, .int .i64 H, .slice a n c, .slice af nf cf, .slice aw nw cw, .int .i64 t], .agg #[.int .i64 k, .int .i64 cc]] w ((IncRes w (actIncR W H xs fs ws t k cc))) := by
  have hM := Mem.start w
  cases hi : incB W H xs fs ws t
  · have HF := Lib.hid (show actIncR W H xs fs ws t k cc = ⟨IncI.zero, false⟩ by rw [actIncR, hi]; rfl)
    go_enter Try.func33, Try.ntmps33
    go_wp2_with fail
    apply Mem.atA
    · (repeat' (first | with_reducible exact hM | with_reducible exact hMp | with_reducible apply Mem.drew | with_reducible apply Mem.drewN | with_reducible apply Mem.alloc | with_reducible apply Mem.set | with_reducible exact Sto.row | ((with_reducible refine Sto.rowEq2 ?_ ?_); omega; rfl) | ((with_reducible refine Sto.rowEq ?_); omega) | with_reducible apply Sto.int | with_reducible apply Sto.there | with_reducible assumption | (unfold I64; omega) | (with_reducible (have hMx := Mem.undrew hM; exact hMx)) | (with_reducible (have hMx := Mem.undrew hMp; exact hMx))))
    clear hM
    intro wst hM
    (try simp only [World.size_alloc, World.size_setCell, World.heap_drewN, heapDrew, Nat.add_assoc, Nat.reduceAdd, List.setIfInBounds_toArray, List.set_cons_zero, List.set_cons_succ, List.cons_append, List.nil_append] at hM)
    apply Calls.mono
    · (apply IsIncident_any) <;> (first | (show (_ : Prop); with_reducible assumption) | (apply Hid.out; with_reducible assumption) | (apply Mem.intsR hM; (repeat' (first | with_reducible exact In.here | with_reducible apply In.there)); done) | (apply Ints.ext (hb := hM.below); with_reducible assumption) | (apply Rd.ext (hb := hM.below); with_reducible assumption) | (apply Mem.row hM; (repeat' (first | with_reducible exact In.here | with_reducible apply In.there)); done) | (apply Row.ext (hb := hM.below); with_reducible assumption) | exact ⟨by omega, by omega⟩ | omega | (trace_state; fail))
    rw [hi]
    rintro e wc11 ⟨rfl, hb⟩
    replace hM := hM.ext hb
    clear hb
    rw [show w.heap.size + 1 + 1 = w.heap.size + 2 from rfl]
    generalize w.heap.size + 2 = q2 at hM ⊢
    generalize w.heap.size + 1 = q1 at hM ⊢
    obtain ⟨k0, f0, l0⟩ := hM.row .here
    go_wp2
    rw [HF.out]
    refine bodyPost_ret (v := .tuple #[.agg #[.int .i64 0, .int .i64 0, .slice none 0 0, .slice none 0 0, .slice none 0 0, .int .i64 0], .bool false]) (by simp [results, Try.results33, go_sem, k0]) rfl ⟨none, 0, 0, none, 0, 0, none, 0, 0, rfl, ?_⟩
    apply Mem.nil3
    (repeat' (first | with_reducible exact hM | with_reducible exact hMp | with_reducible apply Mem.drew | with_reducible apply Mem.drewN | with_reducible apply Mem.alloc | with_reducible apply Mem.set | with_reducible exact Sto.row | ((with_reducible refine Sto.rowEq2 ?_ ?_); omega; rfl) | ((with_reducible refine Sto.rowEq ?_); omega) | with_reducible apply Sto.int | with_reducible apply Sto.there | with_reducible assumption | (unfold I64; omega) | (with_reducible (have hMx := Mem.undrew hM; exact hMx)) | (with_reducible (have hMx := Mem.undrew hMp; exact hMx))))
  have HI := Lib.hid hi
  obtain ⟨Wn, Hn, rfl, rfl, hlf, hlw, hnp, hn25, hW, ht, hxs, hfs, hws⟩ := incB_facts hi
  rw [h.len] at hlf hlw hnp hn25
  obtain rfl : nf = n := by rw [← hlf, hf.len]
  obtain rfl : nw = nf := by rw [← hlw, hw.len]
  have HXS := Lib.hid (show ∀ x ∈ xs, 0 ≤ x from fun x hx => (hxs x hx).1)
  have HWS := Lib.hid hws
  have HF0 := Lib.hid (show actIncR Wn Hn xs fs ws t k cc = if actionB nw k cc && (actI nw ⟨Wn, Hn, xs, fs, ws, t⟩ k cc.toNat).ok then actI nw ⟨Wn, Hn, xs, fs, ws, t⟩ k cc.toNat else ⟨IncI.zero, false⟩ by rw [actIncR, hi, h.len, Bool.true_and])
  clear hxs hfs hws hlf hlw hi
  cases ha : actionB nw k cc
  · have HF := Lib.hid (show actIncR Wn Hn xs fs ws t k cc = ⟨IncI.zero, false⟩ by rw [HF0.out, ha]; rfl)
    clear HF0
    go_enter Try.func33, Try.ntmps33
    go_wp2_with fail
    apply Mem.atA
    · (repeat' (first | with_reducible exact hM | with_reducible exact hMp | with_reducible apply Mem.drew | with_reducible apply Mem.drewN | with_reducible apply Mem.alloc | with_reducible apply Mem.set | with_reducible exact Sto.row | ((with_reducible refine Sto.rowEq2 ?_ ?_); omega; rfl) | ((with_reducible refine Sto.rowEq ?_); omega) | with_reducible apply Sto.int | with_reducible apply Sto.there | with_reducible assumption | (unfold I64; omega) | (with_reducible (have hMx := Mem.undrew hM; exact hMx)) | (with_reducible (have hMx := Mem.undrew hMp; exact hMx))))
    clear hM
    intro wst hM
    (try simp only [World.size_alloc, World.size_setCell, World.heap_drewN, heapDrew, Nat.add_assoc, Nat.reduceAdd, List.setIfInBounds_toArray, List.set_cons_zero, List.set_cons_succ, List.cons_append, List.nil_append] at hM)
    apply Calls.mono
    · (apply IsIncident_any) <;> (first | (show (_ : Prop); with_reducible assumption) | (apply Hid.out; with_reducible assumption) | (apply Mem.intsR hM; (repeat' (first | with_reducible exact In.here | with_reducible apply In.there)); done) | (apply Ints.ext (hb := hM.below); with_reducible assumption) | (apply Rd.ext (hb := hM.below); with_reducible assumption) | (apply Mem.row hM; (repeat' (first | with_reducible exact In.here | with_reducible apply In.there)); done) | (apply Row.ext (hb := hM.below); with_reducible assumption) | exact ⟨by omega, by omega⟩ | omega | (trace_state; fail))
    rw [HI.out]
    rintro e wc12 ⟨rfl, hb⟩
    replace hM := hM.ext hb
    clear hb
    rw [show w.heap.size + 1 + 1 = w.heap.size + 2 from rfl]
    generalize w.heap.size + 2 = q2 at hM ⊢
    generalize w.heap.size + 1 = q1 at hM ⊢
    obtain ⟨k1, f1, l1⟩ := hM.row (.there .here)
    obtain ⟨k2, f2, l2⟩ := hM.row (.there (.there .here))
    go_wp2_with fail
    clear k1 f1 l1 k2 f2 l2
    apply Mem.atA
    · (repeat' (first | with_reducible exact hM | with_reducible exact hMp | with_reducible apply Mem.drew | with_reducible apply Mem.drewN | with_reducible apply Mem.alloc | with_reducible apply Mem.set | with_reducible exact Sto.row | ((with_reducible refine Sto.rowEq2 ?_ ?_); omega; rfl) | ((with_reducible refine Sto.rowEq ?_); omega) | with_reducible apply Sto.int | with_reducible apply Sto.there | with_reducible assumption | (unfold I64; omega) | (with_reducible (have hMx := Mem.undrew hM; exact hMx)) | (with_reducible (have hMx := Mem.undrew hMp; exact hMx))))
    clear hM
    intro wst hM
    (try simp only [World.size_alloc, World.size_setCell, World.heap_drewN, heapDrew, Nat.add_assoc, Nat.reduceAdd, List.setIfInBounds_toArray, List.set_cons_zero, List.set_cons_succ, List.cons_append, List.nil_append] at hM)
    apply Calls.mono
    · (apply isAction_any Wn Hn a nw c xs af cf fs aw cw ws t k cc) <;> (first | (show (_ : Prop); with_reducible assumption) | (apply Hid.out; with_reducible assumption) | (apply Mem.intsR hM; (repeat' (first | with_reducible exact In.here | with_reducible apply In.there)); done) | (apply Ints.ext (hb := hM.below); with_reducible assumption) | (apply Rd.ext (hb := hM.below); with_reducible assumption) | (apply Mem.row hM; (repeat' (first | with_reducible exact In.here | with_reducible apply In.there)); done) | (apply Row.ext (hb := hM.below); with_reducible assumption) | exact ⟨by omega, by omega⟩ | omega | (trace_state; fail))
    rw [ha]
    rintro e wc13 ⟨rfl, hb⟩
    replace hM := hM.ext hb
    clear hb
    obtain ⟨k0, f0, l0⟩ := hM.row .here
    go_wp2
    rw [HF.out]
    refine bodyPost_ret (v := .tuple #[.agg #[.int .i64 0, .int .i64 0, .slice none 0 0, .slice none 0 0, .slice none 0 0, .int .i64 0], .bool false]) (by simp [results, Try.results33, go_sem, k0]) rfl ⟨none, 0, 0, none, 0, 0, none, 0, 0, rfl, ?_⟩
    apply Mem.nil3
    (repeat' (first | with_reducible exact hM | with_reducible exact hMp | with_reducible apply Mem.drew | with_reducible apply Mem.drewN | with_reducible apply Mem.alloc | with_reducible apply Mem.set | with_reducible exact Sto.row | ((with_reducible refine Sto.rowEq2 ?_ ?_); omega; rfl) | ((with_reducible refine Sto.rowEq ?_); omega) | with_reducible apply Sto.int | with_reducible apply Sto.there | with_reducible assumption | (unfold I64; omega) | (with_reducible (have hMx := Mem.undrew hM; exact hMx)) | (with_reducible (have hMx := Mem.undrew hMp; exact hMx))))
  have HA := Lib.hid ha
  obtain ⟨r, hr⟩ : ∃ r, actI nw ⟨Wn, Hn, xs, fs, ws, t⟩ k cc.toNat = r := ⟨_, rfl⟩
  have HF := Lib.hid (show actIncR Wn Hn xs fs ws t k cc = if r.ok then r else ⟨IncI.zero, false⟩ by rw [HF0.out, ha, hr, Bool.true_and])
  have HR := Lib.hid hr
  clear HF0 ha hr
  obtain ⟨⟨rW, rH, rx, rf, rw', rt⟩, rok⟩ := r
  go_enter Try.func33, Try.ntmps33
  go_wp2_with fail
  apply Mem.atA
  · (repeat' (first | with_reducible exact hM | with_reducible exact hMp | with_reducible apply Mem.drew | with_reducible apply Mem.drewN | with_reducible apply Mem.alloc | with_reducible apply Mem.set | with_reducible exact Sto.row | ((with_reducible refine Sto.rowEq2 ?_ ?_); omega; rfl) | ((with_reducible refine Sto.rowEq ?_); omega) | with_reducible apply Sto.int | with_reducible apply Sto.there | with_reducible assumption | (unfold I64; omega) | (with_reducible (have hMx := Mem.undrew hM; exact hMx)) | (with_reducible (have hMx := Mem.undrew hMp; exact hMx))))
  clear hM
  intro wst hM
  (try simp only [World.size_alloc, World.size_setCell, World.heap_drewN, heapDrew, Nat.add_assoc, Nat.reduceAdd, List.setIfInBounds_toArray, List.set_cons_zero, List.set_cons_succ, List.cons_append, List.nil_append] at hM)
  apply Calls.mono
  · (apply IsIncident_any) <;> (first | (show (_ : Prop); with_reducible assumption) | (apply Hid.out; with_reducible assumption) | (apply Mem.intsR hM; (repeat' (first | with_reducible exact In.here | with_reducible apply In.there)); done) | (apply Ints.ext (hb := hM.below); with_reducible assumption) | (apply Rd.ext (hb := hM.below); with_reducible assumption) | (apply Mem.row hM; (repeat' (first | with_reducible exact In.here | with_reducible apply In.there)); done) | (apply Row.ext (hb := hM.below); with_reducible assumption) | exact ⟨by omega, by omega⟩ | omega | (trace_state; fail))
  rw [HI.out]
  rintro e wc14 ⟨rfl, hb⟩
  replace hM := hM.ext hb
  clear hb
  rw [show w.heap.size + 1 + 1 = w.heap.size + 2 from rfl]
  generalize w.heap.size + 2 = q2 at hM ⊢
  generalize w.heap.size + 1 = q1 at hM ⊢
  obtain ⟨k1, f1, l1⟩ := hM.row (.there .here)
  obtain ⟨k2, f2, l2⟩ := hM.row (.there (.there .here))
  go_wp2_with fail
  clear k1 f1 l1 k2 f2 l2
  apply Mem.atA
  · (repeat' (first | with_reducible exact hM | with_reducible exact hMp | with_reducible apply Mem.drew | with_reducible apply Mem.drewN | with_reducible apply Mem.alloc | with_reducible apply Mem.set | with_reducible exact Sto.row | ((with_reducible refine Sto.rowEq2 ?_ ?_); omega; rfl) | ((with_reducible refine Sto.rowEq ?_); omega) | with_reducible apply Sto.int | with_reducible apply Sto.there | with_reducible assumption | (unfold I64; omega) | (with_reducible (have hMx := Mem.undrew hM; exact hMx)) | (with_reducible (have hMx := Mem.undrew hMp; exact hMx))))
  clear hM
  intro wst hM
  (try simp only [World.size_alloc, World.size_setCell, World.heap_drewN, heapDrew, Nat.add_assoc, Nat.reduceAdd, List.setIfInBounds_toArray, List.set_cons_zero, List.set_cons_succ, List.cons_append, List.nil_append] at hM)
  apply Calls.mono
  · (apply isAction_any Wn Hn a nw c xs af cf fs aw cw ws t k cc) <;> (first | (show (_ : Prop); with_reducible assumption) | (apply Hid.out; with_reducible assumption) | (apply Mem.intsR hM; (repeat' (first | with_reducible exact In.here | with_reducible apply In.there)); done) | (apply Ints.ext (hb := hM.below); with_reducible assumption) | (apply Rd.ext (hb := hM.below); with_reducible assumption) | (apply Mem.row hM; (repeat' (first | with_reducible exact In.here | with_reducible apply In.there)); done) | (apply Row.ext (hb := hM.below); with_reducible assumption) | exact ⟨by omega, by omega⟩ | omega | (trace_state; fail))
  rw [HA.out]
  rintro e wc15 ⟨rfl, hb⟩
  replace hM := hM.ext hb
  clear hb
  obtain ⟨k1, f1, l1⟩ := hM.row (.there .here)
  obtain ⟨k2, f2, l2⟩ := hM.row (.there (.there .here))
  go_wp2_with fail
  apply Calls.mono
  · (apply act_any Wn Hn a nw c xs af cf fs aw cw ws t k cc) <;> (first | (show (_ : Prop); with_reducible assumption) | (apply Hid.out; with_reducible assumption) | (apply Mem.intsR hM; (repeat' (first | with_reducible exact In.here | with_reducible apply In.there)); done) | (apply Ints.ext (hb := hM.below); with_reducible assumption) | (apply Rd.ext (hb := hM.below); with_reducible assumption) | (apply Mem.row hM; (repeat' (first | with_reducible exact In.here | with_reducible apply In.there)); done) | (apply Row.ext (hb := hM.below); with_reducible assumption) | exact ⟨by omega, by omega⟩ | omega | (trace_state; fail))
  rw [HR.out]
  clear k1 f1 l1 k2 f2 l2
  rintro e w3 ⟨b1, n1, d1, b2, n2, d2, b3, n3, d3, rfl, hm⟩
  replace hM := hM.join hm
  clear hm
  (try simp only [World.size_alloc, World.size_setCell, World.heap_drewN, heapDrew, Nat.add_assoc, Nat.reduceAdd, List.setIfInBounds_toArray, List.set_cons_zero, List.set_cons_succ, List.cons_append, List.nil_append] at hM)
  try dsimp only
  go_upto_region 4 with fail
  apply Mem.atWpA
  · (repeat' (first | with_reducible exact hM | with_reducible exact hMp | with_reducible apply Mem.drew | with_reducible apply Mem.drewN | with_reducible apply Mem.alloc | with_reducible apply Mem.set | with_reducible exact Sto.row | ((with_reducible refine Sto.rowEq2 ?_ ?_); omega; rfl) | ((with_reducible refine Sto.rowEq ?_); omega) | with_reducible apply Sto.int | with_reducible apply Sto.there | with_reducible assumption | (unfold I64; omega) | (with_reducible (have hMx := Mem.undrew hM; exact hMx)) | (with_reducible (have hMx := Mem.undrew hMp; exact hMx))))
  clear hM
  intro wst hM
  (try simp only [World.size_alloc, World.size_setCell, World.heap_drewN, heapDrew, Nat.add_assoc, Nat.reduceAdd, List.setIfInBounds_toArray, List.set_cons_zero, List.set_cons_succ, List.cons_append, List.nil_append] at hM)
  have hf0 := HF.out
  try dsimp only at hf0
  cases rok
  · rw [if_neg (by simp)] at hf0
    have HF2 := Lib.hid hf0
    clear hf0 HF
    obtain ⟨k4, f4, l4⟩ := hM.row (.there (.there (.there (.there .here))))
    go_wp2
    rw [HF2.out]
    refine bodyPost_ret (v := .tuple #[.agg #[.int .i64 0, .int .i64 0, .slice none 0 0, .slice none 0 0, .slice none 0 0, .int .i64 0], .bool false]) (by simp [results, Try.results33, go_sem, k4]) rfl ⟨none, 0, 0, none, 0, 0, none, 0, 0, rfl, ?_⟩
    apply Mem.nil3
    (repeat' (first | with_reducible exact hM | with_reducible exact hMp | with_reducible apply Mem.drew | with_reducible apply Mem.drewN | with_reducible apply Mem.alloc | with_reducible apply Mem.set | with_reducible exact Sto.row | ((with_reducible refine Sto.rowEq2 ?_ ?_); omega; rfl) | ((with_reducible refine Sto.rowEq ?_); omega) | with_reducible apply Sto.int | with_reducible apply Sto.there | with_reducible assumption | (unfold I64; omega) | (with_reducible (have hMx := Mem.undrew hM; exact hMx)) | (with_reducible (have hMx := Mem.undrew hMp; exact hMx))))
  · rw [if_pos rfl] at hf0
    have HF2 := Lib.hid hf0
    clear hf0 HF
    obtain ⟨k0, f0, l0⟩ := hM.row .here
    obtain ⟨k4, f4, l4⟩ := hM.row (.there (.there (.there (.there .here))))
    go_wp2
    rw [HF2.out]
    refine bodyPost_ret (v := .tuple #[.agg #[.int .i64 rW, .int .i64 rH, .slice b1 n1 d1, .slice b2 n2 d2, .slice b3 n3 d3, .int .i64 rt], .bool true]) (by simp [results, Try.results33, go_sem, k4]) rfl ⟨b1, n1, d1, b2, n2, d2, b3, n3, d3, rfl, ?_⟩
    apply Mem.pick (is := [1, 2, 3])
    · (repeat' (first | with_reducible exact hM | with_reducible exact hMp | with_reducible apply Mem.drew | with_reducible apply Mem.drewN | with_reducible apply Mem.alloc | with_reducible apply Mem.set | with_reducible exact Sto.row | ((with_reducible refine Sto.rowEq2 ?_ ?_); omega; rfl) | ((with_reducible refine Sto.rowEq ?_); omega) | with_reducible apply Sto.int | with_reducible apply Sto.there | with_reducible assumption | (unfold I64; omega) | (with_reducible (have hMx := Mem.undrew hM; exact hMx)) | (with_reducible (have hMx := Mem.undrew hMp; exact hMx))))
    · decide
    · rfl

set_option maxRecDepth 100000 in
set_option maxHeartbeats 30000000 in
theorem specAct_any (W H : Int) (a : Option Addr) (n c : Nat) (xs : List Int) (af : Option Addr) (nf cf : Nat) (fs : List Int) (aw : Option Addr) (nw cw : Nat) (ws : List Int) (t : Int) (k cc : Int) (w : World) (h : Ints w a n c xs) (hf : Ints w af nf cf fs) (hw : Ints w aw nw cw ws) :
    Calls Try.prog 42 #[.agg #[.int .i64 W, .int .i64 H, .slice a n c, .slice af nf cf, .slice aw nw cw, .int .i64 t], .agg #[.int .i64 k, .int .i64 cc]] w ((IncRes w (actIncR W H xs fs ws t k cc))) := by
  have hM := Mem.start w
  cases hi : incB W H xs fs ws t
  · have HF := Lib.hid (show actIncR W H xs fs ws t k cc = ⟨IncI.zero, false⟩ by rw [actIncR, hi]; rfl)
    go_enter Try.func42, Try.ntmps42
    go_wp2_with fail
    apply Mem.atA
    · (repeat' (first | with_reducible exact hM | with_reducible exact hMp | with_reducible apply Mem.drew | with_reducible apply Mem.drewN | with_reducible apply Mem.alloc | with_reducible apply Mem.set | with_reducible exact Sto.row | ((with_reducible refine Sto.rowEq2 ?_ ?_); omega; rfl) | ((with_reducible refine Sto.rowEq ?_); omega) | with_reducible apply Sto.int | with_reducible apply Sto.there | with_reducible assumption | (unfold I64; omega) | (with_reducible (have hMx := Mem.undrew hM; exact hMx)) | (with_reducible (have hMx := Mem.undrew hMp; exact hMx))))
    clear hM
    intro wst hM
    (try simp only [World.size_alloc, World.size_setCell, World.heap_drewN, heapDrew, Nat.add_assoc, Nat.reduceAdd, List.setIfInBounds_toArray, List.set_cons_zero, List.set_cons_succ, List.cons_append, List.nil_append] at hM)
    apply Calls.mono
    · (apply l21Good_any) <;> (first | (show (_ : Prop); with_reducible assumption) | (apply Hid.out; with_reducible assumption) | (apply Mem.intsR hM; (repeat' (first | with_reducible exact In.here | with_reducible apply In.there)); done) | (apply Ints.ext (hb := hM.below); with_reducible assumption) | (apply Rd.ext (hb := hM.below); with_reducible assumption) | (apply Mem.row hM; (repeat' (first | with_reducible exact In.here | with_reducible apply In.there)); done) | (apply Row.ext (hb := hM.below); with_reducible assumption) | exact ⟨by omega, by omega⟩ | omega | (trace_state; fail))
    rw [hi]
    rintro e wc16 ⟨rfl, hb⟩
    replace hM := hM.ext hb
    clear hb
    rw [show w.heap.size + 1 + 1 = w.heap.size + 2 from rfl]
    generalize w.heap.size + 2 = q2 at hM ⊢
    generalize w.heap.size + 1 = q1 at hM ⊢
    obtain ⟨k0, f0, l0⟩ := hM.row .here
    go_wp2
    rw [HF.out]
    refine bodyPost_ret (v := .tuple #[.agg #[.int .i64 0, .int .i64 0, .slice none 0 0, .slice none 0 0, .slice none 0 0, .int .i64 0], .bool false]) (by simp [results, Try.results42, go_sem, k0]) rfl ⟨none, 0, 0, none, 0, 0, none, 0, 0, rfl, ?_⟩
    apply Mem.nil3
    (repeat' (first | with_reducible exact hM | with_reducible exact hMp | with_reducible apply Mem.drew | with_reducible apply Mem.drewN | with_reducible apply Mem.alloc | with_reducible apply Mem.set | with_reducible exact Sto.row | ((with_reducible refine Sto.rowEq2 ?_ ?_); omega; rfl) | ((with_reducible refine Sto.rowEq ?_); omega) | with_reducible apply Sto.int | with_reducible apply Sto.there | with_reducible assumption | (unfold I64; omega) | (with_reducible (have hMx := Mem.undrew hM; exact hMx)) | (with_reducible (have hMx := Mem.undrew hMp; exact hMx))))
  have HI := Lib.hid hi
  obtain ⟨Wn, Hn, rfl, rfl, hlf, hlw, hnp, hn25, hW, ht, hxs, hfs, hws⟩ := incB_facts hi
  rw [h.len] at hlf hlw hnp hn25
  obtain rfl : nf = n := by rw [← hlf, hf.len]
  obtain rfl : nw = nf := by rw [← hlw, hw.len]
  have HXS := Lib.hid (show ∀ x ∈ xs, 0 ≤ x from fun x hx => (hxs x hx).1)
  have HWS := Lib.hid hws
  have HF0 := Lib.hid (show actIncR Wn Hn xs fs ws t k cc = if actionB nw k cc && (actI nw ⟨Wn, Hn, xs, fs, ws, t⟩ k cc.toNat).ok then actI nw ⟨Wn, Hn, xs, fs, ws, t⟩ k cc.toNat else ⟨IncI.zero, false⟩ by rw [actIncR, hi, h.len, Bool.true_and])
  clear hxs hfs hws hlf hlw hi
  cases ha : actionB nw k cc
  · have HF := Lib.hid (show actIncR Wn Hn xs fs ws t k cc = ⟨IncI.zero, false⟩ by rw [HF0.out, ha]; rfl)
    clear HF0
    go_enter Try.func42, Try.ntmps42
    go_wp2_with fail
    apply Mem.atA
    · (repeat' (first | with_reducible exact hM | with_reducible exact hMp | with_reducible apply Mem.drew | with_reducible apply Mem.drewN | with_reducible apply Mem.alloc | with_reducible apply Mem.set | with_reducible exact Sto.row | ((with_reducible refine Sto.rowEq2 ?_ ?_); omega; rfl) | ((with_reducible refine Sto.rowEq ?_); omega) | with_reducible apply Sto.int | with_reducible apply Sto.there | with_reducible assumption | (unfold I64; omega) | (with_reducible (have hMx := Mem.undrew hM; exact hMx)) | (with_reducible (have hMx := Mem.undrew hMp; exact hMx))))
    clear hM
    intro wst hM
    (try simp only [World.size_alloc, World.size_setCell, World.heap_drewN, heapDrew, Nat.add_assoc, Nat.reduceAdd, List.setIfInBounds_toArray, List.set_cons_zero, List.set_cons_succ, List.cons_append, List.nil_append] at hM)
    apply Calls.mono
    · (apply l21Good_any) <;> (first | (show (_ : Prop); with_reducible assumption) | (apply Hid.out; with_reducible assumption) | (apply Mem.intsR hM; (repeat' (first | with_reducible exact In.here | with_reducible apply In.there)); done) | (apply Ints.ext (hb := hM.below); with_reducible assumption) | (apply Rd.ext (hb := hM.below); with_reducible assumption) | (apply Mem.row hM; (repeat' (first | with_reducible exact In.here | with_reducible apply In.there)); done) | (apply Row.ext (hb := hM.below); with_reducible assumption) | exact ⟨by omega, by omega⟩ | omega | (trace_state; fail))
    rw [HI.out]
    rintro e wc17 ⟨rfl, hb⟩
    replace hM := hM.ext hb
    clear hb
    rw [show w.heap.size + 1 + 1 = w.heap.size + 2 from rfl]
    generalize w.heap.size + 2 = q2 at hM ⊢
    generalize w.heap.size + 1 = q1 at hM ⊢
    obtain ⟨k1, f1, l1⟩ := hM.row (.there .here)
    obtain ⟨k2, f2, l2⟩ := hM.row (.there (.there .here))
    go_wp2_with fail
    clear k1 f1 l1 k2 f2 l2
    apply Mem.atA
    · (repeat' (first | with_reducible exact hM | with_reducible exact hMp | with_reducible apply Mem.drew | with_reducible apply Mem.drewN | with_reducible apply Mem.alloc | with_reducible apply Mem.set | with_reducible exact Sto.row | ((with_reducible refine Sto.rowEq2 ?_ ?_); omega; rfl) | ((with_reducible refine Sto.rowEq ?_); omega) | with_reducible apply Sto.int | with_reducible apply Sto.there | with_reducible assumption | (unfold I64; omega) | (with_reducible (have hMx := Mem.undrew hM; exact hMx)) | (with_reducible (have hMx := Mem.undrew hMp; exact hMx))))
    clear hM
    intro wst hM
    (try simp only [World.size_alloc, World.size_setCell, World.heap_drewN, heapDrew, Nat.add_assoc, Nat.reduceAdd, List.setIfInBounds_toArray, List.set_cons_zero, List.set_cons_succ, List.cons_append, List.nil_append] at hM)
    apply Calls.mono
    · (apply l21Action_any Wn Hn a nw c xs af cf fs aw cw ws t k cc) <;> (first | (show (_ : Prop); with_reducible assumption) | (apply Hid.out; with_reducible assumption) | (apply Mem.intsR hM; (repeat' (first | with_reducible exact In.here | with_reducible apply In.there)); done) | (apply Ints.ext (hb := hM.below); with_reducible assumption) | (apply Rd.ext (hb := hM.below); with_reducible assumption) | (apply Mem.row hM; (repeat' (first | with_reducible exact In.here | with_reducible apply In.there)); done) | (apply Row.ext (hb := hM.below); with_reducible assumption) | exact ⟨by omega, by omega⟩ | omega | (trace_state; fail))
    rw [ha]
    rintro e wc18 ⟨rfl, hb⟩
    replace hM := hM.ext hb
    clear hb
    obtain ⟨k0, f0, l0⟩ := hM.row .here
    go_wp2
    rw [HF.out]
    refine bodyPost_ret (v := .tuple #[.agg #[.int .i64 0, .int .i64 0, .slice none 0 0, .slice none 0 0, .slice none 0 0, .int .i64 0], .bool false]) (by simp [results, Try.results42, go_sem, k0]) rfl ⟨none, 0, 0, none, 0, 0, none, 0, 0, rfl, ?_⟩
    apply Mem.nil3
    (repeat' (first | with_reducible exact hM | with_reducible exact hMp | with_reducible apply Mem.drew | with_reducible apply Mem.drewN | with_reducible apply Mem.alloc | with_reducible apply Mem.set | with_reducible exact Sto.row | ((with_reducible refine Sto.rowEq2 ?_ ?_); omega; rfl) | ((with_reducible refine Sto.rowEq ?_); omega) | with_reducible apply Sto.int | with_reducible apply Sto.there | with_reducible assumption | (unfold I64; omega) | (with_reducible (have hMx := Mem.undrew hM; exact hMx)) | (with_reducible (have hMx := Mem.undrew hMp; exact hMx))))
  have HA := Lib.hid ha
  obtain ⟨r, hr⟩ : ∃ r, actI nw ⟨Wn, Hn, xs, fs, ws, t⟩ k cc.toNat = r := ⟨_, rfl⟩
  have HF := Lib.hid (show actIncR Wn Hn xs fs ws t k cc = if r.ok then r else ⟨IncI.zero, false⟩ by rw [HF0.out, ha, hr, Bool.true_and])
  have HR := Lib.hid hr
  clear HF0 ha hr
  obtain ⟨⟨rW, rH, rx, rf, rw', rt⟩, rok⟩ := r
  go_enter Try.func42, Try.ntmps42
  go_wp2_with fail
  apply Mem.atA
  · (repeat' (first | with_reducible exact hM | with_reducible exact hMp | with_reducible apply Mem.drew | with_reducible apply Mem.drewN | with_reducible apply Mem.alloc | with_reducible apply Mem.set | with_reducible exact Sto.row | ((with_reducible refine Sto.rowEq2 ?_ ?_); omega; rfl) | ((with_reducible refine Sto.rowEq ?_); omega) | with_reducible apply Sto.int | with_reducible apply Sto.there | with_reducible assumption | (unfold I64; omega) | (with_reducible (have hMx := Mem.undrew hM; exact hMx)) | (with_reducible (have hMx := Mem.undrew hMp; exact hMx))))
  clear hM
  intro wst hM
  (try simp only [World.size_alloc, World.size_setCell, World.heap_drewN, heapDrew, Nat.add_assoc, Nat.reduceAdd, List.setIfInBounds_toArray, List.set_cons_zero, List.set_cons_succ, List.cons_append, List.nil_append] at hM)
  apply Calls.mono
  · (apply l21Good_any) <;> (first | (show (_ : Prop); with_reducible assumption) | (apply Hid.out; with_reducible assumption) | (apply Mem.intsR hM; (repeat' (first | with_reducible exact In.here | with_reducible apply In.there)); done) | (apply Ints.ext (hb := hM.below); with_reducible assumption) | (apply Rd.ext (hb := hM.below); with_reducible assumption) | (apply Mem.row hM; (repeat' (first | with_reducible exact In.here | with_reducible apply In.there)); done) | (apply Row.ext (hb := hM.below); with_reducible assumption) | exact ⟨by omega, by omega⟩ | omega | (trace_state; fail))
  rw [HI.out]
  rintro e wc19 ⟨rfl, hb⟩
  replace hM := hM.ext hb
  clear hb
  rw [show w.heap.size + 1 + 1 = w.heap.size + 2 from rfl]
  generalize w.heap.size + 2 = q2 at hM ⊢
  generalize w.heap.size + 1 = q1 at hM ⊢
  obtain ⟨k1, f1, l1⟩ := hM.row (.there .here)
  obtain ⟨k2, f2, l2⟩ := hM.row (.there (.there .here))
  go_wp2_with fail
  clear k1 f1 l1 k2 f2 l2
  apply Mem.atA
  · (repeat' (first | with_reducible exact hM | with_reducible exact hMp | with_reducible apply Mem.drew | with_reducible apply Mem.drewN | with_reducible apply Mem.alloc | with_reducible apply Mem.set | with_reducible exact Sto.row | ((with_reducible refine Sto.rowEq2 ?_ ?_); omega; rfl) | ((with_reducible refine Sto.rowEq ?_); omega) | with_reducible apply Sto.int | with_reducible apply Sto.there | with_reducible assumption | (unfold I64; omega) | (with_reducible (have hMx := Mem.undrew hM; exact hMx)) | (with_reducible (have hMx := Mem.undrew hMp; exact hMx))))
  clear hM
  intro wst hM
  (try simp only [World.size_alloc, World.size_setCell, World.heap_drewN, heapDrew, Nat.add_assoc, Nat.reduceAdd, List.setIfInBounds_toArray, List.set_cons_zero, List.set_cons_succ, List.cons_append, List.nil_append] at hM)
  apply Calls.mono
  · (apply l21Action_any Wn Hn a nw c xs af cf fs aw cw ws t k cc) <;> (first | (show (_ : Prop); with_reducible assumption) | (apply Hid.out; with_reducible assumption) | (apply Mem.intsR hM; (repeat' (first | with_reducible exact In.here | with_reducible apply In.there)); done) | (apply Ints.ext (hb := hM.below); with_reducible assumption) | (apply Rd.ext (hb := hM.below); with_reducible assumption) | (apply Mem.row hM; (repeat' (first | with_reducible exact In.here | with_reducible apply In.there)); done) | (apply Row.ext (hb := hM.below); with_reducible assumption) | exact ⟨by omega, by omega⟩ | omega | (trace_state; fail))
  rw [HA.out]
  rintro e wc20 ⟨rfl, hb⟩
  replace hM := hM.ext hb
  clear hb
  obtain ⟨k1, f1, l1⟩ := hM.row (.there .here)
  obtain ⟨k2, f2, l2⟩ := hM.row (.there (.there .here))
  go_wp2_with fail
  apply Calls.mono
  · (apply l21Act_any Wn Hn a nw c xs af cf fs aw cw ws t k cc) <;> (first | (show (_ : Prop); with_reducible assumption) | (apply Hid.out; with_reducible assumption) | (apply Mem.intsR hM; (repeat' (first | with_reducible exact In.here | with_reducible apply In.there)); done) | (apply Ints.ext (hb := hM.below); with_reducible assumption) | (apply Rd.ext (hb := hM.below); with_reducible assumption) | (apply Mem.row hM; (repeat' (first | with_reducible exact In.here | with_reducible apply In.there)); done) | (apply Row.ext (hb := hM.below); with_reducible assumption) | exact ⟨by omega, by omega⟩ | omega | (trace_state; fail))
  rw [HR.out]
  clear k1 f1 l1 k2 f2 l2
  rintro e w3 ⟨b1, n1, d1, b2, n2, d2, b3, n3, d3, rfl, hm⟩
  replace hM := hM.join hm
  clear hm
  (try simp only [World.size_alloc, World.size_setCell, World.heap_drewN, heapDrew, Nat.add_assoc, Nat.reduceAdd, List.setIfInBounds_toArray, List.set_cons_zero, List.set_cons_succ, List.cons_append, List.nil_append] at hM)
  try dsimp only
  go_upto_region 4 with fail
  apply Mem.atWpA
  · (repeat' (first | with_reducible exact hM | with_reducible exact hMp | with_reducible apply Mem.drew | with_reducible apply Mem.drewN | with_reducible apply Mem.alloc | with_reducible apply Mem.set | with_reducible exact Sto.row | ((with_reducible refine Sto.rowEq2 ?_ ?_); omega; rfl) | ((with_reducible refine Sto.rowEq ?_); omega) | with_reducible apply Sto.int | with_reducible apply Sto.there | with_reducible assumption | (unfold I64; omega) | (with_reducible (have hMx := Mem.undrew hM; exact hMx)) | (with_reducible (have hMx := Mem.undrew hMp; exact hMx))))
  clear hM
  intro wst hM
  (try simp only [World.size_alloc, World.size_setCell, World.heap_drewN, heapDrew, Nat.add_assoc, Nat.reduceAdd, List.setIfInBounds_toArray, List.set_cons_zero, List.set_cons_succ, List.cons_append, List.nil_append] at hM)
  have hf0 := HF.out
  try dsimp only at hf0
  cases rok
  · rw [if_neg (by simp)] at hf0
    have HF2 := Lib.hid hf0
    clear hf0 HF
    obtain ⟨k4, f4, l4⟩ := hM.row (.there (.there (.there (.there .here))))
    go_wp2
    rw [HF2.out]
    refine bodyPost_ret (v := .tuple #[.agg #[.int .i64 0, .int .i64 0, .slice none 0 0, .slice none 0 0, .slice none 0 0, .int .i64 0], .bool false]) (by simp [results, Try.results42, go_sem, k4]) rfl ⟨none, 0, 0, none, 0, 0, none, 0, 0, rfl, ?_⟩
    apply Mem.nil3
    (repeat' (first | with_reducible exact hM | with_reducible exact hMp | with_reducible apply Mem.drew | with_reducible apply Mem.drewN | with_reducible apply Mem.alloc | with_reducible apply Mem.set | with_reducible exact Sto.row | ((with_reducible refine Sto.rowEq2 ?_ ?_); omega; rfl) | ((with_reducible refine Sto.rowEq ?_); omega) | with_reducible apply Sto.int | with_reducible apply Sto.there | with_reducible assumption | (unfold I64; omega) | (with_reducible (have hMx := Mem.undrew hM; exact hMx)) | (with_reducible (have hMx := Mem.undrew hMp; exact hMx))))
  · rw [if_pos rfl] at hf0
    have HF2 := Lib.hid hf0
    clear hf0 HF
    obtain ⟨k0, f0, l0⟩ := hM.row .here
    obtain ⟨k4, f4, l4⟩ := hM.row (.there (.there (.there (.there .here))))
    go_wp2
    rw [HF2.out]
    refine bodyPost_ret (v := .tuple #[.agg #[.int .i64 rW, .int .i64 rH, .slice b1 n1 d1, .slice b2 n2 d2, .slice b3 n3 d3, .int .i64 rt], .bool true]) (by simp [results, Try.results42, go_sem, k4]) rfl ⟨b1, n1, d1, b2, n2, d2, b3, n3, d3, rfl, ?_⟩
    apply Mem.pick (is := [1, 2, 3])
    · (repeat' (first | with_reducible exact hM | with_reducible exact hMp | with_reducible apply Mem.drew | with_reducible apply Mem.drewN | with_reducible apply Mem.alloc | with_reducible apply Mem.set | with_reducible exact Sto.row | ((with_reducible refine Sto.rowEq2 ?_ ?_); omega; rfl) | ((with_reducible refine Sto.rowEq ?_); omega) | with_reducible apply Sto.int | with_reducible apply Sto.there | with_reducible assumption | (unfold I64; omega) | (with_reducible (have hMx := Mem.undrew hM; exact hMx)) | (with_reducible (have hMx := Mem.undrew hMp; exact hMx))))
    · decide
    · rfl
end Go.Proofs.Ytkohfegajcmdbaa
