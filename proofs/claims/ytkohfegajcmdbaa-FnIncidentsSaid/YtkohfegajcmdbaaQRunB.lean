/-
  RunActions of the reference.
-/
import Derived.Test.YtkohfegajcmdbaaQRunA
/-
  RunActions of the reference.
-/
namespace Go.Proofs.Ytkohfegajcmdbaa
set_option linter.unusedSimpArgs false
set_option linter.unusedVariables false
open Go.RowKit

theorem all_take_succV {α : Type} {z : α} {p : α → Bool} {xs : List α} {k : Nat} (hk : k < xs.length) : (xs.take (k + 1)).all p = ((xs.take k).all p && p (xs.getD k z)) := by
  rw [take_succV (z := z) hk, List.all_append]
  simp
theorem all_falseV {α : Type} {z : α} {p : α → Bool} {xs : List α} {k : Nat} (hk : k < xs.length) (h : p (xs.getD k z) = false) : xs.all p = false :=
  List.all_eq_false.2 ⟨xs.getD k z, by rw [List.getD_eq_getElem?_getD, List.getElem?_eq_getElem hk]; exact List.getElem_mem _, by rw [h]; exact Bool.false_ne_true⟩

set_option maxRecDepth 100000 in
set_option maxHeartbeats 30000000 in
theorem specRun_any (W H : Int) (a : Option Addr) (n c : Nat) (xs : List Int) (af : Option Addr) (nf cf : Nat) (fs : List Int) (aw : Option Addr) (nw cw : Nat) (ws : List Int) (t : Int) (a1 : Option Addr) (n1 c1 : Nat) (acts : List ActionI) (w : World) (h : Ints w a n c xs) (hf : Ints w af nf cf fs) (hw : Ints w aw nw cw ws) (h1 : Rd FAction w a1 n1 c1 acts) :
    Calls Try.prog 48 #[.agg #[.int .i64 W, .int .i64 H, .slice a n c, .slice af nf cf, .slice aw nw cw, .int .i64 t], .slice a1 n1 c1] w ((RunP w (runAR W H xs fs ws t acts))) := by
  have hM := Mem.start w
  have hrm1 := h1.nroom
  have HL1 := Lib.hid h1.len
  cases hi : incB W H xs fs ws t
  · have HF := Lib.hid (show runAR W H xs fs ws t acts = ⟨IncI.zero, 0, false⟩ by rw [runAR, hi]; rfl)
    go_enter Try.func48, Try.ntmps48
    go_wp2_with fail
    apply Mem.atA
    · (repeat' (first | with_reducible exact hM | with_reducible exact hMp | with_reducible apply Mem.drew | with_reducible apply Mem.drewN | with_reducible apply Mem.alloc | with_reducible apply Mem.set | with_reducible exact Sto.row | ((with_reducible refine Sto.rowEq2 ?_ ?_); omega; rfl) | ((with_reducible refine Sto.rowEq ?_); omega) | with_reducible apply Sto.int | with_reducible apply Sto.there | with_reducible assumption | (unfold I64; omega) | (with_reducible (have hMx := Mem.undrew hM; exact hMx)) | (with_reducible (have hMx := Mem.undrew hMp; exact hMx))))
    clear hM
    intro wst hM
    (try simp only [World.size_alloc, World.size_setCell, World.heap_drewN, heapDrew, Nat.add_assoc, Nat.reduceAdd, List.setIfInBounds_toArray, List.set_cons_zero, List.set_cons_succ, List.cons_append, List.nil_append] at hM)
    apply Calls.mono
    · (apply l21Good_any) <;> (first | (show (_ : Prop); with_reducible assumption) | (apply Hid.out; with_reducible assumption) | (apply Mem.intsR hM; (repeat' (first | with_reducible exact In.here | with_reducible apply In.there)); done) | (apply Ints.ext (hb := hM.below); with_reducible assumption) | (apply Rd.ext (hb := hM.below); with_reducible assumption) | (apply Mem.row hM; (repeat' (first | with_reducible exact In.here | with_reducible apply In.there)); done) | (apply Row.ext (hb := hM.below); with_reducible assumption) | exact ⟨by omega, by omega⟩ | omega | (trace_state; fail))
    rw [hi]
    rintro e wc1 ⟨rfl, hb⟩
    replace hM := hM.ext hb
    clear hb
    obtain ⟨k0, f0, l0⟩ := hM.row .here
    go_wp2
    rw [HF.out]
    refine bodyPost_ret (v := .tuple #[.agg #[.int .i64 0, .int .i64 0, .slice none 0 0, .slice none 0 0, .slice none 0 0, .int .i64 0], .int .i64 0, .bool false]) (by simp [results, Try.results48, go_sem, k0]) rfl ⟨none, 0, 0, none, 0, 0, none, 0, 0, rfl, ?_⟩
    apply Mem.nil3
    (repeat' (first | with_reducible exact hM | with_reducible exact hMp | with_reducible apply Mem.drew | with_reducible apply Mem.drewN | with_reducible apply Mem.alloc | with_reducible apply Mem.set | with_reducible exact Sto.row | ((with_reducible refine Sto.rowEq2 ?_ ?_); omega; rfl) | ((with_reducible refine Sto.rowEq ?_); omega) | with_reducible apply Sto.int | with_reducible apply Sto.there | with_reducible assumption | (unfold I64; omega) | (with_reducible (have hMx := Mem.undrew hM; exact hMx)) | (with_reducible (have hMx := Mem.undrew hMp; exact hMx))))
  have HI := Lib.hid hi
  obtain ⟨Wn, Hn, rfl, rfl, hlf, hlw, hnp, hn25, hW, ht, hxs, hfs, hws⟩ := incB_facts hi
  rw [h.len] at hlf hlw hnp hn25
  obtain rfl : nf = n := by rw [← hlf, hf.len]
  obtain rfl : nw = nf := by rw [← hlw, hw.len]
  have HOK := Lib.hid (fun k (hk : k ≤ acts.length) => runTo_ok (l := acts) (n := nw) (W := Wn) (H := Hn) (t := t) (s := ⟨⟨Wn, Hn, xs, fs, ws, t⟩, 0⟩) ⟨rfl, rfl, h.len, hf.len, hw.len, fun x hx => (hxs x hx).1, hws, Int.le_refl _, by show t ≤ t + ((0 : Nat) : Int); omega, Nat.le_refl _⟩ k hk)
  have HF0 := Lib.hid (show runAR Wn Hn xs fs ws t acts = if decide (n1 ≤ 30) && actsB nw acts then ⟨(runTo nw acts ⟨⟨Wn, Hn, xs, fs, ws, t⟩, 0⟩).i, (runTo nw acts ⟨⟨Wn, Hn, xs, fs, ws, t⟩, 0⟩).k, true⟩ else ⟨IncI.zero, 0, false⟩ by rw [runAR, hi, h.len, h1.len, Bool.true_and])
  clear hxs hfs hws hlf hlw hi
  by_cases hl : n1 ≤ 30
  rotate_left
  · have HF := Lib.hid (show runAR Wn Hn xs fs ws t acts = ⟨IncI.zero, 0, false⟩ by rw [HF0.out, decide_eq_false hl]; rfl)
    have hl2 : (30 : Int) < n1 := by omega
    clear HF0
    go_enter Try.func48, Try.ntmps48
    go_wp2_with fail
    apply Mem.atA
    · (repeat' (first | with_reducible exact hM | with_reducible exact hMp | with_reducible apply Mem.drew | with_reducible apply Mem.drewN | with_reducible apply Mem.alloc | with_reducible apply Mem.set | with_reducible exact Sto.row | ((with_reducible refine Sto.rowEq2 ?_ ?_); omega; rfl) | ((with_reducible refine Sto.rowEq ?_); omega) | with_reducible apply Sto.int | with_reducible apply Sto.there | with_reducible assumption | (unfold I64; omega) | (with_reducible (have hMx := Mem.undrew hM; exact hMx)) | (with_reducible (have hMx := Mem.undrew hMp; exact hMx))))
    clear hM
    intro wst hM
    (try simp only [World.size_alloc, World.size_setCell, World.heap_drewN, heapDrew, Nat.add_assoc, Nat.reduceAdd, List.setIfInBounds_toArray, List.set_cons_zero, List.set_cons_succ, List.cons_append, List.nil_append] at hM)
    apply Calls.mono
    · (apply l21Good_any) <;> (first | (show (_ : Prop); with_reducible assumption) | (apply Hid.out; with_reducible assumption) | (apply Mem.intsR hM; (repeat' (first | with_reducible exact In.here | with_reducible apply In.there)); done) | (apply Ints.ext (hb := hM.below); with_reducible assumption) | (apply Rd.ext (hb := hM.below); with_reducible assumption) | (apply Mem.row hM; (repeat' (first | with_reducible exact In.here | with_reducible apply In.there)); done) | (apply Row.ext (hb := hM.below); with_reducible assumption) | exact ⟨by omega, by omega⟩ | omega | (trace_state; fail))
    rw [HI.out]
    rintro e wc2 ⟨rfl, hb⟩
    replace hM := hM.ext hb
    clear hb
    obtain ⟨k0, f0, l0⟩ := hM.row .here
    go_wp2
    rw [HF.out]
    refine bodyPost_ret (v := .tuple #[.agg #[.int .i64 0, .int .i64 0, .slice none 0 0, .slice none 0 0, .slice none 0 0, .int .i64 0], .int .i64 0, .bool false]) (by simp [results, Try.results48, go_sem, k0]) rfl ⟨none, 0, 0, none, 0, 0, none, 0, 0, rfl, ?_⟩
    apply Mem.nil3
    (repeat' (first | with_reducible exact hM | with_reducible exact hMp | with_reducible apply Mem.drew | with_reducible apply Mem.drewN | with_reducible apply Mem.alloc | with_reducible apply Mem.set | with_reducible exact Sto.row | ((with_reducible refine Sto.rowEq2 ?_ ?_); omega; rfl) | ((with_reducible refine Sto.rowEq ?_); omega) | with_reducible apply Sto.int | with_reducible apply Sto.there | with_reducible assumption | (unfold I64; omega) | (with_reducible (have hMx := Mem.undrew hM; exact hMx)) | (with_reducible (have hMx := Mem.undrew hMp; exact hMx))))
  have hl2 : ¬ (30 : Int) < n1 := by omega
  have HFA := Lib.hid (fun (hq : (acts.all fun v => actionB nw v.kd v.cell) = false) => show runAR Wn Hn xs fs ws t acts = ⟨IncI.zero, 0, false⟩ by rw [HF0.out, actsB, hq, Bool.and_false]; rfl)
  have HTR := Lib.hid (fun (hq : (acts.all fun v => actionB nw v.kd v.cell) = true) => show runAR Wn Hn xs fs ws t acts = ⟨(runTo nw acts ⟨⟨Wn, Hn, xs, fs, ws, t⟩, 0⟩).i, (runTo nw acts ⟨⟨Wn, Hn, xs, fs, ws, t⟩, 0⟩).k, true⟩ by rw [HF0.out, actsB, hq, decide_eq_true hl]; rfl)
  clear HF0
  go_enter Try.func48, Try.ntmps48
  go_wp2_with fail
  apply Mem.atA
  · (repeat' (first | with_reducible exact hM | with_reducible exact hMp | with_reducible apply Mem.drew | with_reducible apply Mem.drewN | with_reducible apply Mem.alloc | with_reducible apply Mem.set | with_reducible exact Sto.row | ((with_reducible refine Sto.rowEq2 ?_ ?_); omega; rfl) | ((with_reducible refine Sto.rowEq ?_); omega) | with_reducible apply Sto.int | with_reducible apply Sto.there | with_reducible assumption | (unfold I64; omega) | (with_reducible (have hMx := Mem.undrew hM; exact hMx)) | (with_reducible (have hMx := Mem.undrew hMp; exact hMx))))
  clear hM
  intro wst hM
  (try simp only [World.size_alloc, World.size_setCell, World.heap_drewN, heapDrew, Nat.add_assoc, Nat.reduceAdd, List.setIfInBounds_toArray, List.set_cons_zero, List.set_cons_succ, List.cons_append, List.nil_append] at hM)
  apply Calls.mono
  · (apply l21Good_any) <;> (first | (show (_ : Prop); with_reducible assumption) | (apply Hid.out; with_reducible assumption) | (apply Mem.intsR hM; (repeat' (first | with_reducible exact In.here | with_reducible apply In.there)); done) | (apply Ints.ext (hb := hM.below); with_reducible assumption) | (apply Rd.ext (hb := hM.below); with_reducible assumption) | (apply Mem.row hM; (repeat' (first | with_reducible exact In.here | with_reducible apply In.there)); done) | (apply Row.ext (hb := hM.below); with_reducible assumption) | exact ⟨by omega, by omega⟩ | omega | (trace_state; fail))
  rw [HI.out]
  rintro e wc3 ⟨rfl, hb⟩
  replace hM := hM.ext hb
  clear hb
  go_wp2_with fail
  go_loopw [7] (fun i wr => ∃ k : Nat, k ≤ n1 ∧ i = .int .i64 k ∧ (acts.take k).all (fun v => actionB nw v.kd v.cell) = true ∧ Mem w.heap.size w wr [rowE (w.heap.size + 1) 46 #[.int .i64 0, .int .i64 0, .slice none 0 0, .slice none 0 0, .slice none 0 0, .int .i64 0], rowE w.heap.size 46 #[.int .i64 Wn, .int .i64 Hn, .slice a nw c, .slice af nw cf, .slice aw nw cw, .int .i64 t]]) (fun i _ => n1 - (intOf i).toNat)
  case atStart => exact ⟨0, Nat.zero_le _, rfl, by simp, by (repeat' (first | with_reducible exact hM | with_reducible exact hMp | with_reducible apply Mem.drew | with_reducible apply Mem.drewN | with_reducible apply Mem.alloc | with_reducible apply Mem.set | with_reducible exact Sto.row | ((with_reducible refine Sto.rowEq2 ?_ ?_); omega; rfl) | ((with_reducible refine Sto.rowEq ?_); omega) | with_reducible apply Sto.int | with_reducible apply Sto.there | with_reducible assumption | (unfold I64; omega) | (with_reducible (have hMx := Mem.undrew hM; exact hMx)) | (with_reducible (have hMx := Mem.undrew hMp; exact hMx))))⟩
  case round =>
    clear hM
    obtain ⟨k, hk, rfl, hall, hM⟩ := hrel
    have HA := Lib.hid hall; clear hall
    by_cases hlt : k < n1
    · obtain ⟨bl, offl, rfl, -, -⟩ := h1.at' _ hlt
      have hkl : k < acts.length := by rw [HL1.out]; exact hlt
      have hts := all_take_succV (z := ActionI.zero) (p := fun v => actionB nw v.kd v.cell) hkl
      have haf := all_falseV (z := ActionI.zero) (p := fun v => actionB nw v.kd v.cell) hkl
      obtain ⟨v, hv⟩ : ∃ v, acts.getD k ActionI.zero = v := ⟨_, rfl⟩
      rw [hv] at hts haf
      obtain ⟨ak, ac⟩ := v
      dsimp only at hts haf
      obtain ⟨q, hq⟩ : ∃ q, actionB nw ak ac = q := ⟨_, rfl⟩
      rw [hq] at hts haf
      have HTS := Lib.hid hts; have HAF := Lib.hid haf; have HQ := Lib.hid hq; have HV := Lib.hid hv
      clear hts haf hq hv hkl
      have i0 : (0 : Int) ≤ (k : Int) := by omega
      have i1 : (k : Int) < (n1 : Int) := by omega
      go_wp2_with fail
      apply Mem.atWpA
      · (repeat' (first | with_reducible exact hM | with_reducible exact hMp | with_reducible apply Mem.drew | with_reducible apply Mem.drewN | with_reducible apply Mem.alloc | with_reducible apply Mem.set | with_reducible exact Sto.row | ((with_reducible refine Sto.rowEq2 ?_ ?_); omega; rfl) | ((with_reducible refine Sto.rowEq ?_); omega) | with_reducible apply Sto.int | with_reducible apply Sto.there | with_reducible assumption | (unfold I64; omega) | (with_reducible (have hMx := Mem.undrew hM; exact hMx)) | (with_reducible (have hMx := Mem.undrew hMp; exact hMx))))
      clear hM
      intro wst hM
      (try simp only [World.size_alloc, World.size_setCell, World.heap_drewN, heapDrew, Nat.add_assoc, Nat.reduceAdd, List.setIfInBounds_toArray, List.set_cons_zero, List.set_cons_succ, List.cons_append, List.nil_append] at hM)
      refine AtT.startA hM hM 6 (by kernel_rfl) ?_
      clear hM
      intro wd hM
      have hS := hM
      refine AtT.taked (i := 0) (v := ?_) (some 28) rfl rfl (by kernel_rfl) (by kernel_rfl) (by kernel_rfl) (by kernel_rfl) (fun _ _ _ h => h) (Or.inl ⟨by kernel_rfl, ?_⟩) hS ?_
      rotate_left
      · (intro wS hSw; (try dsimp only at hSw); have kr0 := (Mem.row hSw (.there .here)).cell; have hc0 := ((h1.ext hSw.below).cellAction hlt).2.1; rw [HV.out] at hc0; have hc1 := ((h1.ext hSw.below).cellAction hlt).2.2; rw [HV.out] at hc1; go_simp; (try rw [if_neg (by omega)]); try with_reducible rfl)
      simp only [Act.put, List.setIfInBounds_toArray, List.set_cons_zero, List.set_cons_succ]
      refine AtT.taked (i := 1) (v := ?_) (some 29) rfl rfl (by kernel_rfl) (by kernel_rfl) (by kernel_rfl) (by kernel_rfl) (fun _ _ _ h => h) (Or.inl ⟨by kernel_rfl, ?_⟩) hS ?_
      rotate_left
      · (intro wS hSw; (try dsimp only at hSw); go_simp; (try rw [if_neg (by omega)]); try with_reducible rfl)
      simp only [Act.put, List.setIfInBounds_toArray, List.set_cons_zero, List.set_cons_succ]
      refine AtT.taked (i := 2) (v := ?_) (some 30) rfl rfl (by kernel_rfl) (by kernel_rfl) (by kernel_rfl) (by kernel_rfl) (fun _ _ _ h => h) (Or.inl ⟨by kernel_rfl, ?_⟩) hS ?_
      rotate_left
      · (intro wS hSw; (try dsimp only at hSw); go_simp; (try rw [if_neg (by omega)]); try with_reducible rfl)
      simp only [Act.put, List.setIfInBounds_toArray, List.set_cons_zero, List.set_cons_succ]
      refine AtT.taked (i := 3) (v := ?_) (some 31) rfl rfl (by kernel_rfl) (by kernel_rfl) (by kernel_rfl) (by kernel_rfl) (fun _ _ _ h => h) (Or.inl ⟨by kernel_rfl, ?_⟩) hS ?_
      rotate_left
      · (intro wS hSw; (try dsimp only at hSw); have kr0 := (Mem.row hSw (.there .here)).cell; have hc0 := ((h1.ext hSw.below).cellAction hlt).2.1; rw [HV.out] at hc0; have hc1 := ((h1.ext hSw.below).cellAction hlt).2.2; rw [HV.out] at hc1; go_simp; (try rw [if_neg (by omega)]); try with_reducible rfl)
      simp only [Act.put, List.setIfInBounds_toArray, List.set_cons_zero, List.set_cons_succ]
      refine AtT.taked (i := 4) (v := ?_) (some 32) rfl rfl (by kernel_rfl) (by kernel_rfl) (by kernel_rfl) (by kernel_rfl) (fun _ _ _ h => h) (Or.inl ⟨by kernel_rfl, ?_⟩) hS ?_
      rotate_left
      · (intro wS hSw; (try dsimp only at hSw); have kr0 := (Mem.row hSw (.there .here)).cell; have hc0 := ((h1.ext hSw.below).cellAction hlt).2.1; rw [HV.out] at hc0; have hc1 := ((h1.ext hSw.below).cellAction hlt).2.2; rw [HV.out] at hc1; go_simp; (try rw [if_neg (by omega)]); try with_reducible rfl)
      simp only [Act.put, List.setIfInBounds_toArray, List.set_cons_zero, List.set_cons_succ]
      refine AtT.only (i := 5) (by kernel_rfl) rfl rfl ?_
      intro K hK
      go_simp
      refine (l21Action_any Wn Hn a nw c xs af cf fs aw cw ws t ak ac _ (h.ext hM.below) (hf.ext hM.below) (hw.ext hM.below) hn25).mono ?_
      rw [HQ.out]
      rintro e w3 ⟨rfl, hb⟩
      replace hM := hM.ext hb
      clear hb
      try dsimp only
      refine hK.out _ _ (hM) ?_
      clear hK K hS
      have hS := hM
      refine AtT.last (by kernel_rfl) rfl (by kernel_rfl) ?_
      intro K hK
      clear hS
      go_simp
      refine hK.out _ _ ?_
      clear hK K
      obtain ⟨k0, f0, l0⟩ := hM.row .here
      cases q
      · go_wp2
        rw [HFA.out (HAF.out (by simp))]
        refine bodyPost_ret (v := .tuple #[.agg #[.int .i64 0, .int .i64 0, .slice none 0 0, .slice none 0 0, .slice none 0 0, .int .i64 0], .int .i64 0, .bool false]) (by simp [results, Try.results48, go_sem, k0]) rfl ⟨none, 0, 0, none, 0, 0, none, 0, 0, rfl, ?_⟩
        apply Mem.nil3
        (repeat' (first | with_reducible exact hM | with_reducible exact hMp | with_reducible apply Mem.drew | with_reducible apply Mem.drewN | with_reducible apply Mem.alloc | with_reducible apply Mem.set | with_reducible exact Sto.row | ((with_reducible refine Sto.rowEq2 ?_ ?_); omega; rfl) | ((with_reducible refine Sto.rowEq ?_); omega) | with_reducible apply Sto.int | with_reducible apply Sto.there | with_reducible assumption | (unfold I64; omega) | (with_reducible (have hMx := Mem.undrew hM; exact hMx)) | (with_reducible (have hMx := Mem.undrew hMp; exact hMx))))
      · go_wp2
        go_roundw
        case rel => exact ⟨k + 1, by omega, by go_num, by rw [HTS.out, HA.out]; rfl, by (repeat' (first | with_reducible exact hM | with_reducible exact hMp | with_reducible apply Mem.drew | with_reducible apply Mem.drewN | with_reducible apply Mem.alloc | with_reducible apply Mem.set | with_reducible exact Sto.row | ((with_reducible refine Sto.rowEq2 ?_ ?_); omega; rfl) | ((with_reducible refine Sto.rowEq ?_); omega) | with_reducible apply Sto.int | with_reducible apply Sto.there | with_reducible assumption | (unfold I64; omega) | (with_reducible (have hMx := Mem.undrew hM; exact hMx)) | (with_reducible (have hMx := Mem.undrew hMp; exact hMx))))⟩
        case measure => simp [intOf]; omega
    · obtain rfl : k = n1 := by omega
      have hall := HA.out
      rw [List.take_of_length_le (by rw [HL1.out]; exact Nat.le_refl _)] at hall
      have HALL := Lib.hid (List.all_eq_true.1 hall)
      have HF := Lib.hid (HTR.out hall)
      clear hall HTR HFA
      obtain ⟨k1, f1, l1⟩ := hM.row (.there .here)
      go_wp2_with fail
      clear k1 f1 l1
      apply Mem.atA
      · (repeat' (first | with_reducible exact hM | with_reducible exact hMp | with_reducible apply Mem.drew | with_reducible apply Mem.drewN | with_reducible apply Mem.alloc | with_reducible apply Mem.set | with_reducible exact Sto.row | ((with_reducible refine Sto.rowEq2 ?_ ?_); omega; rfl) | ((with_reducible refine Sto.rowEq ?_); omega) | with_reducible apply Sto.int | with_reducible apply Sto.there | with_reducible assumption | (unfold I64; omega) | (with_reducible (have hMx := Mem.undrew hM; exact hMx)) | (with_reducible (have hMx := Mem.undrew hMp; exact hMx))))
      clear hM
      intro wst hM
      (try simp only [World.size_alloc, World.size_setCell, World.heap_drewN, heapDrew, Nat.add_assoc, Nat.reduceAdd, List.setIfInBounds_toArray, List.set_cons_zero, List.set_cons_succ, List.cons_append, List.nil_append] at hM)
      apply Calls.mono
      · (apply l21Own_any Wn Hn a nw c xs af cf fs aw cw ws t) <;> (first | (show (_ : Prop); with_reducible assumption) | (apply Hid.out; with_reducible assumption) | (apply Mem.intsR hM; (repeat' (first | with_reducible exact In.here | with_reducible apply In.there)); done) | (apply Ints.ext (hb := hM.below); with_reducible assumption) | (apply Rd.ext (hb := hM.below); with_reducible assumption) | (apply Mem.row hM; (repeat' (first | with_reducible exact In.here | with_reducible apply In.there)); done) | (apply Row.ext (hb := hM.below); with_reducible assumption) | exact ⟨by omega, by omega⟩ | omega | (trace_state; fail))
      rintro e wq ⟨b1, d1, b2, d2, b3, d3, rfl, hm⟩
      replace hM := hM.join hm
      clear hm
      (try simp only [World.size_alloc, World.size_setCell, World.heap_drewN, heapDrew, Nat.add_assoc, Nat.reduceAdd, List.setIfInBounds_toArray, List.set_cons_zero, List.set_cons_succ, List.cons_append, List.nil_append] at hM)
      go_wp2_with fail
      apply Mem.atWpA
      · (repeat' (first | with_reducible exact hM | with_reducible exact hMp | with_reducible apply Mem.drew | with_reducible apply Mem.drewN | with_reducible apply Mem.alloc | with_reducible apply Mem.set | with_reducible exact Sto.row | ((with_reducible refine Sto.rowEq2 ?_ ?_); omega; rfl) | ((with_reducible refine Sto.rowEq ?_); omega) | with_reducible apply Sto.int | with_reducible apply Sto.there | with_reducible assumption | (unfold I64; omega) | (with_reducible (have hMx := Mem.undrew hM; exact hMx)) | (with_reducible (have hMx := Mem.undrew hMp; exact hMx))))
      clear hM
      intro wst hM
      (try simp only [World.size_alloc, World.size_setCell, World.heap_drewN, heapDrew, Nat.add_assoc, Nat.reduceAdd, List.setIfInBounds_toArray, List.set_cons_zero, List.set_cons_succ, List.cons_append, List.nil_append] at hM)
      go_loopg [9, 10] 100 (fun gh s9 s10 wr => ∃ (j : Nat) (S : RunS) (b1 : Option Addr) (d1 : Nat) (b2 : Option Addr) (d2 : Nat) (b3 : Option Addr) (d3 : Nat), j ≤ k ∧ k - j ≤ gh ∧ S = runTo nw (acts.take j) ⟨⟨Wn, Hn, xs, fs, ws, t⟩, 0⟩ ∧ s9 = .int .i64 S.k ∧ s10 = .int .i64 j ∧ Mem w.heap.size w wr [rowE wq.heap.size 46 #[.int .i64 Wn, .int .i64 Hn, .slice b1 nw d1, .slice b2 nw d2, .slice b3 nw d3, .int .i64 S.i.t], intE b1 nw d1 S.i.xs, intE b2 nw d2 S.i.fs, intE b3 nw d3 S.i.ws, rowE (w.heap.size + 1) 46 #[.int .i64 0, .int .i64 0, .slice none 0 0, .slice none 0 0, .slice none 0 0, .int .i64 0]])
      case atStart => exact ⟨0, ⟨⟨Wn, Hn, xs, fs, ws, t⟩, 0⟩, b1, d1, b2, d2, b3, d3, Nat.zero_le _, by omega, rfl, rfl, rfl, hM.pick (is := [0, 1, 2, 3, 4]) (by decide) rfl⟩
      case round =>
        clear hM
        obtain ⟨j, S, b1, d1, b2, d2, b3, d3, hj, hgh, hS, rfl, rfl, hM⟩ := hrel
        have hok := HOK.out j (by rw [HL1.out]; exact hj)
        rw [← hS] at hok
        obtain ⟨⟨sW, sH, sx, sf, sw, st⟩, sk⟩ := S
        obtain ⟨rfl, rfl, l1, l2, l3, px, pw, t0, t1, kb⟩ := hok
        dsimp only at hM l1 l2 l3 px pw t0 t1 kb ⊢
        have HS := Lib.hid hS
        have HPX := Lib.hid px; have HPW := Lib.hid pw
        have HLX := Lib.hid l1; have HLF := Lib.hid l2; have HLW := Lib.hid l3
        clear hS px pw l1 l2 l3
        by_cases hlt : j < k
        · obtain ⟨bl, offl, rfl, -, -⟩ := h1.at' _ hlt
          have hkl : j < acts.length := by rw [HL1.out]; exact hlt
          have hav := HALL.out (acts.getD j ActionI.zero) (by rw [List.getD_eq_getElem?_getD, List.getElem?_eq_getElem hkl]; exact List.getElem_mem _)
          have hsu := runTo_succ (n := nw) (s := ⟨⟨Wn, Hn, xs, fs, ws, t⟩, 0⟩) hkl
          rw [← HS.out] at hsu
          obtain ⟨v, hv⟩ : ∃ v, acts.getD j ActionI.zero = v := ⟨_, rfl⟩
          rw [hv] at hav hsu
          have HV := Lib.hid hv
          obtain ⟨ak, ac⟩ := v
          dsimp only at hav hsu
          rw [runStep] at hsu
          dsimp only at hsu
          obtain ⟨r, hr⟩ : ∃ r, actI nw ⟨Wn, Hn, sx, sf, sw, st⟩ ak ac.toNat = r := ⟨_, rfl⟩
          rw [hr] at hsu
          have HAV := Lib.hid hav; have HSU := Lib.hid hsu; have HR := Lib.hid hr
          clear hav hsu hr hv hkl
          have i0 : (0 : Int) ≤ (j : Int) := by omega
          have i1 : (j : Int) < (k : Int) := by omega
          have HOK2 := HOK.out (j + 1) (by rw [HL1.out]; omega)
          rw [HSU.out] at HOK2
          replace HOK2 := Lib.hid HOK2
          go_upto_region 12 with fail
          go_cut [11, 12] (fun s11 s12 wx => ∃ (b4 : Option Addr) (n4 d4 : Nat) (b5 : Option Addr) (n5 d5 : Nat) (b6 : Option Addr) (n6 d6 : Nat) (b9 : Nat), s11 = .pointer (some ⟨b9, 0, none⟩) ∧ s12 = .bool r.ok ∧ Mem w.heap.size w wx [rowE b9 46 #[.int .i64 r.i.W, .int .i64 r.i.H, .slice b4 n4 d4, .slice b5 n5 d5, .slice b6 n6 d6, .int .i64 r.i.t], intE b4 n4 d4 r.i.xs, intE b5 n5 d5 r.i.fs, intE b6 n6 d6 r.i.ws, rowE wq.heap.size 46 #[.int .i64 Wn, .int .i64 Hn, .slice b1 nw d1, .slice b2 nw d2, .slice b3 nw d3, .int .i64 st], intE b1 nw d1 sx, intE b2 nw d2 sf, intE b3 nw d3 sw, rowE (w.heap.size + 1) 46 #[.int .i64 0, .int .i64 0, .slice none 0 0, .slice none 0 0, .slice none 0 0, .int .i64 0]])
          case first =>
            apply Mem.atWpA
            · (repeat' (first | with_reducible exact hM | with_reducible exact hMp | with_reducible apply Mem.drew | with_reducible apply Mem.drewN | with_reducible apply Mem.alloc | with_reducible apply Mem.set | with_reducible exact Sto.row | ((with_reducible refine Sto.rowEq2 ?_ ?_); omega; rfl) | ((with_reducible refine Sto.rowEq ?_); omega) | with_reducible apply Sto.int | with_reducible apply Sto.there | with_reducible assumption | (unfold I64; omega) | (with_reducible (have hMx := Mem.undrew hM; exact hMx)) | (with_reducible (have hMx := Mem.undrew hMp; exact hMx))))
            clear hM
            intro wst hM
            (try simp only [World.size_alloc, World.size_setCell, World.heap_drewN, heapDrew, Nat.add_assoc, Nat.reduceAdd, List.setIfInBounds_toArray, List.set_cons_zero, List.set_cons_succ, List.cons_append, List.nil_append] at hM)
            refine AtT.startA hM hM 11 (by kernel_rfl) ?_
            clear hM
            intro wd hM
            have hS := hM
            refine AtT.taked (i := 0) (v := ?_) (some 45) rfl rfl (by kernel_rfl) (by kernel_rfl) (by kernel_rfl) (by kernel_rfl) (fun _ _ _ h => h) (Or.inl ⟨by kernel_rfl, ?_⟩) hS ?_
            rotate_left
            · (intro wS hSw; (try dsimp only at hSw); have kr0 := (Mem.row hSw .here).cell; have hc0 := ((h1.ext hSw.below).cellAction hlt).2.1; rw [HV.out] at hc0; have hc1 := ((h1.ext hSw.below).cellAction hlt).2.2; rw [HV.out] at hc1; go_simp; (try rw [if_neg (by omega)]); try with_reducible rfl)
            simp only [Act.put, List.setIfInBounds_toArray, List.set_cons_zero, List.set_cons_succ]
            refine AtT.taked (i := 1) (v := ?_) (some 46) rfl rfl (by kernel_rfl) (by kernel_rfl) (by kernel_rfl) (by kernel_rfl) (fun _ _ _ h => h) (Or.inl ⟨by kernel_rfl, ?_⟩) hS ?_
            rotate_left
            · (intro wS hSw; (try dsimp only at hSw); go_simp; (try rw [if_neg (by omega)]); try with_reducible rfl)
            simp only [Act.put, List.setIfInBounds_toArray, List.set_cons_zero, List.set_cons_succ]
            refine AtT.taked (i := 2) (v := ?_) (some 47) rfl rfl (by kernel_rfl) (by kernel_rfl) (by kernel_rfl) (by kernel_rfl) (fun _ _ _ h => h) (Or.inl ⟨by kernel_rfl, ?_⟩) hS ?_
            rotate_left
            · (intro wS hSw; (try dsimp only at hSw); go_simp; (try rw [if_neg (by omega)]); try with_reducible rfl)
            simp only [Act.put, List.setIfInBounds_toArray, List.set_cons_zero, List.set_cons_succ]
            refine AtT.taked (i := 3) (v := ?_) (some 48) rfl rfl (by kernel_rfl) (by kernel_rfl) (by kernel_rfl) (by kernel_rfl) (fun _ _ _ h => h) (Or.inl ⟨by kernel_rfl, ?_⟩) hS ?_
            rotate_left
            · (intro wS hSw; (try dsimp only at hSw); have kr0 := (Mem.row hSw .here).cell; have hc0 := ((h1.ext hSw.below).cellAction hlt).2.1; rw [HV.out] at hc0; have hc1 := ((h1.ext hSw.below).cellAction hlt).2.2; rw [HV.out] at hc1; go_simp; (try rw [if_neg (by omega)]); try with_reducible rfl)
            simp only [Act.put, List.setIfInBounds_toArray, List.set_cons_zero, List.set_cons_succ]
            refine AtT.taked (i := 4) (v := ?_) (some 49) rfl rfl (by kernel_rfl) (by kernel_rfl) (by kernel_rfl) (by kernel_rfl) (fun _ _ _ h => h) (Or.inl ⟨by kernel_rfl, ?_⟩) hS ?_
            rotate_left
            · (intro wS hSw; (try dsimp only at hSw); have kr0 := (Mem.row hSw .here).cell; have hc0 := ((h1.ext hSw.below).cellAction hlt).2.1; rw [HV.out] at hc0; have hc1 := ((h1.ext hSw.below).cellAction hlt).2.2; rw [HV.out] at hc1; go_simp; (try rw [if_neg (by omega)]); try with_reducible rfl)
            simp only [Act.put, List.setIfInBounds_toArray, List.set_cons_zero, List.set_cons_succ]
            refine AtT.two (i := 5) (j := 9) (by kernel_rfl) rfl rfl rfl rfl ?_ ?_
            · skip
              intro K hK
              go_simp
              apply Calls.mono
              · (apply l21Act_any Wn Hn b1 nw d1 sx b2 d2 sf b3 d3 sw st ak ac) <;> (first | (show (_ : Prop); with_reducible assumption) | (apply Hid.out; with_reducible assumption) | (apply Mem.intsR hM; (repeat' (first | with_reducible exact In.here | with_reducible apply In.there)); done) | (apply Ints.ext (hb := hM.below); with_reducible assumption) | (apply Rd.ext (hb := hM.below); with_reducible assumption) | (apply Mem.row hM; (repeat' (first | with_reducible exact In.here | with_reducible apply In.there)); done) | (apply Row.ext (hb := hM.below); with_reducible assumption) | exact ⟨by omega, by omega⟩ | omega | (trace_state; fail))
              rw [HR.out]
              rintro e w3 ⟨b4, n4, d4, b5, n5, d5, b6, n6, d6, rfl, hm⟩
              replace hM := hM.join hm
              clear hm
              (try simp only [World.size_alloc, World.size_setCell, World.heap_drewN, heapDrew, Nat.add_assoc, Nat.reduceAdd, List.setIfInBounds_toArray, List.set_cons_zero, List.set_cons_succ, List.cons_append, List.nil_append] at hM)
              try dsimp only
              refine hK.out _ _ (hM.tail.tail.tail) ?_
              clear hK K hS
              have hS := hM.tail.tail.tail
              refine AtT.taked (i := 6) (v := ?_) (some 44) rfl rfl (by kernel_rfl) (by kernel_rfl) (by kernel_rfl) (by kernel_rfl) (fun _ _ _ h => h) (Or.inl ⟨by kernel_rfl, ?_⟩) hS ?_
              rotate_left
              · (intro wS hSw; (try dsimp only at hSw); go_simp; (try rw [if_neg (by omega)]); try with_reducible rfl)
              simp only [Act.put, List.setIfInBounds_toArray, List.set_cons_zero, List.set_cons_succ]
              refine AtT.taked (i := 7) (v := ?_) (some 51) rfl rfl (by kernel_rfl) (by kernel_rfl) (by kernel_rfl) (by kernel_rfl) (fun _ _ _ h => h) (Or.inl ⟨by kernel_rfl, ?_⟩) hS ?_
              rotate_left
              · (intro wS hSw; (try dsimp only at hSw); go_simp; (try rw [if_neg (by omega)]); try with_reducible rfl)
              simp only [Act.put, List.setIfInBounds_toArray, List.set_cons_zero, List.set_cons_succ]
              refine AtT.taked (i := 8) (v := ?_) (some 52) rfl rfl (by kernel_rfl) (by kernel_rfl) (by kernel_rfl) (by kernel_rfl) (fun _ _ _ h => h) (Or.inl ⟨by kernel_rfl, ?_⟩) hS ?_
              rotate_left
              · (intro wS hSw; (try dsimp only at hSw); go_simp; (try rw [if_neg (by omega)]); try with_reducible rfl)
              simp only [Act.put, List.setIfInBounds_toArray, List.set_cons_zero, List.set_cons_succ]
              refine AtT.only (i := 9) (by kernel_rfl) rfl rfl ?_
              intro K hK
              go_simp
              refine hK.out _ _ (by apply Mem.tail; apply Mem.tail; apply Mem.tail; apply Mem.tail; (repeat' (first | with_reducible exact hM | with_reducible exact hMp | with_reducible apply Mem.drew | with_reducible apply Mem.drewN | with_reducible apply Mem.alloc | with_reducible apply Mem.set | with_reducible exact Sto.row | ((with_reducible refine Sto.rowEq2 ?_ ?_); omega; rfl) | ((with_reducible refine Sto.rowEq ?_); omega) | with_reducible apply Sto.int | with_reducible apply Sto.there | with_reducible assumption | (unfold I64; omega) | (with_reducible (have hMx := Mem.undrew hM; exact hMx)) | (with_reducible (have hMx := Mem.undrew hMp; exact hMx))))) ?_
              clear hK K hS
              have hMp := hM
              apply Mem.atT
              · (repeat' (first | with_reducible exact hM | with_reducible exact hMp | with_reducible apply Mem.drew | with_reducible apply Mem.drewN | with_reducible apply Mem.alloc | with_reducible apply Mem.set | with_reducible exact Sto.row | ((with_reducible refine Sto.rowEq2 ?_ ?_); omega; rfl) | ((with_reducible refine Sto.rowEq ?_); omega) | with_reducible apply Sto.int | with_reducible apply Sto.there | with_reducible assumption | (unfold I64; omega) | (with_reducible (have hMx := Mem.undrew hM; exact hMx)) | (with_reducible (have hMx := Mem.undrew hMp; exact hMx))))
              clear hM
              intro hM
              (try simp only [World.size_alloc, World.size_setCell, World.heap_drewN, heapDrew, Nat.add_assoc, Nat.reduceAdd, List.setIfInBounds_toArray, List.set_cons_zero, List.set_cons_succ, List.cons_append, List.nil_append] at hM)
              have hS := hM.tail.tail.tail.tail
              refine AtT.only (i := 10) (by kernel_rfl) rfl rfl ?_
              intro K hK
              have kk0 := (hM.row .here).cell
              have ff0 := (hM.row .here).free
              have ll0 := (hM.row .here).lt
              have kk4 := (hM.row (.there (.there (.there (.there .here))))).cell
              have ff4 := (hM.row (.there (.there (.there (.there .here))))).free
              have ll4 := (hM.row (.there (.there (.there (.there .here))))).lt
              go_simp
              clear kk0 ff0 ll0 kk4 ff4 ll4
              refine hK.out _ _ (by apply Mem.tail; apply Mem.tail; apply Mem.tail; apply Mem.tail; (repeat' (first | with_reducible exact hM | with_reducible exact hMp | with_reducible apply Mem.drew | with_reducible apply Mem.drewN | with_reducible apply Mem.alloc | with_reducible apply Mem.set | with_reducible exact Sto.row | ((with_reducible refine Sto.rowEq2 ?_ ?_); omega; rfl) | ((with_reducible refine Sto.rowEq ?_); omega) | with_reducible apply Sto.int | with_reducible apply Sto.there | with_reducible assumption | (unfold I64; omega) | (with_reducible (have hMx := Mem.undrew hM; exact hMx)) | (with_reducible (have hMx := Mem.undrew hMp; exact hMx))))) ?_
              clear hK K hS
              apply Mem.atT
              · (repeat' (first | with_reducible exact hM | with_reducible exact hMp | with_reducible apply Mem.drew | with_reducible apply Mem.drewN | with_reducible apply Mem.alloc | with_reducible apply Mem.set | with_reducible exact Sto.row | ((with_reducible refine Sto.rowEq2 ?_ ?_); omega; rfl) | ((with_reducible refine Sto.rowEq ?_); omega) | with_reducible apply Sto.int | with_reducible apply Sto.there | with_reducible assumption | (unfold I64; omega) | (with_reducible (have hMx := Mem.undrew hM; exact hMx)) | (with_reducible (have hMx := Mem.undrew hMp; exact hMx))))
              clear hM
              intro hM
              (try simp only [World.size_alloc, World.size_setCell, World.heap_drewN, heapDrew, Nat.add_assoc, Nat.reduceAdd, List.setIfInBounds_toArray, List.set_cons_zero, List.set_cons_succ, List.cons_append, List.nil_append] at hM)
              have hS := hM.tail.tail.tail.tail
              refine AtT.last (by kernel_rfl) rfl (by kernel_rfl) ?_
              intro K hK
              clear hS
              go_simp
              refine hK.out _ _ ?_
              clear hK K
              go_wp2_with fail
              go_meet
              refine ⟨b4, n4, d4, b5, n5, d5, b6, n6, d6, _, rfl, rfl, ?_⟩
              apply Mem.pick (is := [0, 1, 2, 3, 4, 5, 6, 7, 8])
              · (repeat' (first | with_reducible exact hM | with_reducible exact hMp | with_reducible apply Mem.drew | with_reducible apply Mem.drewN | with_reducible apply Mem.alloc | with_reducible apply Mem.set | with_reducible exact Sto.row | ((with_reducible refine Sto.rowEq2 ?_ ?_); omega; rfl) | ((with_reducible refine Sto.rowEq ?_); omega) | with_reducible apply Sto.int | with_reducible apply Sto.there | with_reducible assumption | (unfold I64; omega) | (with_reducible (have hMx := Mem.undrew hM; exact hMx)) | (with_reducible (have hMx := Mem.undrew hMp; exact hMx))))
              · decide
              · rfl
            · skip
              intro K hK
              go_simp
              refine hK.out _ _ (by apply Mem.tail; (repeat' (first | with_reducible exact hM | with_reducible exact hMp | with_reducible apply Mem.drew | with_reducible apply Mem.drewN | with_reducible apply Mem.alloc | with_reducible apply Mem.set | with_reducible exact Sto.row | ((with_reducible refine Sto.rowEq2 ?_ ?_); omega; rfl) | ((with_reducible refine Sto.rowEq ?_); omega) | with_reducible apply Sto.int | with_reducible apply Sto.there | with_reducible assumption | (unfold I64; omega) | (with_reducible (have hMx := Mem.undrew hM; exact hMx)) | (with_reducible (have hMx := Mem.undrew hMp; exact hMx))))) ?_
              clear hK K hS
              have hMp := hM
              apply Mem.atT
              · (repeat' (first | with_reducible exact hM | with_reducible exact hMp | with_reducible apply Mem.drew | with_reducible apply Mem.drewN | with_reducible apply Mem.alloc | with_reducible apply Mem.set | with_reducible exact Sto.row | ((with_reducible refine Sto.rowEq2 ?_ ?_); omega; rfl) | ((with_reducible refine Sto.rowEq ?_); omega) | with_reducible apply Sto.int | with_reducible apply Sto.there | with_reducible assumption | (unfold I64; omega) | (with_reducible (have hMx := Mem.undrew hM; exact hMx)) | (with_reducible (have hMx := Mem.undrew hMp; exact hMx))))
              clear hM
              intro hM
              (try simp only [World.size_alloc, World.size_setCell, World.heap_drewN, heapDrew, Nat.add_assoc, Nat.reduceAdd, List.setIfInBounds_toArray, List.set_cons_zero, List.set_cons_succ, List.cons_append, List.nil_append] at hM)
              have hS := hM.tail
              refine AtT.only (i := 5) (by kernel_rfl) rfl rfl ?_
              intro K hK
              go_simp
              apply Calls.mono
              · (apply l21Act_any Wn Hn b1 nw d1 sx b2 d2 sf b3 d3 sw st ak ac) <;> (first | (show (_ : Prop); with_reducible assumption) | (apply Hid.out; with_reducible assumption) | (apply Mem.intsR hM; (repeat' (first | with_reducible exact In.here | with_reducible apply In.there)); done) | (apply Ints.ext (hb := hM.below); with_reducible assumption) | (apply Rd.ext (hb := hM.below); with_reducible assumption) | (apply Mem.row hM; (repeat' (first | with_reducible exact In.here | with_reducible apply In.there)); done) | (apply Row.ext (hb := hM.below); with_reducible assumption) | exact ⟨by omega, by omega⟩ | omega | (trace_state; fail))
              rw [HR.out]
              rintro e w3 ⟨b4, n4, d4, b5, n5, d5, b6, n6, d6, rfl, hm⟩
              replace hM := hM.join hm
              clear hm
              (try simp only [World.size_alloc, World.size_setCell, World.heap_drewN, heapDrew, Nat.add_assoc, Nat.reduceAdd, List.setIfInBounds_toArray, List.set_cons_zero, List.set_cons_succ, List.cons_append, List.nil_append] at hM)
              try dsimp only
              refine hK.out _ _ (hM.tail.tail.tail.tail) ?_
              clear hK K hS
              have hS := hM.tail.tail.tail.tail
              refine AtT.taked (i := 6) (v := ?_) (some 44) rfl rfl (by kernel_rfl) (by kernel_rfl) (by kernel_rfl) (by kernel_rfl) (fun _ _ _ h => h) (Or.inl ⟨by kernel_rfl, ?_⟩) hS ?_
              rotate_left
              · (intro wS hSw; (try dsimp only at hSw); go_simp; (try rw [if_neg (by omega)]); try with_reducible rfl)
              simp only [Act.put, List.setIfInBounds_toArray, List.set_cons_zero, List.set_cons_succ]
              refine AtT.taked (i := 7) (v := ?_) (some 51) rfl rfl (by kernel_rfl) (by kernel_rfl) (by kernel_rfl) (by kernel_rfl) (fun _ _ _ h => h) (Or.inl ⟨by kernel_rfl, ?_⟩) hS ?_
              rotate_left
              · (intro wS hSw; (try dsimp only at hSw); go_simp; (try rw [if_neg (by omega)]); try with_reducible rfl)
              simp only [Act.put, List.setIfInBounds_toArray, List.set_cons_zero, List.set_cons_succ]
              refine AtT.taked (i := 8) (v := ?_) (some 52) rfl rfl (by kernel_rfl) (by kernel_rfl) (by kernel_rfl) (by kernel_rfl) (fun _ _ _ h => h) (Or.inl ⟨by kernel_rfl, ?_⟩) hS ?_
              rotate_left
              · (intro wS hSw; (try dsimp only at hSw); go_simp; (try rw [if_neg (by omega)]); try with_reducible rfl)
              simp only [Act.put, List.setIfInBounds_toArray, List.set_cons_zero, List.set_cons_succ]
              refine AtT.only (i := 10) (by kernel_rfl) rfl rfl ?_
              intro K hK
              have kk3 := (hM.row (.there (.there (.there .here)))).cell
              have ff3 := (hM.row (.there (.there (.there .here)))).free
              have ll3 := (hM.row (.there (.there (.there .here)))).lt
              have kk4 := (hM.row (.there (.there (.there (.there .here))))).cell
              have ff4 := (hM.row (.there (.there (.there (.there .here))))).free
              have ll4 := (hM.row (.there (.there (.there (.there .here))))).lt
              go_simp
              clear kk3 ff3 ll3 kk4 ff4 ll4
              refine hK.out _ _ (by apply Mem.tail; apply Mem.tail; apply Mem.tail; apply Mem.tail; (repeat' (first | with_reducible exact hM | with_reducible exact hMp | with_reducible apply Mem.drew | with_reducible apply Mem.drewN | with_reducible apply Mem.alloc | with_reducible apply Mem.set | with_reducible exact Sto.row | ((with_reducible refine Sto.rowEq2 ?_ ?_); omega; rfl) | ((with_reducible refine Sto.rowEq ?_); omega) | with_reducible apply Sto.int | with_reducible apply Sto.there | with_reducible assumption | (unfold I64; omega) | (with_reducible (have hMx := Mem.undrew hM; exact hMx)) | (with_reducible (have hMx := Mem.undrew hMp; exact hMx))))) ?_
              clear hK K hS
              apply Mem.atT
              · (repeat' (first | with_reducible exact hM | with_reducible exact hMp | with_reducible apply Mem.drew | with_reducible apply Mem.drewN | with_reducible apply Mem.alloc | with_reducible apply Mem.set | with_reducible exact Sto.row | ((with_reducible refine Sto.rowEq2 ?_ ?_); omega; rfl) | ((with_reducible refine Sto.rowEq ?_); omega) | with_reducible apply Sto.int | with_reducible apply Sto.there | with_reducible assumption | (unfold I64; omega) | (with_reducible (have hMx := Mem.undrew hM; exact hMx)) | (with_reducible (have hMx := Mem.undrew hMp; exact hMx))))
              clear hM
              intro hM
              (try simp only [World.size_alloc, World.size_setCell, World.heap_drewN, heapDrew, Nat.add_assoc, Nat.reduceAdd, List.setIfInBounds_toArray, List.set_cons_zero, List.set_cons_succ, List.cons_append, List.nil_append] at hM)
              have hS := hM.tail.tail.tail.tail
              refine AtT.last (by kernel_rfl) rfl (by kernel_rfl) ?_
              intro K hK
              clear hS
              go_simp
              refine hK.out _ _ ?_
              clear hK K
              go_wp2_with fail
              go_meet
              refine ⟨b4, n4, d4, b5, n5, d5, b6, n6, d6, _, rfl, rfl, ?_⟩
              apply Mem.pick (is := [3, 0, 1, 2, 4, 5, 6, 7, 8])
              · (repeat' (first | with_reducible exact hM | with_reducible exact hMp | with_reducible apply Mem.drew | with_reducible apply Mem.drewN | with_reducible apply Mem.alloc | with_reducible apply Mem.set | with_reducible exact Sto.row | ((with_reducible refine Sto.rowEq2 ?_ ?_); omega; rfl) | ((with_reducible refine Sto.rowEq ?_); omega) | with_reducible apply Sto.int | with_reducible apply Sto.there | with_reducible assumption | (unfold I64; omega) | (with_reducible (have hMx := Mem.undrew hM; exact hMx)) | (with_reducible (have hMx := Mem.undrew hMp; exact hMx))))
              · decide
              · rfl
          case rest =>
            clear hM
            obtain ⟨b4, n4, d4, b5, n5, d5, b6, n6, d6, b9, rfl, rfl, hM⟩ := hcut
            obtain ⟨⟨rW, rH, rx, rf, rw', rt⟩, rok⟩ := r
            try dsimp only at hM ⊢
            cases rok
            · have HE := Lib.hid (HSU.out.trans (if_neg Bool.false_ne_true)).symm
              go_wp2
              go_roundg (gk - 1)
              case measure => omega
              case rel =>
                refine ⟨j + 1, ⟨⟨Wn, Hn, sx, sf, sw, st⟩, sk⟩, b1, d1, b2, d2, b3, d3, by omega, by omega, HE.out, rfl, by go_num, ?_⟩
                apply Mem.pick (is := [4, 5, 6, 7, 8])
                · (repeat' (first | with_reducible exact hM | with_reducible exact hMp | with_reducible apply Mem.drew | with_reducible apply Mem.drewN | with_reducible apply Mem.alloc | with_reducible apply Mem.set | with_reducible exact Sto.row | ((with_reducible refine Sto.rowEq2 ?_ ?_); omega; rfl) | ((with_reducible refine Sto.rowEq ?_); omega) | with_reducible apply Sto.int | with_reducible apply Sto.there | with_reducible assumption | (unfold I64; omega) | (with_reducible (have hMx := Mem.undrew hM; exact hMx)) | (with_reducible (have hMx := Mem.undrew hMp; exact hMx))))
                · decide
                · rfl
            · have HE := Lib.hid (HSU.out.trans (if_pos rfl)).symm
              have hok2 := HOK2.out
              rw [if_pos rfl] at hok2
              obtain rfl : n4 = nw := by rw [← hok2.lx]; exact (hM.ints (.there .here)).len.symm
              obtain rfl : n5 = n4 := by rw [← hok2.lf]; exact (hM.ints (.there (.there .here))).len.symm
              obtain rfl : n6 = n5 := by rw [← hok2.lw]; exact (hM.ints (.there (.there (.there .here)))).len.symm
              obtain rfl : rW = Wn := hok2.W
              obtain rfl : rH = Hn := hok2.H
              clear hok2
              obtain ⟨k0, f0, l0⟩ := hM.row .here
              obtain ⟨k4, f4, l4⟩ := hM.row (.there (.there (.there (.there .here))))
              have hws1 : IntKind.i64.wrap ((sk : Int) + 1) = ((sk + 1 : Nat) : Int) := by rw [wrap_in (by omega)]; omega
              go_wp2
              go_roundg (gk - 1)
              case measure => omega
              case rel =>
                refine ⟨j + 1, ⟨⟨Wn, Hn, rx, rf, rw', rt⟩, sk + 1⟩, b4, d4, b5, d5, b6, d6, by omega, by omega, HE.out, rfl, by go_num, ?_⟩
                apply Mem.pick (is := [4, 1, 2, 3, 8])
                · (repeat' (first | with_reducible exact hM | with_reducible exact hMp | with_reducible apply Mem.drew | with_reducible apply Mem.drewN | with_reducible apply Mem.alloc | with_reducible apply Mem.set | with_reducible exact Sto.row | ((with_reducible refine Sto.rowEq2 ?_ ?_); omega; rfl) | ((with_reducible refine Sto.rowEq ?_); omega) | with_reducible apply Sto.int | with_reducible apply Sto.there | with_reducible assumption | (unfold I64; omega) | (with_reducible (have hMx := Mem.undrew hM; exact hMx)) | (with_reducible (have hMx := Mem.undrew hMp; exact hMx))))
                · decide
                · rfl
        · obtain rfl : j = k := by omega
          have hs := HS.out
          rw [List.take_of_length_le (by rw [HL1.out]; exact Nat.le_refl _)] at hs
          have HS2 := Lib.hid hs
          clear hs
          obtain ⟨k0, f0, l0⟩ := hM.row .here
          obtain ⟨k4, f4, l4⟩ := hM.row (.there (.there (.there (.there .here))))
          go_wp2
          rw [HF.out, ← HS2.out]
          refine bodyPost_ret (v := .tuple #[.agg #[.int .i64 Wn, .int .i64 Hn, .slice b1 nw d1, .slice b2 nw d2, .slice b3 nw d3, .int .i64 st], .int .i64 sk, .bool true]) (by simp [results, Try.results48, go_sem, k4]) rfl ⟨b1, nw, d1, b2, nw, d2, b3, nw, d3, rfl, ?_⟩
          apply Mem.pick (is := [1, 2, 3])
          · (repeat' (first | with_reducible exact hM | with_reducible exact hMp | with_reducible apply Mem.drew | with_reducible apply Mem.drewN | with_reducible apply Mem.alloc | with_reducible apply Mem.set | with_reducible exact Sto.row | ((with_reducible refine Sto.rowEq2 ?_ ?_); omega; rfl) | ((with_reducible refine Sto.rowEq ?_); omega) | with_reducible apply Sto.int | with_reducible apply Sto.there | with_reducible assumption | (unfold I64; omega) | (with_reducible (have hMx := Mem.undrew hM; exact hMx)) | (with_reducible (have hMx := Mem.undrew hMp; exact hMx))))
          · decide
          · rfl
end Go.Proofs.Ytkohfegajcmdbaa
