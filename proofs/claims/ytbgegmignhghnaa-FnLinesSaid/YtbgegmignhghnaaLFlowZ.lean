/-
  The program's BestLine, the last steps.
-/
import Derived.Test.YtbgegmignhghnaaLFlowG
import Derived.Test.YtbgegmignhghnaaLFlowQ
import Derived.Test.YtbgegmignhghnaaLFlowO
/-
  What the search of BestLine finds: plain Lean.
-/
namespace Go.Proofs.Ytbgegmignhghnaa
set_option linter.unusedSimpArgs false
set_option linter.unusedVariables false
open Go.RowKit

theorem least_of {Q : Nat → Prop} : ∀ m, Q m → ∃ k, Q k ∧ ∀ j, Q j → k ≤ j := by
  intro m
  induction m using Nat.strongRecOn with
  | ind m ih =>
    intro hm
    by_cases e : ∃ j, j < m ∧ Q j
    · obtain ⟨j, h1, h2⟩ := e
      exact ih j h1 h2
    · exact ⟨m, hm, fun j hj => Nat.le_of_not_lt (fun h => e ⟨j, h, hj⟩)⟩
section
variable {n : Nat} {near : Nat → Nat → Bool} {burn src snk C : Nat → Bool}
theorem few_of (h : LineP n near burn src snk C) : ∃ k : Nat, Few n near burn src snk k := by
  obtain ⟨k, ⟨D, h1, h2⟩, h3⟩ := least_of (Q := fun m : Nat => ∃ D, LineP n near burn src snk D ∧ cntN n D = (m : Int)) (cellsN n C).length ⟨C, h, (cnt_cells C n).symm⟩
  refine ⟨k, ⟨D, h1, h2⟩, fun D' h' => ?_⟩
  have h4 := h3 _ ⟨D', h', (cnt_cells D' n).symm⟩
  rw [← cnt_cells D' n]
  omega
/-- where no source stands beside an asset all free cells are a line -/
theorem free_line (hdis : ∀ c, c < n → src c = true → snk c = false) (hop : ∀ c d, c < n → d < n → src c = true → burn c = true → snk d = true → burn d = true → near c d = false) : LineP n near burn src snk (freeP burn src snk) := by
  refine ⟨fun c _ h => h, fun c hc hs hr => ?_⟩
  have h1 : c < n ∧ src c = true ∧ burn c = true := by
    refine hr.least (T := fun c => c < n ∧ src c = true ∧ burn c = true) (fun c h1 h2 h3 => ⟨h1, h2, by simp at h3; exact h3.1⟩) (fun d c h1 h2 h3 h4 => ?_)
    rw [Bool.and_eq_true, Bool.not_eq_true'] at h3
    refine ⟨h2, ?_, h3.1⟩
    cases e : src c
    · cases e2 : snk c
      · have := freeP_iff.2 ⟨h3.1, e, e2⟩
        rw [this] at h3
        cases h3.2
      · rw [hop d c h1.1 h2 h1.2.1 h1.2.2 e2 h3.1] at h4
        cases h4
    · rfl
  have := hdis c h1.1 h1.2.1
  rw [hs] at this
  cases this
end
section
variable {W Hn n : Nat} {xs ss ts : List Int}
theorem best_found {s : Nat} {r : List Int} (hs3 : s ≤ 3) (hc : caseB W Hn xs xs.length ss ts = true) (hr : extL W xs.length xs ss ts s [] 0 = some r) (hl : ∀ j, j < s → extL W xs.length xs ss ts j [] 0 = none) : bestR W Hn xs ss ts = ⟨r, true⟩ := by
  obtain ⟨Wn, Hm, e1, e2, hnp, hn25, hW, hxs, hs, ht, hd⟩ := best_case hc
  obtain rfl : W = Wn := by omega
  obtain ⟨h4, h5, h6⟩ := extL_line s [] r (setB_iff.2 ⟨List.Pairwise.nil, by simp⟩) hr
  have ho := line_open h4 hs ht h6
  obtain ⟨k, hk⟩ := few_of ((lineB_iff h4 ht).1 h6)
  have hk1 := few_le hk h4 ht h6
  rw [h5] at hk1
  have hk2 := few_ext hk ht
  have hks : k = s := by
    by_cases e : k < s
    · rw [hl k e] at hk2
      cases hk2
    · simp at hk1; omega
  subst hks
  have hv := fewV_of (show FewT W xs.length xs ss ts k from hk)
  rw [bestR, hc, Int.toNat_natCast, ho, hv, if_pos (by simp; omega), Int.toNat_natCast, hr]
  rfl
theorem best_none (hl : ∀ j, j < 4 → extL W xs.length xs ss ts j [] 0 = none) : bestR W Hn xs ss ts = ⟨[], false⟩ := by
  rw [bestR, Int.toNat_natCast]
  rw [if_neg]
  intro h
  rw [Bool.and_eq_true, Bool.and_eq_true, Bool.not_eq_true', decide_eq_true_eq] at h
  obtain ⟨⟨hc, ho⟩, hv⟩ := h
  obtain ⟨Wn, Hm, e1, e2, hnp, hn25, hW, hxs, hs, ht, hd⟩ := best_case hc
  obtain ⟨k, hk⟩ := few_of (free_line (n := xs.length) (near := nearN W) (burn := brn xs) (src := fun k => hasI ss (k : Nat)) (snk := fun k => hasI ts (k : Nat)) (fun c _ h1 => hd _ (hasI_iff.1 h1)) (open_no ho))
  have hk2 := few_ext (show FewT W xs.length xs ss ts k from hk) ht
  rw [fewV_of (show FewT W xs.length xs ss ts k from hk)] at hv
  rw [hl k (by omega)] at hk2
  cases hk2
end
end Go.Proofs.Ytbgegmignhghnaa

/-
  The program's BestLine, the last steps.
-/
namespace Go.Proofs.Ytbgegmignhghnaa
set_option linter.unusedSimpArgs false
set_option linter.unusedVariables false
open Go.RowKit

set_option maxRecDepth 100000 in
set_option maxHeartbeats 4000000 in
theorem subsets_any (W Hn : Nat) (a : Option Addr) (n c : Nat) (xs : List Int) (a1 : Option Addr) (n1 c1 : Nat) (ss : List Int) (a2 : Option Addr) (n2 c2 : Nat) (ts : List Int) (am : Option Addr) (nm cm : Nat) (may : List Int) (qb qt qss qas size : Nat) {w0 : World} (h : Ints w0 a n c xs) (h1 : Ints w0 a1 n1 c1 ss) (h2 : Ints w0 a2 n2 c2 ts) (hnp : 0 < n) (hn25 : n ≤ 25) (hW : 1 ≤ W ∧ W ≤ 5) (hs : setB n ss = true) (hmay : setB n may = true) (hsz : size ≤ 10) (R : List Ent) (bb : Value) (w : World) (hM : Mem w0.heap.size w0 w [rowE qb 24 #[bb], intE am nm cm may, rowE qt 26 #[.int .i64 W, .int .i64 Hn, .slice a n c], rowE qss 24 #[.slice a1 n1 c1], rowE qas 24 #[.slice a2 n2 c2], packE R]) :
    Calls Try.prog 34 #[.slice am nm cm, .int .i64 (size : Nat), .func (.func 35) #[] #[.pointer (some ⟨qt, 0, none⟩), .pointer (some ⟨qss, 0, none⟩), .pointer (some ⟨qas, 0, none⟩), .pointer (some ⟨qb, 0, none⟩)]] w fun e w' => ∃ bb' X, e = .returned (.bool (extI (holdB W n xs ss ts) size [] may).isNone) ∧ ExtR bb bb' X (extI (holdB W n xs ss ts) size [] may) ∧ Mem w0.heap.size w0 w' [rowE qb 24 #[bb'], intE am nm cm may, rowE qt 26 #[.int .i64 W, .int .i64 Hn, .slice a n c], rowE qss 24 #[.slice a1 n1 c1], rowE qas 24 #[.slice a2 n2 c2], packE (X ++ R)] := by
  have hmf : ∀ (fn : Fn) (first cap : Array Value) (w : World), (Instr.makeFunc fn first cap).run Try.prog w = .ok (.func fn first cap) w := fun _ _ _ _ => rfl
  have hcy := enters Try.func35 (by kernel_rfl) rfl
  have hce := enters Try.func72 (by kernel_rfl) rfl
  have HMAY := Lib.hid hmay; have HS := Lib.hid hs
  clear hmay hs
  go_enter Try.func34, Try.ntmps34
  go_wp2_with fail
  apply Mem.atA
  · (repeat' (first | with_reducible exact hM | with_reducible exact hMp | with_reducible apply Mem.drew | with_reducible apply Mem.drewN | with_reducible apply Mem.alloc | with_reducible apply Mem.set | with_reducible exact Sto.row | ((with_reducible refine Sto.rowEq2 ?_ ?_); omega; rfl) | ((with_reducible refine Sto.rowEq ?_); omega) | with_reducible apply Sto.int | with_reducible apply Sto.there | with_reducible assumption | (unfold I64; omega) | (with_reducible (have hMx := Mem.undrew hM; exact hMx)) | (with_reducible (have hMx := Mem.undrew hMp; exact hMx))))
  clear hM
  intro wst hM
  (try simp only [World.size_alloc, World.size_setCell, World.heap_drewN, heapDrew, Nat.add_assoc, Nat.reduceAdd, List.setIfInBounds_toArray, List.set_cons_zero, List.set_cons_succ, List.cons_append, List.nil_append] at hM)
  replace hM := hM.pick (is := [0, 5, 3, 2, 4, 1, 6, 7, 8, 9, 10]) (by decide) rfl
  dsimp only [List.filterMap_cons, List.filterMap_nil, List.getElem?_cons_zero, List.getElem?_cons_succ] at hM
  replace hM := hM.toInts (xs := []) .here rfl (by simp) (by simp)
  simp only [Nat.add_assoc, Nat.reduceAdd]
  refine (ext_any W Hn a n c xs a1 n1 c1 ss a2 n2 c2 ts am nm cm may qb _ _ _ _ qt qss qas size h h1 h2 hnp hn25 hW HS.out HMAY.out hsz size R bb _ 0 0 0 [] _ (by omega) (by omega) (by simpa using HMAY.out) hM).mono ?_
  rw [List.drop_zero]
  rintro e w3 ⟨bb', X, rfl, hx, hm⟩
  have HX := Lib.hid hx
  clear hM hx
  dsimp only at hm
  go_wp2
  go_ret
  exact ⟨bb', X, rfl, HX.out, hm.pick (is := [0, 5, 6, 7, 8, 9]) (by decide) rfl⟩
theorem Mem.lastOut {B : Nat} {w0 w : World} {e b q1 q2 q3 q4 : Ent} (h : Mem B w0 w [b, q1, q2, q3, q4, packE [e]]) : Mem B w0 w [e] := by
  have h1 : Mem B w0 w [b, q1, q2, q3, q4, e] := Mem.unpackAt [b, q1, q2, q3, q4] (G := [e]) (Y := []) h
  exact h1.pick (is := [5]) (by decide) rfl
set_option maxRecDepth 100000 in
set_option maxHeartbeats 30000000 in
theorem implBest_any (W H : Int) (a : Option Addr) (n c : Nat) (xs : List Int) (a1 : Option Addr) (n1 c1 : Nat) (ss : List Int) (a2 : Option Addr) (n2 c2 : Nat) (ts : List Int) (w : World) (h : Ints w a n c xs) (h1 : Ints w a1 n1 c1 ss) (h2 : Ints w a2 n2 c2 ts) :
    Calls Try.prog 11 #[.agg #[.int .i64 W, .int .i64 H, .slice a n c], .slice a1 n1 c1, .slice a2 n2 c2] w ((LRes w (bestR W H xs ss ts))) := by
  have hM := Mem.start w
  have hmf : ∀ (fn : Fn) (first cap : Array Value) (w : World), (Instr.makeFunc fn first cap).run Try.prog w = .ok (.func fn first cap) w := fun _ _ _ _ => rfl
  have HL := Lib.hid h.len
  cases hc : caseB W H xs n ss ts
  · have HF := Lib.hid (show bestR W H xs ss ts = ⟨[], false⟩ by rw [bestR, HL.out, hc]; rfl)
    have HCC := Lib.hid hc; clear hc
    go_enter Try.func11, Try.ntmps11
    go_wp2_with fail
    apply Mem.atA
    · (repeat' (first | with_reducible exact hM | with_reducible exact hMp | with_reducible apply Mem.drew | with_reducible apply Mem.drewN | with_reducible apply Mem.alloc | with_reducible apply Mem.set | with_reducible exact Sto.row | ((with_reducible refine Sto.rowEq2 ?_ ?_); omega; rfl) | ((with_reducible refine Sto.rowEq ?_); omega) | with_reducible apply Sto.int | with_reducible apply Sto.there | with_reducible assumption | (unfold I64; omega) | (with_reducible (have hMx := Mem.undrew hM; exact hMx)) | (with_reducible (have hMx := Mem.undrew hMp; exact hMx))))
    clear hM
    intro wst hM
    (try simp only [World.size_alloc, World.size_setCell, World.heap_drewN, heapDrew, Nat.add_assoc, Nat.reduceAdd, List.setIfInBounds_toArray, List.set_cons_zero, List.set_cons_succ, List.cons_append, List.nil_append] at hM)
    (first | refine (isCase_any W H a n c xs a1 n1 c1 ss a2 n2 c2 ts _ (h.ext hM.below) (h1.ext hM.below) (h2.ext hM.below)).mono ?_)
    rw [HCC.out]
    rintro e wc1 ⟨rfl, hb⟩
    replace hM := hM.ext hb
    clear hb
    go_wp2
    go_ret2
    rw [HF.out]
    exact ⟨none, 0, 0, rfl, hM.nilInts⟩
  obtain ⟨Wn, Hn, rfl, rfl, hnp, hn25, hW, hxs, hs, ht, hd⟩ := best_case (by rw [HL.out]; exact hc)
  have HBF := Lib.hid (fun s r (h3 : s ≤ 3) (hr : extL Wn xs.length xs ss ts s [] 0 = some r) hl => best_found (Hn := Hn) h3 (by rw [HL.out]; exact hc) hr hl)
  have HBN := Lib.hid (fun hl => best_none (W := Wn) (Hn := Hn) (xs := xs) (ss := ss) (ts := ts) hl)
  rw [HL.out] at hnp hn25 hs ht HBF HBN
  obtain ⟨may, hmay⟩ : ∃ l, cellsN n (freeN xs ss ts) = l := ⟨_, rfl⟩
  have hms : setB n may = true := by rw [← hmay]; exact setB_cells _ _
  have HEX := Lib.hid (fun s => (show extI (holdB Wn n xs ss ts) s [] may = extL Wn n xs ss ts s [] 0 by rw [← hmay]; exact extI_free s))
  have HMAY := Lib.hid hmay; have HMS := Lib.hid hms; have HS := Lib.hid hs; have HCC := Lib.hid hc
  clear hc hxs hs ht hd hmay hms
  go_enter Try.func11, Try.ntmps11
  go_wp2_with fail
  apply Mem.atA
  · (repeat' (first | with_reducible exact hM | with_reducible exact hMp | with_reducible apply Mem.drew | with_reducible apply Mem.drewN | with_reducible apply Mem.alloc | with_reducible apply Mem.set | with_reducible exact Sto.row | ((with_reducible refine Sto.rowEq2 ?_ ?_); omega; rfl) | ((with_reducible refine Sto.rowEq ?_); omega) | with_reducible apply Sto.int | with_reducible apply Sto.there | with_reducible assumption | (unfold I64; omega) | (with_reducible (have hMx := Mem.undrew hM; exact hMx)) | (with_reducible (have hMx := Mem.undrew hMp; exact hMx))))
  clear hM
  intro wst hM
  (try simp only [World.size_alloc, World.size_setCell, World.heap_drewN, heapDrew, Nat.add_assoc, Nat.reduceAdd, List.setIfInBounds_toArray, List.set_cons_zero, List.set_cons_succ, List.cons_append, List.nil_append] at hM)
  (first | refine (isCase_any Wn Hn a n c xs a1 n1 c1 ss a2 n2 c2 ts _ (h.ext hM.below) (h1.ext hM.below) (h2.ext hM.below)).mono ?_)
  rw [HCC.out]
  rintro e wc2 ⟨rfl, hb⟩
  replace hM := hM.ext hb
  clear hb
  obtain ⟨k0, f0, l0⟩ := hM.row .here
  obtain ⟨k1, f1, l1⟩ := hM.row (.there .here)
  obtain ⟨k2, f2, l2⟩ := hM.row (.there (.there .here))
  go_wp2_with fail
  clear k0 f0 l0 k1 f1 l1 k2 f2 l2
  apply Mem.atA
  · (repeat' (first | with_reducible exact hM | with_reducible exact hMp | with_reducible apply Mem.drew | with_reducible apply Mem.drewN | with_reducible apply Mem.alloc | with_reducible apply Mem.set | with_reducible exact Sto.row | ((with_reducible refine Sto.rowEq2 ?_ ?_); omega; rfl) | ((with_reducible refine Sto.rowEq ?_); omega) | with_reducible apply Sto.int | with_reducible apply Sto.there | with_reducible assumption | (unfold I64; omega) | (with_reducible (have hMx := Mem.undrew hM; exact hMx)) | (with_reducible (have hMx := Mem.undrew hMp; exact hMx))))
  clear hM
  intro wst hM
  (try simp only [World.size_alloc, World.size_setCell, World.heap_drewN, heapDrew, Nat.add_assoc, Nat.reduceAdd, List.setIfInBounds_toArray, List.set_cons_zero, List.set_cons_succ, List.cons_append, List.nil_append] at hM)
  (first | refine (free_any Wn Hn a n c xs a1 n1 c1 ss a2 n2 c2 ts _ (h.ext hM.below) (h1.ext hM.below) (h2.ext hM.below) hn25).mono ?_)
  rw [HMAY.out]
  rintro e wc3 ⟨am, nm, cm, rfl, hm⟩
  replace hM := hM.join hm
  clear hm
  (try simp only [World.size_alloc, World.size_setCell, World.heap_drewN, heapDrew, Nat.add_assoc, Nat.reduceAdd, List.setIfInBounds_toArray, List.set_cons_zero, List.set_cons_succ, List.cons_append, List.nil_append] at hM)
  go_wp2_with fail
  apply Mem.atWpA
  · (repeat' (first | with_reducible exact hM | with_reducible exact hMp | with_reducible apply Mem.drew | with_reducible apply Mem.drewN | with_reducible apply Mem.alloc | with_reducible apply Mem.set | with_reducible exact Sto.row | ((with_reducible refine Sto.rowEq2 ?_ ?_); omega; rfl) | ((with_reducible refine Sto.rowEq ?_); omega) | with_reducible apply Sto.int | with_reducible apply Sto.there | with_reducible assumption | (unfold I64; omega) | (with_reducible (have hMx := Mem.undrew hM; exact hMx)) | (with_reducible (have hMx := Mem.undrew hMp; exact hMx))))
  clear hM
  intro wst hM
  (try simp only [World.size_alloc, World.size_setCell, World.heap_drewN, heapDrew, Nat.add_assoc, Nat.reduceAdd, List.setIfInBounds_toArray, List.set_cons_zero, List.set_cons_succ, List.cons_append, List.nil_append] at hM)
  replace hM := hM.pick (is := [0, 1, 5, 4, 3]) (by decide) rfl
  dsimp only [List.filterMap_cons, List.filterMap_nil, List.getElem?_cons_zero, List.getElem?_cons_succ] at hM
  rw [show w.heap.size + 1 + 1 = w.heap.size + 2 from rfl]
  obtain ⟨ab, hab⟩ : ∃ ab : Option Addr, some ⟨wc2.heap.size, 0, none⟩ = ab := ⟨_, rfl⟩
  obtain ⟨qb, hqb⟩ : ∃ q, wc3.heap.size = q := ⟨_, rfl⟩
  obtain ⟨qt, hqt⟩ : ∃ q, w.heap.size = q := ⟨_, rfl⟩
  obtain ⟨qss, hqss⟩ : ∃ q, w.heap.size + 1 = q := ⟨_, rfl⟩
  obtain ⟨qas, hqas⟩ : ∃ q, w.heap.size + 2 = q := ⟨_, rfl⟩
  have hM1 : Mem w.heap.size w wst [rowE qb 24 #[.slice ab 0 0], intE am nm cm may, rowE qt 26 #[.int .i64 Wn, .int .i64 Hn, .slice a n c], rowE qss 24 #[.slice a1 n1 c1], rowE qas 24 #[.slice a2 n2 c2], packE []] := by
    rw [← hab, ← hqb, ← hqt, ← hqss, ← hqas]
    exact Mem.packAt (G := []) (Y := []) [_, _, _, _, _] hM
  rw [hab, hqb, hqss, hqas, hqt]
  clear hM hab hqb hqt hqss hqas
  go_loopw [22] (fun s22 wr => ∃ k : Nat, k ≤ 4 ∧ s22 = .int .i64 k ∧ Hid (∀ j, j < k → extL Wn n xs ss ts j [] 0 = none) ∧ Mem w.heap.size w wr [rowE qb 24 #[.slice ab 0 0], intE am nm cm may, rowE qt 26 #[.int .i64 Wn, .int .i64 Hn, .slice a n c], rowE qss 24 #[.slice a1 n1 c1], rowE qas 24 #[.slice a2 n2 c2], packE []]) (fun s22 _ => 4 - (intOf s22).toNat)
  case atStart => exact ⟨0, by omega, rfl, Lib.hid (fun j hj => by omega), hM1⟩
  case round =>
    clear hM1
    obtain ⟨k, hk, rfl, HN, hM⟩ := hrel
    by_cases hlt : k < 4
    · obtain ⟨r, hr⟩ : ∃ r, extL Wn n xs ss ts k [] 0 = r := ⟨_, rfl⟩
      have HR := Lib.hid hr
      have HXR := Lib.hid ((HEX.out k).trans hr)
      clear hr
      go_wp2_with fail
      apply Mem.atA
      · (repeat' (first | with_reducible exact hM | with_reducible exact hMp | with_reducible apply Mem.drew | with_reducible apply Mem.drewN | with_reducible apply Mem.alloc | with_reducible apply Mem.set | with_reducible exact Sto.row | ((with_reducible refine Sto.rowEq2 ?_ ?_); omega; rfl) | ((with_reducible refine Sto.rowEq ?_); omega) | with_reducible apply Sto.int | with_reducible apply Sto.there | with_reducible assumption | (unfold I64; omega) | (with_reducible (have hMx := Mem.undrew hM; exact hMx)) | (with_reducible (have hMx := Mem.undrew hMp; exact hMx))))
      clear hM
      intro wst hM
      (try simp only [World.size_alloc, World.size_setCell, World.heap_drewN, heapDrew, Nat.add_assoc, Nat.reduceAdd, List.setIfInBounds_toArray, List.set_cons_zero, List.set_cons_succ, List.cons_append, List.nil_append] at hM)
      refine (subsets_any Wn Hn a n c xs a1 n1 c1 ss a2 n2 c2 ts am nm cm may qb qt qss qas k h h1 h2 hnp hn25 hW HS.out HMS.out (by omega) [] _ _ hM).mono ?_
      rw [HXR.out]
      rintro e w3 ⟨bb', X, rfl, hx, hm⟩
      clear hM
      cases r with
      | none =>
        obtain ⟨rfl, rfl⟩ := hx
        have hM := hm
        clear hm
        go_wp2
        go_roundw
        case rel => exact ⟨k + 1, by omega, by go_num, Lib.hid (fun j hj => by
          by_cases e : j = k
          · subst e; exact HR.out
          · exact HN.out j (by omega)), hM⟩
        case measure => simp [intOf]; omega
      | some line =>
        obtain ⟨a', m, c', rfl, rfl⟩ := hx
        have hM := hm
        clear hm
        have HB := Lib.hid (HBF.out k line (by omega) HR.out HN.out)
        obtain ⟨k0, f0, l0⟩ := hM.row .here
        go_wp2
        go_ret2
        rw [HB.out]
        exact ⟨a', m, c', rfl, Mem.lastOut hM⟩
    · obtain rfl : k = 4 := by omega
      have HB := Lib.hid (HBN.out HN.out)
      go_wp2
      go_ret2
      rw [HB.out]
      exact ⟨none, 0, 0, rfl, hM.nilInts⟩
end Go.Proofs.Ytbgegmignhghnaa
