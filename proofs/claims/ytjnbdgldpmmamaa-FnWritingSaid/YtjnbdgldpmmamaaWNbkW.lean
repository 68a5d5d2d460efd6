/-
  The reference's draws of the law on writing notes.
-/
import Derived.Test.YtjnbdgldpmmamaaWNbkD
import Derived.Test.YtjnbdgldpmmamaaWPairP
/-
  The reference's draws of the law on writing notes.
-/
namespace Go.Proofs.Ytjnbdgldpmmamaa
set_option linter.unusedSimpArgs false
set_option linter.unusedVariables false
open Go.RowKit

theorem results_tmp4N {fn : Func} {t u v x : Tmp} (h : fn.results = #[.tmp t, .tmp u, .tmp v, .tmp x]) (tmps : Array Value) (P : Program) (w : World) :
    (results fn tmps).run P w = .ok (.tuple #[tmps.getD t undef, tmps.getD u undef, tmps.getD v undef, tmps.getD x undef]) w := by
  simp [results, h]
def fewK (u : Int) (xs : List NoteI) : Prop := bookB u (coreN xs) = true → ∃ S : List (Int × Int), S.length ≤ 3 ∧ fewM (coreN xs) S
theorem write_keep {k : Int} {xs ys : List NoteI} {un : Int} {wd : Bs} {rv : List NoteC} (hq : writeB k (coreN xs) un wd = true) (hr : writeR k (coreN xs) un wd = rv) (hc : coreN ys = rv) (h : fewK k xs) : fewK k ys := by
  have e : coreN ys = putN (newN k (coreN xs) un wd) (coreN xs) := by rw [hc, ← hr, writeR, hq]; rfl
  unfold writeB at hq
  simp only [Bool.and_eq_true] at hq
  obtain ⟨S, h1, h2⟩ := h hq.1.1
  intro _
  refine ⟨S, h1, ?_⟩
  rw [e]
  exact write_few hq.1.1 hq.1.2 h2
theorem few_raw12 {u : Int} {xs : List NoteI} (h : fewK u xs) (hb : bookB u (coreN xs) = true) : (rawM (coreN xs)).length ≤ 12 := by
  obtain ⟨S, h1, h2⟩ := h hb
  have := rawM_few h2
  omega
set_option maxRecDepth 100000 in
set_option maxHeartbeats 8000000 in
theorem drawWrite_any {ac : Option Addr} {nc cc : Nat} {l : List UInt8} {w : World} (hC : Rd FByt w ac nc cc l) :
    Calls Try.prog 13 #[.slice ac nc cc] w fun e w' => ∃ (u : Int) (b1 o1 n1 c1 : Nat) (xs : List NoteI) (un : Int) (wd : Bs) (X : List Ent), I64 u ∧ I64 un ∧ wd.length ≤ 20 ∧ fewK u xs ∧ (∀ B w, (packE X).hold B w → RdN w (some ⟨b1, o1, none⟩) n1 c1 xs) ∧ e = .returned (.tuple #[.int .i64 u, .slice (some ⟨b1, o1, none⟩) n1 c1, .int .i64 un, .string (bsA wd)]) ∧ Mem w.heap.size w w' [packE X] := by
  have hM := Mem.start w
  have HC := Lib.hid hC
  clear hC
  go_enter Try.func13, Try.ntmps13
  go_wp2_with fail
  apply Mem.atA
  · (repeat' (first | with_reducible exact hM | with_reducible exact hMp | with_reducible apply Mem.drew | with_reducible apply Mem.drewN | with_reducible apply Mem.alloc | with_reducible apply Mem.set | with_reducible exact Sto.row | ((with_reducible refine Sto.rowEq2 ?_ ?_); omega; rfl) | ((with_reducible refine Sto.rowEq ?_); omega) | with_reducible apply Sto.int | with_reducible apply Sto.there | with_reducible assumption | (unfold I64; omega) | (with_reducible (have hMx := Mem.undrew hM; exact hMx)) | (with_reducible (have hMx := Mem.undrew hMp; exact hMx))))
  clear hM
  intro wst hM
  (try simp only [World.size_alloc, World.size_setCell, World.heap_drewN, heapDrew, Nat.add_assoc, Nat.reduceAdd, List.setIfInBounds_toArray, List.set_cons_zero, List.set_cons_succ, List.cons_append, List.nil_append] at hM)
  (first | refine (notebook_any HC.out hM.curNew .here (by omega)).mono ?_)
  rintro e wc1 ⟨u, b1, o1, n1, c1, xs, a2, n2, c2, zs, X, hok, hrd, rfl, hm⟩
  clear hM
  have hM := hm
  clear hm
  try dsimp only at hM
  have hu : I64 u := by have := hok.1; unfold I64; omega
  have hfe : fewK u xs := hok.2.1
  have HF := Lib.hid hfe
  have HR := Lib.hid (fun (B : Nat) (w : World) (h : (packE X).hold B w) => (hrd B w h).1)
  clear hok hrd hfe
  go_wp2_with fail
  apply Mem.atA
  · (repeat' (first | with_reducible exact hM | with_reducible exact hMp | with_reducible apply Mem.drew | with_reducible apply Mem.drewN | with_reducible apply Mem.alloc | with_reducible apply Mem.set | with_reducible exact Sto.row | ((with_reducible refine Sto.rowEq2 ?_ ?_); omega; rfl) | ((with_reducible refine Sto.rowEq ?_); omega) | with_reducible apply Sto.int | with_reducible apply Sto.there | with_reducible assumption | (unfold I64; omega) | (with_reducible (have hMx := Mem.undrew hM; exact hMx)) | (with_reducible (have hMx := Mem.undrew hMp; exact hMx))))
  clear hM
  intro wst hM
  (try simp only [World.size_alloc, World.size_setCell, World.heap_drewN, heapDrew, Nat.add_assoc, Nat.reduceAdd, List.setIfInBounds_toArray, List.set_cons_zero, List.set_cons_succ, List.cons_append, List.nil_append] at hM)
  (first | refine (one_any 16 HC.out hM (.there .here) (by omega)).mono ?_)
  rintro e wc2 ⟨b, rfl, hm⟩
  clear hM
  have hM := hm
  clear hm
  try dsimp only at hM
  go_upto_if 23 with fail
  go_cut [8] (fun s8 wx => ∃ (b1 o1 n1 c1 : Nat) (xs : List NoteI) (X : List Ent), s8 = .slice (some ⟨b1, o1, none⟩) n1 c1 ∧ Hid (fewK u xs) ∧ Hid (∀ B w, (packE X).hold B w → RdN w (some ⟨b1, o1, none⟩) n1 c1 xs) ∧ Mem w.heap.size w wx [packE X, curE w.heap.size ac nc cc 202])
  case first =>
    cases b
    · go_wp2_with fail
      go_meet
      exact ⟨b1, o1, n1, c1, xs, X, rfl, HF, HR, hM⟩
    · go_wp2_with fail
      go_loopw [8, 10] (fun s8 s10 wr => ∃ (j b1 o1 n1 c1 : Nat) (xs : List NoteI) (X : List Ent), j ≤ 12 ∧ s10 = .int .i64 j ∧ s8 = .slice (some ⟨b1, o1, none⟩) n1 c1 ∧ Hid (fewK u xs) ∧ Hid (∀ B w, (packE X).hold B w → RdN w (some ⟨b1, o1, none⟩) n1 c1 xs) ∧ Mem w.heap.size w wr [packE X, curE w.heap.size ac nc cc 202]) (fun _ s10 _ => 13 - (intOf s10).toNat)
      case atStart => exact ⟨0, b1, o1, n1, c1, xs, X, by omega, rfl, rfl, HF, HR, hM⟩
      case round =>
        clear hM HF HR
        obtain ⟨j, b1, o1, n1, c1, xs, X, hj, rfl, rfl, HF, HR, hM⟩ := hrel
        by_cases hlt : j < 12
        · skip
          go_wp2_with fail
          apply Mem.atA
          · (repeat' (first | with_reducible exact hM | with_reducible exact hMp | with_reducible apply Mem.drew | with_reducible apply Mem.drewN | with_reducible apply Mem.alloc | with_reducible apply Mem.set | with_reducible exact Sto.row | ((with_reducible refine Sto.rowEq2 ?_ ?_); omega; rfl) | ((with_reducible refine Sto.rowEq ?_); omega) | with_reducible apply Sto.int | with_reducible apply Sto.there | with_reducible assumption | (unfold I64; omega) | (with_reducible (have hMx := Mem.undrew hM; exact hMx)) | (with_reducible (have hMx := Mem.undrew hMp; exact hMx))))
          clear hM
          intro wst hM
          (try simp only [World.size_alloc, World.size_setCell, World.heap_drewN, heapDrew, Nat.add_assoc, Nat.reduceAdd, List.setIfInBounds_toArray, List.set_cons_zero, List.set_cons_succ, List.cons_append, List.nil_append] at hM)
          refine (specWriteNote_any u b1 o1 n1 c1 xs 0 [120] _ hu (by unfold I64; omega) (by decide) (HR.out _ _ (hM.ents _ In.here.mem))).mono ?_
          obtain ⟨q, hq⟩ : ∃ q, writeB u (coreN xs) 0 [120] = q := ⟨_, rfl⟩
          obtain ⟨rv, hrv⟩ : ∃ rv, writeR u (coreN xs) 0 [120] = rv := ⟨_, rfl⟩
          rw [hq, hrv]
          have HQ := Lib.hid hq; have HRV := Lib.hid hrv
          clear hq hrv
          rintro e w5 ⟨a5, c5, ys, hcy, rfl, hm⟩
          replace hM := hM.join hm
          have HCY := Lib.hid hcy
          clear hm hcy
          dsimp only [List.cons_append, List.nil_append] at hM
          cases q
          · go_wp2
            go_roundw
            case rel => exact ⟨j + 1, b1, o1, n1, c1, xs, X, by omega, by go_num, rfl, HF, HR, hM.tail⟩
            case measure => simp [intOf]; omega
          · obtain ⟨g5, rfl⟩ := new_some hM HQ.out HRV.out
            have HF2 := Lib.hid (write_keep HQ.out HRV.out HCY.out HF.out)
            have HR2 := Lib.hid (fun (B : Nat) (w : World) (h : (packE [noteE (some ⟨g5, 0, none⟩) rv.length c5 ys]).hold B w) => note_hold (h.1 _ (List.mem_cons_self ..)))
            go_wp2
            go_roundw
            case rel => exact ⟨j + 1, g5, 0, rv.length, c5, ys, _, by omega, by go_num, rfl, HF2, HR2, Mem.packAt (X := []) (G := [noteE (some ⟨g5, 0, none⟩) rv.length c5 ys]) (hM.pick (is := [0, 2]) (by decide) rfl)⟩
            case measure => simp [intOf]; omega
        · obtain rfl : j = 12 := by omega
          go_wp2_with fail
          go_meet
          exact ⟨b1, o1, n1, c1, xs, X, rfl, HF, HR, hM⟩
  case rest =>
    clear hM HF HR
    obtain ⟨b1, o1, n1, c1, xs, X, rfl, HF, HR, hM⟩ := hcut
    go_wp2_with fail
    apply Mem.atA
    · (repeat' (first | with_reducible exact hM | with_reducible exact hMp | with_reducible apply Mem.drew | with_reducible apply Mem.drewN | with_reducible apply Mem.alloc | with_reducible apply Mem.set | with_reducible exact Sto.row | ((with_reducible refine Sto.rowEq2 ?_ ?_); omega; rfl) | ((with_reducible refine Sto.rowEq ?_); omega) | with_reducible apply Sto.int | with_reducible apply Sto.there | with_reducible assumption | (unfold I64; omega) | (with_reducible (have hMx := Mem.undrew hM; exact hMx)) | (with_reducible (have hMx := Mem.undrew hMp; exact hMx))))
    clear hM
    intro wst hM
    (try simp only [World.size_alloc, World.size_setCell, World.heap_drewN, heapDrew, Nat.add_assoc, Nat.reduceAdd, List.setIfInBounds_toArray, List.set_cons_zero, List.set_cons_succ, List.cons_append, List.nil_append] at hM)
    (first | refine (pick_any 5 HC.out hM (.there .here) (by omega)).mono ?_)
    rintro e wc3 ⟨r1, hr1, hr2, rfl, hm⟩
    clear hM
    have hM := hm
    clear hm
    try dsimp only at hM
    have hr5 := pick_lt hr1 (by omega)
    clear hr1 hr2
    go_wp2_with fail
    apply Mem.atA
    · (repeat' (first | with_reducible exact hM | with_reducible exact hMp | with_reducible apply Mem.drew | with_reducible apply Mem.drewN | with_reducible apply Mem.alloc | with_reducible apply Mem.set | with_reducible exact Sto.row | ((with_reducible refine Sto.rowEq2 ?_ ?_); omega; rfl) | ((with_reducible refine Sto.rowEq ?_); omega) | with_reducible apply Sto.int | with_reducible apply Sto.there | with_reducible assumption | (unfold I64; omega) | (with_reducible (have hMx := Mem.undrew hM; exact hMx)) | (with_reducible (have hMx := Mem.undrew hMp; exact hMx))))
    clear hM
    intro wst hM
    (try simp only [World.size_alloc, World.size_setCell, World.heap_drewN, heapDrew, Nat.add_assoc, Nat.reduceAdd, List.setIfInBounds_toArray, List.set_cons_zero, List.set_cons_succ, List.cons_append, List.nil_append] at hM)
    (first | refine (pick_any 9 HC.out hM (.there .here) (by omega)).mono ?_)
    rintro e wc4 ⟨r2, hr1, hr2, rfl, hm⟩
    clear hM
    have hM := hm
    clear hm
    try dsimp only at hM
    have hr9 := pick_lt hr1 (by omega)
    clear hr1 hr2
    obtain ⟨q, hq⟩ : ∃ q : Int, (r2 : Int) / 8 = q := ⟨_, rfl⟩
    have hqt : Int.tdiv (r2 : Int) 8 = q := by rw [Int.tdiv_eq_ediv_of_nonneg (by omega)]; exact hq
    have hq1 : 0 ≤ q ∧ q ≤ 1 := by omega
    have hwq : IntKind.i64.wrap q = q := wrap_in (by omega)
    have hwr : IntKind.i64.wrap ((r1 : Int) - q) = (r1 : Int) - q := wrap_in (by omega)
    have hun : I64 ((r1 : Int) - q) := by unfold I64; omega
    go_wp2_with fail
    apply Mem.atA
    · (repeat' (first | with_reducible exact hM | with_reducible exact hMp | with_reducible apply Mem.drew | with_reducible apply Mem.drewN | with_reducible apply Mem.alloc | with_reducible apply Mem.set | with_reducible exact Sto.row | ((with_reducible refine Sto.rowEq2 ?_ ?_); omega; rfl) | ((with_reducible refine Sto.rowEq ?_); omega) | with_reducible apply Sto.int | with_reducible apply Sto.there | with_reducible assumption | (unfold I64; omega) | (with_reducible (have hMx := Mem.undrew hM; exact hMx)) | (with_reducible (have hMx := Mem.undrew hMp; exact hMx))))
    clear hM
    intro wst hM
    (try simp only [World.size_alloc, World.size_setCell, World.heap_drewN, heapDrew, Nat.add_assoc, Nat.reduceAdd, List.setIfInBounds_toArray, List.set_cons_zero, List.set_cons_succ, List.cons_append, List.nil_append] at hM)
    (first | refine (word_any HC.out hM (.there .here) (by omega)).mono ?_)
    rintro e wc5 ⟨s, hs, rfl, hm⟩
    clear hM
    have hM := hm
    clear hm
    try dsimp only at hM
    go_wp2
    ((try simp only [Exit.inBlock, Exit.then]); refine bodyPost_ret (results_tmp4N rfl _ _ _) rfl ?_)
    exact ⟨u, b1, o1, n1, c1, xs, (r1 : Int) - q, s, X, hu, hun, hs, HF.out, HR.out, rfl, hM.first⟩
set_option maxRecDepth 100000 in
set_option maxHeartbeats 8000000 in
theorem drawBook_any {ac : Option Addr} {nc cc : Nat} {l : List UInt8} {w : World} (hC : Rd FByt w ac nc cc l) :
    Calls Try.prog 51 #[.slice ac nc cc] w fun e w' => ∃ (u : Int) (b1 o1 n1 c1 : Nat) (xs : List NoteI) (X : List Ent), I64 u ∧ fewK u xs ∧ xs.length ≤ 12 ∧ (∀ B w, (packE X).hold B w → RdN w (some ⟨b1, o1, none⟩) n1 c1 xs) ∧ e = .returned (.tuple #[.int .i64 u, .slice (some ⟨b1, o1, none⟩) n1 c1]) ∧ Mem w.heap.size w w' [packE X] := by
  have hM := Mem.start w
  have HC := Lib.hid hC
  clear hC
  go_enter Try.func51, Try.ntmps51
  go_wp2_with fail
  apply Mem.atA
  · (repeat' (first | with_reducible exact hM | with_reducible exact hMp | with_reducible apply Mem.drew | with_reducible apply Mem.drewN | with_reducible apply Mem.alloc | with_reducible apply Mem.set | with_reducible exact Sto.row | ((with_reducible refine Sto.rowEq2 ?_ ?_); omega; rfl) | ((with_reducible refine Sto.rowEq ?_); omega) | with_reducible apply Sto.int | with_reducible apply Sto.there | with_reducible assumption | (unfold I64; omega) | (with_reducible (have hMx := Mem.undrew hM; exact hMx)) | (with_reducible (have hMx := Mem.undrew hMp; exact hMx))))
  clear hM
  intro wst hM
  (try simp only [World.size_alloc, World.size_setCell, World.heap_drewN, heapDrew, Nat.add_assoc, Nat.reduceAdd, List.setIfInBounds_toArray, List.set_cons_zero, List.set_cons_succ, List.cons_append, List.nil_append] at hM)
  (first | refine (notebook_any HC.out hM.curNew .here (by omega)).mono ?_)
  rintro e wc6 ⟨u, b1, o1, n1, c1, xs, a2, n2, c2, zs, X, hok, hrd, rfl, hm⟩
  clear hM
  have hM := hm
  clear hm
  try dsimp only at hM
  have hu : I64 u := by have := hok.1; unfold I64; omega
  have hfe : fewK u xs := hok.2.1
  have HF := Lib.hid hfe
  have hl := hok.2.2.2.1
  have HR := Lib.hid (fun (B : Nat) (w : World) (h : (packE X).hold B w) => (hrd B w h).1)
  clear hok hrd hfe
  go_wp2
  go_ret2
  exact ⟨u, b1, o1, n1, c1, xs, X, hu, HF.out, hl, HR.out, rfl, hM.first⟩
set_option maxRecDepth 100000 in
set_option maxHeartbeats 8000000 in
theorem drawLatest_any {ac : Option Addr} {nc cc : Nat} {l : List UInt8} {w : World} (hC : Rd FByt w ac nc cc l) :
    Calls Try.prog 19 #[.slice ac nc cc] w fun e w' => ∃ (u : Int) (b1 o1 n1 c1 : Nat) (xs : List NoteI) (X : List Ent), I64 u ∧ fewK u xs ∧ xs.length ≤ 12 ∧ (∀ B w, (packE X).hold B w → RdN w (some ⟨b1, o1, none⟩) n1 c1 xs) ∧ e = .returned (.tuple #[.int .i64 u, .slice (some ⟨b1, o1, none⟩) n1 c1]) ∧ Mem w.heap.size w w' [packE X] := by
  have HC := Lib.hid hC
  clear hC
  go_enter Try.func19, Try.ntmps19
  go_wp2_with fail
  refine (drawBook_any HC.out).mono ?_
  rintro e w1 ⟨u, b1, o1, n1, c1, xs, X, hu, hf, hl, hr, rfl, hM⟩
  have HF := Lib.hid hf; have HR := Lib.hid hr
  clear hf hr
  go_wp2
  go_ret2
  exact ⟨u, b1, o1, n1, c1, xs, X, hu, HF.out, hl, HR.out, rfl, hM⟩
end Go.Proofs.Ytjnbdgldpmmamaa
