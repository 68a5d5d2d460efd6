/-
  LatestNotes: both sides.
-/
import Derived.Test.YtjnbdgldpmmamaaWBefI
import Derived.Test.YtjnbdgldpmmamaaWQueue
import Derived.Deep.DeepCutAuto
import Derived.Deep.CutBlock
/-
  LatestNotes: both sides.
-/
namespace Go.Proofs.Ytjnbdgldpmmamaa
set_option linter.unusedSimpArgs false
set_option linter.unusedVariables false
open Go.RowKit

theorem Mem.nilI2 {B : Nat} {w0 w : World} {G : List Ent} (h : Mem B w0 w G) : Mem B w0 w (intE none 0 0 [] :: G) := by
  refine ⟨h.below, h.size, ?_, List.pairwise_cons.2 ⟨fun e _ k hk => ?_, h.apart⟩⟩
  · intro e he
    rcases List.mem_cons.1 he with rfl | he
    · exact own_nil _ _
    · exact h.ents e he
  · simp [intE, blockOf] at hk
def latTo (l : List NoteC) (i j : Nat) : Bool := (List.range j).all fun k => decide (k = i) || !befC (l.getD i NoteC.zero) (l.getD k NoteC.zero)
theorem latTo_succ (l : List NoteC) (i j : Nat) : latTo l i (j + 1) = (latTo l i j && (decide (j = i) || !befC (l.getD i NoteC.zero) (l.getD j NoteC.zero))) := by simp [latTo, List.range_succ]
theorem latTo_all (l : List NoteC) (i : Nat) : latTo l i l.length = latestB l i := rfl
def latR (u : Int) (l : List NoteC) : List Int := if bookB u l then latestL l else []
/-- in a valid notebook places of two notes lie within the clock of the other -/
theorem book_place {u : Int} {xs : List NoteI} {w : World} {a : Option Addr} {n c : Nat} (hb : bookB u (coreN xs) = true) (h : RdN w a n c xs) {i j : Nat} (hi : i < n) (hj : j < n) : 0 ≤ (xs.getD i NoteI.zero).un ∧ (xs.getD i NoteI.zero).un < ((xs.getD j NoteI.zero).n : Int) := by
  have h1 := book_note hb (k := i) (by rw [coreN_len, h.rd.len]; exact hi)
  have h2 := book_note hb (k := j) (by rw [coreN_len, h.rd.len]; exact hj)
  rw [coreN_getD] at h1 h2
  exact note_place h1 h2 (h.get hj)
set_option maxRecDepth 100000 in
set_option maxHeartbeats 8000000 in
theorem implLatest_any (u : Int) (a : Option Addr) (n c : Nat) (xs : List NoteI) (w : World) (hu : I64 u) (h : RdN w a n c xs) :
    Calls Try.prog 17 #[.int .i64 u, .slice a n c] w fun e w' => ∃ a' c', e = .returned (.tuple #[.slice a' (latR u (coreN xs)).length c', .bool (bookB u (coreN xs))]) ∧ Mem w.heap.size w w' [intE a' (latR u (coreN xs)).length c' (latR u (coreN xs))] := by
  have hM := Mem.start w
  have HU := Lib.hid hu
  have HH := Lib.hid h
  clear hu h
  cases hb : bookB u (coreN xs)
  · have e2 : latR u (coreN xs) = [] := by rw [latR, hb]; rfl
    rw [e2]
    have HB := Lib.hid hb; clear hb e2
    go_enter Try.func17, Try.ntmps17
    go_wp2_with fail
    apply Mem.atA
    · (repeat' (first | with_reducible exact hM | with_reducible exact hMp | with_reducible apply Mem.drew | with_reducible apply Mem.drewN | with_reducible apply Mem.alloc | with_reducible apply Mem.set | with_reducible exact Sto.row | ((with_reducible refine Sto.rowEq2 ?_ ?_); omega; rfl) | ((with_reducible refine Sto.rowEq ?_); omega) | with_reducible apply Sto.int | with_reducible apply Sto.there | with_reducible assumption | (unfold I64; omega) | (with_reducible (have hMx := Mem.undrew hM; exact hMx)) | (with_reducible (have hMx := Mem.undrew hMp; exact hMx))))
    clear hM
    intro wst hM
    (try simp only [World.size_alloc, World.size_setCell, World.heap_drewN, heapDrew, Nat.add_assoc, Nat.reduceAdd, List.setIfInBounds_toArray, List.set_cons_zero, List.set_cons_succ, List.cons_append, List.nil_append] at hM)
    (first | refine (isNotebook_any u a n c xs _ HU.out (HH.out.ext hM.below)).mono ?_)
    rw [HB.out]
    rintro e wc1 ⟨rfl, hb⟩
    replace hM := hM.ext hb
    clear hb
    go_wp2
    go_ret2
    exact ⟨none, 0, rfl, by apply Mem.nilI2; (repeat' (first | with_reducible exact hM | with_reducible exact hMp | with_reducible apply Mem.drew | with_reducible apply Mem.drewN | with_reducible apply Mem.alloc | with_reducible apply Mem.set | with_reducible exact Sto.row | ((with_reducible refine Sto.rowEq2 ?_ ?_); omega; rfl) | ((with_reducible refine Sto.rowEq ?_); omega) | with_reducible apply Sto.int | with_reducible apply Sto.there | with_reducible assumption | (unfold I64; omega) | (with_reducible (have hMx := Mem.undrew hM; exact hMx)) | (with_reducible (have hMx := Mem.undrew hMp; exact hMx))))⟩
  have hn12 : n ≤ 12 := by have := book_len hb; rw [coreN_len, HH.out.rd.len] at this; exact this
  have hNL : (coreN xs).length = n := by rw [coreN_len, HH.out.rd.len]
  have e2 : latR u (coreN xs) = latestTo (coreN xs) n := by rw [latR, hb, ← hNL]; rfl
  have HAL := Lib.hid (fun i => (by rw [← hNL]; exact latTo_all (coreN xs) i : latTo (coreN xs) i n = latestB (coreN xs) i))
  rw [e2]
  have HPL := Lib.hid (fun (i j : Nat) (hi : i < n) (hj : j < n) => book_place hb HH.out hi hj)
  have HB := Lib.hid hb
  clear hb e2 hNL
  go_enter Try.func17, Try.ntmps17
  go_wp2_with fail
  apply Mem.atA
  · (repeat' (first | with_reducible exact hM | with_reducible exact hMp | with_reducible apply Mem.drew | with_reducible apply Mem.drewN | with_reducible apply Mem.alloc | with_reducible apply Mem.set | with_reducible exact Sto.row | ((with_reducible refine Sto.rowEq2 ?_ ?_); omega; rfl) | ((with_reducible refine Sto.rowEq ?_); omega) | with_reducible apply Sto.int | with_reducible apply Sto.there | with_reducible assumption | (unfold I64; omega) | (with_reducible (have hMx := Mem.undrew hM; exact hMx)) | (with_reducible (have hMx := Mem.undrew hMp; exact hMx))))
  clear hM
  intro wst hM
  (try simp only [World.size_alloc, World.size_setCell, World.heap_drewN, heapDrew, Nat.add_assoc, Nat.reduceAdd, List.setIfInBounds_toArray, List.set_cons_zero, List.set_cons_succ, List.cons_append, List.nil_append] at hM)
  (first | refine (isNotebook_any u a n c xs _ HU.out (HH.out.ext hM.below)).mono ?_)
  rw [HB.out]
  rintro e wc2 ⟨rfl, hb⟩
  replace hM := hM.ext hb
  clear hb
  go_upto_region 4 with fail
  apply Mem.atWpA
  · (repeat' (first | with_reducible exact hM | with_reducible exact hMp | with_reducible apply Mem.drew | with_reducible apply Mem.drewN | with_reducible apply Mem.alloc | with_reducible apply Mem.set | with_reducible exact Sto.row | ((with_reducible refine Sto.rowEq2 ?_ ?_); omega; rfl) | ((with_reducible refine Sto.rowEq ?_); omega) | with_reducible apply Sto.int | with_reducible apply Sto.there | with_reducible assumption | (unfold I64; omega) | (with_reducible (have hMx := Mem.undrew hM; exact hMx)) | (with_reducible (have hMx := Mem.undrew hMp; exact hMx))))
  clear hM
  intro wst hM
  (try simp only [World.size_alloc, World.size_setCell, World.heap_drewN, heapDrew, Nat.add_assoc, Nat.reduceAdd, List.setIfInBounds_toArray, List.set_cons_zero, List.set_cons_succ, List.cons_append, List.nil_append] at hM)
  replace hM := Mem.toInts0 hM
  go_wp2_with fail
  go_loopw [6, 19] (fun s6 s19 wr => ∃ (k m c' : Nat) (a' : Option Addr) (L : List Int), k ≤ n ∧ m ≤ k ∧ s19 = .int .i64 k ∧ s6 = .slice a' m c' ∧ Hid (latestTo (coreN xs) k = L) ∧ Mem w.heap.size w wr [intE a' m c' L]) (fun _ s19 _ => n - (intOf s19).toNat)
  case atStart => exact ⟨0, 0, _, _, [], Nat.zero_le _, Nat.zero_le _, rfl, rfl, Lib.hid rfl, hM⟩
  case round =>
    clear hM
    obtain ⟨k, m, c', a', L, hk, hmk, rfl, rfl, HLL, hM⟩ := hrel
    by_cases hlt : k < n
    · obtain ⟨b, off, rfl, -, -⟩ := HH.out.rd.at' _ hlt
      obtain ⟨x0, x1, x2, x3⟩ := ((HH.out.rd.ext hM.below).cellNote hlt).2
      have HX := Lib.hid (show xs.getD k NoteI.zero = xs.getD k NoteI.zero from rfl)
      obtain ⟨x, hx⟩ : ∃ x, xs.getD k NoteI.zero = x := ⟨_, rfl⟩
      rw [hx] at x0 x1 x2 x3
      have HXE := Lib.hid hx
      clear hx HX
      obtain ⟨xu, xq, xa, xn, xc, xl, xw⟩ := x
      dsimp only at x0 x1 x2 x3
      have i0 : (0 : Int) ≤ (k : Int) := by omega
      have i1 : (k : Int) < (n : Int) := by omega
      go_upto_region 8 with fail
      apply Mem.atWpA
      · (repeat' (first | with_reducible exact hM | with_reducible exact hMp | with_reducible apply Mem.drew | with_reducible apply Mem.drewN | with_reducible apply Mem.alloc | with_reducible apply Mem.set | with_reducible exact Sto.row | ((with_reducible refine Sto.rowEq2 ?_ ?_); omega; rfl) | ((with_reducible refine Sto.rowEq ?_); omega) | with_reducible apply Sto.int | with_reducible apply Sto.there | with_reducible assumption | (unfold I64; omega) | (with_reducible (have hMx := Mem.undrew hM; exact hMx)) | (with_reducible (have hMx := Mem.undrew hMp; exact hMx))))
      clear hM
      intro wst hM
      (try simp only [World.size_alloc, World.size_setCell, World.heap_drewN, heapDrew, Nat.add_assoc, Nat.reduceAdd, List.setIfInBounds_toArray, List.set_cons_zero, List.set_cons_succ, List.cons_append, List.nil_append] at hM)
      clear x0 x1 x2 x3
      generalize wr.heap.size = gb at hM ⊢
      go_wp2_with fail
      go_loopw [9, 26] (fun s9 s26 wq => ∃ (j : Nat) (q : Bool), j ≤ n ∧ s26 = .int .i64 j ∧ s9 = .bool q ∧ Hid (latTo (coreN xs) k j = q) ∧ Mem w.heap.size w wq [rowE gb 42 #[.int .i64 xu, .int .i64 xq, .slice xa xn xc, .string (bsA xw)], intE a' m c' L]) (fun _ s26 _ => n - (intOf s26).toNat)
      case atStart => exact ⟨0, true, Nat.zero_le _, rfl, rfl, Lib.hid rfl, hM⟩
      case round =>
        clear hM
        obtain ⟨j, q, hj, rfl, rfl, HQ, hM⟩ := hrel
        by_cases hlj : j < n
        · obtain ⟨y0, y1, y2, y3⟩ := ((HH.out.rd.ext hM.below).cellNote hlj).2
          have hpl := HPL.out k j hlt hlj
          have hyi := HH.out.get hlj
          have hsc := latTo_succ (coreN xs) k j
          rw [HQ.out, coreN_getD, coreN_getD] at hsc
          rw [HXE.out] at hpl hsc
          obtain ⟨y, hy⟩ : ∃ y, xs.getD j NoteI.zero = y := ⟨_, rfl⟩
          rw [hy] at y0 y1 y2 y3 hpl hyi hsc
          obtain ⟨yu, yq, ya, yn, yc, yl, yw⟩ := y
          dsimp only at y0 y1 y2 y3 hpl hyi
          have HPX := Lib.hid hpl; have HYI := Lib.hid hyi
          clear hy hpl hyi
          obtain ⟨v, hv⟩ : ∃ v, befC (NoteI.core ⟨xu, xq, xa, xn, xc, xl, xw⟩) (NoteI.core ⟨yu, yq, ya, yn, yc, yl, yw⟩) = v := ⟨_, rfl⟩
          rw [hv] at hsc
          have HV := Lib.hid hv; have HSC := Lib.hid hsc
          clear hv hsc
          have j0 : (0 : Int) ≤ (j : Int) := by omega
          have j1 : (j : Int) < (n : Int) := by omega
          cases q
          · go_wp2
            go_roundw
            case rel => exact ⟨j + 1, false, by omega, by go_num, rfl, Lib.hid (by rw [HSC.out, Bool.false_and]), by apply Mem.tail; (repeat' (first | with_reducible exact hM | with_reducible exact hMp | with_reducible apply Mem.drew | with_reducible apply Mem.drewN | with_reducible apply Mem.alloc | with_reducible apply Mem.set | with_reducible exact Sto.row | ((with_reducible refine Sto.rowEq2 ?_ ?_); omega; rfl) | ((with_reducible refine Sto.rowEq ?_); omega) | with_reducible apply Sto.int | with_reducible apply Sto.there | with_reducible assumption | (unfold I64; omega) | (with_reducible (have hMx := Mem.undrew hM; exact hMx)) | (with_reducible (have hMx := Mem.undrew hMp; exact hMx))))⟩
            case measure => simp [intOf]; omega
          · by_cases hjk : j = k
            · have e1 : ((j : Int) == (k : Int)) = true := by simp; omega
              have HE := Lib.hid (show latTo (coreN xs) k (j + 1) = true by rw [HSC.out, decide_eq_true hjk]; rfl)
              clear hjk
              go_wp2
              go_roundw
              case rel => exact ⟨j + 1, true, by omega, by go_num, rfl, HE, by apply Mem.tail; (repeat' (first | with_reducible exact hM | with_reducible exact hMp | with_reducible apply Mem.drew | with_reducible apply Mem.drewN | with_reducible apply Mem.alloc | with_reducible apply Mem.set | with_reducible exact Sto.row | ((with_reducible refine Sto.rowEq2 ?_ ?_); omega; rfl) | ((with_reducible refine Sto.rowEq ?_); omega) | with_reducible apply Sto.int | with_reducible apply Sto.there | with_reducible assumption | (unfold I64; omega) | (with_reducible (have hMx := Mem.undrew hM; exact hMx)) | (with_reducible (have hMx := Mem.undrew hMp; exact hMx))))⟩
              case measure => simp [intOf]; omega
            · have e1 : ((j : Int) == (k : Int)) = false := by simp; omega
              have HE := Lib.hid (show latTo (coreN xs) k (j + 1) = !v by rw [HSC.out, decide_eq_false hjk]; simp)
              clear hjk
              go_upto_region 11 with fail
              apply Mem.atWpA
              · (repeat' (first | with_reducible exact hM | with_reducible exact hMp | with_reducible apply Mem.drew | with_reducible apply Mem.drewN | with_reducible apply Mem.alloc | with_reducible apply Mem.set | with_reducible exact Sto.row | ((with_reducible refine Sto.rowEq2 ?_ ?_); omega; rfl) | ((with_reducible refine Sto.rowEq ?_); omega) | with_reducible apply Sto.int | with_reducible apply Sto.there | with_reducible assumption | (unfold I64; omega) | (with_reducible (have hMx := Mem.undrew hM; exact hMx)) | (with_reducible (have hMx := Mem.undrew hMp; exact hMx))))
              clear hM
              intro wst hM
              (try simp only [World.size_alloc, World.size_setCell, World.heap_drewN, heapDrew, Nat.add_assoc, Nat.reduceAdd, List.setIfInBounds_toArray, List.set_cons_zero, List.set_cons_succ, List.cons_append, List.nil_append] at hM)
              clear y0 y1 y2 y3
              obtain ⟨k0, f0, l0⟩ := hM.row .here
              obtain ⟨k1, f1, l1⟩ := hM.row (.there .here)
              go_wp2_with fail
              clear k0 f0 l0 k1 f1 l1
              apply Mem.atA
              · (repeat' (first | with_reducible exact hM | with_reducible exact hMp | with_reducible apply Mem.drew | with_reducible apply Mem.drewN | with_reducible apply Mem.alloc | with_reducible apply Mem.set | with_reducible exact Sto.row | ((with_reducible refine Sto.rowEq2 ?_ ?_); omega; rfl) | ((with_reducible refine Sto.rowEq ?_); omega) | with_reducible apply Sto.int | with_reducible apply Sto.there | with_reducible assumption | (unfold I64; omega) | (with_reducible (have hMx := Mem.undrew hM; exact hMx)) | (with_reducible (have hMx := Mem.undrew hMp; exact hMx))))
              clear hM
              intro wst hM
              (try simp only [World.size_alloc, World.size_setCell, World.heap_drewN, heapDrew, Nat.add_assoc, Nat.reduceAdd, List.setIfInBounds_toArray, List.set_cons_zero, List.set_cons_succ, List.cons_append, List.nil_append] at hM)
              (first | refine (before_any ⟨xu, xq, xa, xn, xc, xl, xw⟩ ⟨yu, yq, ya, yn, yc, yl, yw⟩ _ (HYI.out.ext hM.below) HPX.out).mono ?_)
              rw [HV.out]
              rintro e wc3 ⟨rfl, hb⟩
              replace hM := hM.ext hb
              clear hb
              go_wp2
              go_roundw
              case rel => exact ⟨j + 1, !v, by omega, by go_num, rfl, HE, hM.tail⟩
              case measure => simp [intOf]; omega
        · obtain rfl : j = n := by omega
          have hlb : latestB (coreN xs) k = q := by rw [← HAL.out k]; exact HQ.out
          have hst : latestTo (coreN xs) (k + 1) = if q then L ++ [(k : Int)] else L := by rw [latestTo, HLL.out, hlb]
          have HST := Lib.hid hst
          clear hst hlb HLL HQ
          cases q
          · go_wp2
            go_roundw
            case rel => exact ⟨k + 1, m, c', a', L, by omega, by omega, by go_num, rfl, Lib.hid (by rw [HST.out]; rfl), hM.tail⟩
            case measure => simp [intOf]; omega
          · go_wp2_with (at_builtin; apply Mem.atL; (focus ((repeat' (first | with_reducible exact hM | with_reducible exact hMp | with_reducible apply Mem.drew | with_reducible apply Mem.drewN | with_reducible apply Mem.alloc | with_reducible apply Mem.set | with_reducible exact Sto.row | ((with_reducible refine Sto.rowEq2 ?_ ?_); omega; rfl) | ((with_reducible refine Sto.rowEq ?_); omega) | with_reducible apply Sto.int | with_reducible apply Sto.there | with_reducible assumption | (unfold I64; omega) | (with_reducible (have hMx := Mem.undrew hM; exact hMx)) | (with_reducible (have hMx := Mem.undrew hMp; exact hMx)))); done)); clear hM; intro hM; refine wpList_pushI hM (fun _ => .there .here) (by unfold I64; omega) (by omega) rfl _ _ _ Try.underlying36 rfl rfl rfl ?_)
            intro a7 c7 w7 hM
            go_wp2
            go_roundw
            case rel => exact ⟨k + 1, m + 1, c7, a7, L ++ [(k : Int)], by omega, by omega, by go_num, rfl, Lib.hid (by rw [HST.out]; rfl), by apply Mem.pick (is := [1]) hM (by decide) rfl⟩
            case measure => simp [intOf]; omega
    · obtain rfl : k = n := by omega
      have HL2 := HLL.out
      subst HL2
      have hml := (hM.ints .here).len
      clear HLL
      go_wp2
      go_ret2
      exact ⟨a', c', by rw [hml]; rfl, by rw [hml]; exact hM⟩
set_option maxRecDepth 100000 in
set_option maxHeartbeats 8000000 in
theorem specLatest_any (u : Int) (a : Option Addr) (n c : Nat) (xs : List NoteI) (w : World) (hu : I64 u) (h : RdN w a n c xs) :
    Calls Try.prog 20 #[.int .i64 u, .slice a n c] w fun e w' => ∃ a' c', e = .returned (.tuple #[.slice a' (latR u (coreN xs)).length c', .bool (bookB u (coreN xs))]) ∧ Mem w.heap.size w w' [intE a' (latR u (coreN xs)).length c' (latR u (coreN xs))] := by
  have hM := Mem.start w
  have HU := Lib.hid hu
  have HH := Lib.hid h
  clear hu h
  cases hb : bookB u (coreN xs)
  · have e2 : latR u (coreN xs) = [] := by rw [latR, hb]; rfl
    rw [e2]
    have HB := Lib.hid hb; clear hb e2
    go_enter Try.func20, Try.ntmps20
    go_upto_region 2 with fail
    apply Mem.atWpA
    · (repeat' (first | with_reducible exact hM | with_reducible exact hMp | with_reducible apply Mem.drew | with_reducible apply Mem.drewN | with_reducible apply Mem.alloc | with_reducible apply Mem.set | with_reducible exact Sto.row | ((with_reducible refine Sto.rowEq2 ?_ ?_); omega; rfl) | ((with_reducible refine Sto.rowEq ?_); omega) | with_reducible apply Sto.int | with_reducible apply Sto.there | with_reducible assumption | (unfold I64; omega) | (with_reducible (have hMx := Mem.undrew hM; exact hMx)) | (with_reducible (have hMx := Mem.undrew hMp; exact hMx))))
    clear hM
    intro wst hM
    (try simp only [World.size_alloc, World.size_setCell, World.heap_drewN, heapDrew, Nat.add_assoc, Nat.reduceAdd, List.setIfInBounds_toArray, List.set_cons_zero, List.set_cons_succ, List.cons_append, List.nil_append] at hM)
    replace hM := Mem.toInts0 hM
    go_wp2_with fail
    apply Mem.atA
    · (repeat' (first | with_reducible exact hM | with_reducible exact hMp | with_reducible apply Mem.drew | with_reducible apply Mem.drewN | with_reducible apply Mem.alloc | with_reducible apply Mem.set | with_reducible exact Sto.row | ((with_reducible refine Sto.rowEq2 ?_ ?_); omega; rfl) | ((with_reducible refine Sto.rowEq ?_); omega) | with_reducible apply Sto.int | with_reducible apply Sto.there | with_reducible assumption | (unfold I64; omega) | (with_reducible (have hMx := Mem.undrew hM; exact hMx)) | (with_reducible (have hMx := Mem.undrew hMp; exact hMx))))
    clear hM
    intro wst hM
    (try simp only [World.size_alloc, World.size_setCell, World.heap_drewN, heapDrew, Nat.add_assoc, Nat.reduceAdd, List.setIfInBounds_toArray, List.set_cons_zero, List.set_cons_succ, List.cons_append, List.nil_append] at hM)
    (first | refine (l17Good_any u a n c xs _ HU.out (HH.out.ext hM.below)).mono ?_)
    rw [HB.out]
    rintro e wc4 ⟨rfl, hb⟩
    replace hM := hM.ext hb
    clear hb
    go_wp2
    go_ret2
    exact ⟨_, _, rfl, hM⟩
  have hn12 : n ≤ 12 := by have := book_len hb; rw [coreN_len, HH.out.rd.len] at this; exact this
  have hNL : (coreN xs).length = n := by rw [coreN_len, HH.out.rd.len]
  have e2 : latR u (coreN xs) = latestTo (coreN xs) n := by rw [latR, hb, ← hNL]; rfl
  have HAL := Lib.hid (fun i => (by rw [← hNL]; exact latTo_all (coreN xs) i : latTo (coreN xs) i n = latestB (coreN xs) i))
  rw [e2]
  have HPL := Lib.hid (fun (i j : Nat) (hi : i < n) (hj : j < n) => book_place hb HH.out hi hj)
  have HSM := Lib.hid (HH.out.small hb)
  have HKE := Lib.hid (fun (i j : Nat) (hi : i < n) (hj : j < n) => (by
    by_cases e : i = j
    · subst e
      rw [decide_eq_true rfl]
      exact sameK_true.2 ⟨rfl, rfl⟩
    · rw [decide_eq_false e]
      rcases Nat.lt_or_gt_of_ne e with h1 | h1
      · exact ltN_key (asc_get (book_asc hb) h1 (by rw [hNL]; exact hj))
      · rw [sameK_symm]; exact ltN_key (asc_get (book_asc hb) h1 (by rw [hNL]; exact hi)) : sameK ((coreN xs).getD i NoteC.zero) ((coreN xs).getD j NoteC.zero) = decide (i = j)))
  have HB := Lib.hid hb
  clear hb e2 hNL
  go_enter Try.func20, Try.ntmps20
  go_upto_region 2 with fail
  apply Mem.atWpA
  · (repeat' (first | with_reducible exact hM | with_reducible exact hMp | with_reducible apply Mem.drew | with_reducible apply Mem.drewN | with_reducible apply Mem.alloc | with_reducible apply Mem.set | with_reducible exact Sto.row | ((with_reducible refine Sto.rowEq2 ?_ ?_); omega; rfl) | ((with_reducible refine Sto.rowEq ?_); omega) | with_reducible apply Sto.int | with_reducible apply Sto.there | with_reducible assumption | (unfold I64; omega) | (with_reducible (have hMx := Mem.undrew hM; exact hMx)) | (with_reducible (have hMx := Mem.undrew hMp; exact hMx))))
  clear hM
  intro wst hM
  (try simp only [World.size_alloc, World.size_setCell, World.heap_drewN, heapDrew, Nat.add_assoc, Nat.reduceAdd, List.setIfInBounds_toArray, List.set_cons_zero, List.set_cons_succ, List.cons_append, List.nil_append] at hM)
  replace hM := Mem.toInts0 hM
  go_wp2_with fail
  apply Mem.atA
  · (repeat' (first | with_reducible exact hM | with_reducible exact hMp | with_reducible apply Mem.drew | with_reducible apply Mem.drewN | with_reducible apply Mem.alloc | with_reducible apply Mem.set | with_reducible exact Sto.row | ((with_reducible refine Sto.rowEq2 ?_ ?_); omega; rfl) | ((with_reducible refine Sto.rowEq ?_); omega) | with_reducible apply Sto.int | with_reducible apply Sto.there | with_reducible assumption | (unfold I64; omega) | (with_reducible (have hMx := Mem.undrew hM; exact hMx)) | (with_reducible (have hMx := Mem.undrew hMp; exact hMx))))
  clear hM
  intro wst hM
  (try simp only [World.size_alloc, World.size_setCell, World.heap_drewN, heapDrew, Nat.add_assoc, Nat.reduceAdd, List.setIfInBounds_toArray, List.set_cons_zero, List.set_cons_succ, List.cons_append, List.nil_append] at hM)
  (first | refine (l17Good_any u a n c xs _ HU.out (HH.out.ext hM.below)).mono ?_)
  rw [HB.out]
  rintro e wc5 ⟨rfl, hb⟩
  replace hM := hM.ext hb
  clear hb
  go_wp2_with fail
  go_loopw [6, 7] (fun s6 s7 wr => ∃ (k m c' : Nat) (a' : Option Addr) (L : List Int), k ≤ n ∧ m ≤ k ∧ s7 = .int .i64 k ∧ s6 = .slice a' m c' ∧ Hid (latestTo (coreN xs) k = L) ∧ Mem w.heap.size w wr [intE a' m c' L]) (fun _ s7 _ => n - (intOf s7).toNat)
  case atStart => exact ⟨0, 0, _, _, [], Nat.zero_le _, Nat.zero_le _, rfl, rfl, Lib.hid rfl, hM⟩
  case round =>
    clear hM
    obtain ⟨k, m, c', a', L, hk, hmk, rfl, rfl, HLL, hM⟩ := hrel
    by_cases hlt : k < n
    · obtain ⟨b, off, rfl, -, -⟩ := HH.out.rd.at' _ hlt
      obtain ⟨x, hx⟩ : ∃ x, xs.getD k NoteI.zero = x := ⟨_, rfl⟩
      have hxm : x ∈ xs := by rw [← hx]; exact getD_memO (by rw [HH.out.rd.len]; exact hlt)
      have hsx := HSM.out x hxm
      have HCX := Lib.hid (fun (w' : World) (hb : Below w.heap.size w w') => ((HH.out.rd.ext hb).cellNote hlt).2)
      simp only [hx] at HCX
      have HXE := Lib.hid hx
      have HSX := Lib.hid hsx
      clear hx hxm hsx
      obtain ⟨xu, xq, xa, xn, xc, xl, xw⟩ := x
      have i0 : (0 : Int) ≤ (k : Int) := by omega
      have i1 : (k : Int) < (n : Int) := by omega
      go_wp2_with fail
      go_loopw [8, 9] (fun s8 s9 wq => ∃ (j : Nat) (q : Bool), j ≤ n ∧ s9 = .int .i64 j ∧ s8 = .bool q ∧ Hid (latTo (coreN xs) k j = q) ∧ Mem w.heap.size w wq [intE a' m c' L]) (fun _ s9 _ => n - (intOf s9).toNat)
      case atStart => exact ⟨0, true, Nat.zero_le _, rfl, rfl, Lib.hid rfl, hM⟩
      case round =>
        clear hM
        obtain ⟨j, q, hj, rfl, rfl, HQ, hM⟩ := hrel
        by_cases hlj : j < n
        · have hpl := HPL.out k j hlt hlj
          have hyi := HH.out.get hlj
          have hke := HKE.out k j hlt hlj
          have hsc := latTo_succ (coreN xs) k j
          rw [HQ.out, coreN_getD, coreN_getD] at hsc
          rw [coreN_getD, coreN_getD] at hke
          rw [HXE.out] at hpl hsc hke
          obtain ⟨y, hy⟩ : ∃ y, xs.getD j NoteI.zero = y := ⟨_, rfl⟩
          have hym : y ∈ xs := by rw [← hy]; exact getD_memO (by rw [HH.out.rd.len]; exact hlj)
          have HSY := Lib.hid (HSM.out y hym)
          have HCY := Lib.hid (fun (w' : World) (hb : Below w.heap.size w w') => ((HH.out.rd.ext hb).cellNote hlj).2)
          simp only [hy] at HCY
          rw [hy] at hpl hyi hsc hke
          obtain ⟨yu, yq, ya, yn, yc, yl, yw⟩ := y
          dsimp only at hpl hyi
          have HPX := Lib.hid hpl; have HYI := Lib.hid hyi
          clear hy hpl hyi hym
          obtain ⟨v, hv⟩ : ∃ v, befC (NoteI.core ⟨xu, xq, xa, xn, xc, xl, xw⟩) (NoteI.core ⟨yu, yq, ya, yn, yc, yl, yw⟩) = v := ⟨_, rfl⟩
          rw [hv] at hsc
          have HE := Lib.hid (show latTo (coreN xs) k (j + 1) = (q && !(v && !decide (k = j))) by
            rw [hsc]
            by_cases e : j = k
            · subst e; simp
            · have e' : ¬ k = j := fun h => e h.symm
              simp [e, e'])
          have HV := Lib.hid hv; have HKK := Lib.hid hke
          clear hv hsc hke
          have j0 : (0 : Int) ≤ (j : Int) := by omega
          have j1 : (j : Int) < (n : Int) := by omega
          cases q
          · skip
            go_upto_region 11 with fail
            apply Mem.atWpA
            · (repeat' (first | with_reducible exact hM | with_reducible exact hMp | with_reducible apply Mem.drew | with_reducible apply Mem.drewN | with_reducible apply Mem.alloc | with_reducible apply Mem.set | with_reducible exact Sto.row | ((with_reducible refine Sto.rowEq2 ?_ ?_); omega; rfl) | ((with_reducible refine Sto.rowEq ?_); omega) | with_reducible apply Sto.int | with_reducible apply Sto.there | with_reducible assumption | (unfold I64; omega) | (with_reducible (have hMx := Mem.undrew hM; exact hMx)) | (with_reducible (have hMx := Mem.undrew hMp; exact hMx))))
            clear hM
            intro wst hM
            (try simp only [World.size_alloc, World.size_setCell, World.heap_drewN, heapDrew, Nat.add_assoc, Nat.reduceAdd, List.setIfInBounds_toArray, List.set_cons_zero, List.set_cons_succ, List.cons_append, List.nil_append] at hM)
            refine AtT.startA hM hM 13 (by kernel_rfl) ?_
            clear hM
            intro wd hM
            have hS := hM
            refine AtT.taked (i := 0) (v := ?_) (some 28) rfl rfl (by kernel_rfl) (by kernel_rfl) (by kernel_rfl) (by kernel_rfl) (fun _ _ _ h => h) (Or.inl ⟨by kernel_rfl, ?_⟩) hS ?_
            rotate_left
            · (intro wS hSw; (try dsimp only at hSw); go_simp; (try rw [if_neg (by omega)]); try with_reducible rfl)
            simp only [Act.put, List.setIfInBounds_toArray, List.set_cons_zero, List.set_cons_succ]
            refine AtT.taked (i := 1) (v := ?_) (some 29) rfl rfl (by kernel_rfl) (by kernel_rfl) (by kernel_rfl) (by kernel_rfl) (fun _ _ _ h => h) (Or.inl ⟨by kernel_rfl, ?_⟩) hS ?_
            rotate_left
            · (intro wS hSw; (try dsimp only at hSw); go_simp; (try rw [if_neg (by omega)]); try with_reducible rfl)
            simp only [Act.put, List.setIfInBounds_toArray, List.set_cons_zero, List.set_cons_succ]
            refine AtT.taked (i := 2) (v := undef) (some 30) rfl rfl (by kernel_rfl) (by kernel_rfl) (by kernel_rfl) (by kernel_rfl) (fun _ _ _ h => h) (Or.inr ⟨by kernel_rfl, rfl⟩) hS ?_
            simp only [Act.put, List.setIfInBounds_toArray, List.set_cons_zero, List.set_cons_succ]
            refine AtT.taked (i := 3) (v := undef) (some 31) rfl rfl (by kernel_rfl) (by kernel_rfl) (by kernel_rfl) (by kernel_rfl) (fun _ _ _ h => h) (Or.inr ⟨by kernel_rfl, rfl⟩) hS ?_
            simp only [Act.put, List.setIfInBounds_toArray, List.set_cons_zero, List.set_cons_succ]
            refine AtT.taked (i := 4) (v := undef) (some 32) rfl rfl (by kernel_rfl) (by kernel_rfl) (by kernel_rfl) (by kernel_rfl) (fun _ _ _ h => h) (Or.inr ⟨by kernel_rfl, rfl⟩) hS ?_
            simp only [Act.put, List.setIfInBounds_toArray, List.set_cons_zero, List.set_cons_succ]
            refine AtT.taked (i := 5) (v := undef) (some 33) rfl rfl (by kernel_rfl) (by kernel_rfl) (by kernel_rfl) (by kernel_rfl) (fun _ _ _ h => h) (Or.inr ⟨by kernel_rfl, rfl⟩) hS ?_
            simp only [Act.put, List.setIfInBounds_toArray, List.set_cons_zero, List.set_cons_succ]
            refine AtT.taked (i := 6) (v := undef) (some 34) rfl rfl (by kernel_rfl) (by kernel_rfl) (by kernel_rfl) (by kernel_rfl) (fun _ _ _ h => h) (Or.inr ⟨by kernel_rfl, rfl⟩) hS ?_
            simp only [Act.put, List.setIfInBounds_toArray, List.set_cons_zero, List.set_cons_succ]
            refine AtT.taked (i := 7) (v := undef) (some 35) rfl rfl (by kernel_rfl) (by kernel_rfl) (by kernel_rfl) (by kernel_rfl) (fun _ _ _ h => h) (Or.inr ⟨by kernel_rfl, rfl⟩) hS ?_
            simp only [Act.put, List.setIfInBounds_toArray, List.set_cons_zero, List.set_cons_succ]
            refine AtT.taked (i := 8) (v := undef) (some 36) rfl rfl (by kernel_rfl) (by kernel_rfl) (by kernel_rfl) (by kernel_rfl) (fun _ _ _ h => h) (Or.inr ⟨by kernel_rfl, rfl⟩) hS ?_
            simp only [Act.put, List.setIfInBounds_toArray, List.set_cons_zero, List.set_cons_succ]
            refine AtT.taked (i := 9) (v := undef) (some 37) rfl rfl (by kernel_rfl) (by kernel_rfl) (by kernel_rfl) (by kernel_rfl) (fun _ _ _ h => h) (Or.inr ⟨by kernel_rfl, rfl⟩) hS ?_
            simp only [Act.put, List.setIfInBounds_toArray, List.set_cons_zero, List.set_cons_succ]
            refine AtT.taked (i := 10) (v := undef) (some 38) rfl rfl (by kernel_rfl) (by kernel_rfl) (by kernel_rfl) (by kernel_rfl) (fun _ _ _ h => h) (Or.inr ⟨by kernel_rfl, rfl⟩) hS ?_
            simp only [Act.put, List.setIfInBounds_toArray, List.set_cons_zero, List.set_cons_succ]
            refine AtT.taked (i := 11) (v := undef) (some 39) rfl rfl (by kernel_rfl) (by kernel_rfl) (by kernel_rfl) (by kernel_rfl) (fun _ _ _ h => h) (Or.inr ⟨by kernel_rfl, rfl⟩) hS ?_
            simp only [Act.put, List.setIfInBounds_toArray, List.set_cons_zero, List.set_cons_succ]
            refine AtT.taked (i := 12) (v := ?_) (some 40) rfl rfl (by kernel_rfl) (by kernel_rfl) (by kernel_rfl) (by kernel_rfl) (fun _ _ _ h => h) (Or.inl ⟨by kernel_rfl, ?_⟩) hS ?_
            rotate_left
            · (intro wS hSw; (try dsimp only at hSw); go_simp; (try rw [if_neg (by omega)]); try with_reducible rfl)
            simp only [Act.put, List.setIfInBounds_toArray, List.set_cons_zero, List.set_cons_succ]
            refine AtT.last (by kernel_rfl) rfl (by kernel_rfl) ?_
            intro K hK
            clear hS
            go_simp
            refine hK.out _ _ ?_
            clear hK K
            go_wp2
            go_roundw
            case rel => exact ⟨j + 1, false, by omega, by go_num, rfl, Lib.hid (by rw [HE.out, Bool.false_and]), by (repeat' (first | with_reducible exact hM | with_reducible exact hMp | with_reducible apply Mem.drew | with_reducible apply Mem.drewN | with_reducible apply Mem.alloc | with_reducible apply Mem.set | with_reducible exact Sto.row | ((with_reducible refine Sto.rowEq2 ?_ ?_); omega; rfl) | ((with_reducible refine Sto.rowEq ?_); omega) | with_reducible apply Sto.int | with_reducible apply Sto.there | with_reducible assumption | (unfold I64; omega) | (with_reducible (have hMx := Mem.undrew hM; exact hMx)) | (with_reducible (have hMx := Mem.undrew hMp; exact hMx))))⟩
            case measure => simp [intOf]; omega
          · obtain ⟨d, hd⟩ : ∃ d, decide (k = j) = d := ⟨_, rfl⟩
            rw [hd] at HE HKK
            clear hd
            go_upto_region 11 with fail
            apply Mem.atWpA
            · (repeat' (first | with_reducible exact hM | with_reducible exact hMp | with_reducible apply Mem.drew | with_reducible apply Mem.drewN | with_reducible apply Mem.alloc | with_reducible apply Mem.set | with_reducible exact Sto.row | ((with_reducible refine Sto.rowEq2 ?_ ?_); omega; rfl) | ((with_reducible refine Sto.rowEq ?_); omega) | with_reducible apply Sto.int | with_reducible apply Sto.there | with_reducible assumption | (unfold I64; omega) | (with_reducible (have hMx := Mem.undrew hM; exact hMx)) | (with_reducible (have hMx := Mem.undrew hMp; exact hMx))))
            clear hM
            intro wst hM
            (try simp only [World.size_alloc, World.size_setCell, World.heap_drewN, heapDrew, Nat.add_assoc, Nat.reduceAdd, List.setIfInBounds_toArray, List.set_cons_zero, List.set_cons_succ, List.cons_append, List.nil_append] at hM)
            refine AtT.startA hM hM 13 (by kernel_rfl) ?_
            clear hM
            intro wd hM
            have hS := hM
            refine AtT.taked (i := 0) (v := ?_) (some 28) rfl rfl (by kernel_rfl) (by kernel_rfl) (by kernel_rfl) (by kernel_rfl) (fun _ _ _ h => h) (Or.inl ⟨by kernel_rfl, ?_⟩) hS ?_
            rotate_left
            · (intro wS hSw; (try dsimp only at hSw); go_simp; (try rw [if_neg (by omega)]); try with_reducible rfl)
            simp only [Act.put, List.setIfInBounds_toArray, List.set_cons_zero, List.set_cons_succ]
            refine AtT.taked (i := 1) (v := ?_) (some 29) rfl rfl (by kernel_rfl) (by kernel_rfl) (by kernel_rfl) (by kernel_rfl) (fun _ _ _ h => h) (Or.inl ⟨by kernel_rfl, ?_⟩) hS ?_
            rotate_left
            · (intro wS hSw; (try dsimp only at hSw); go_simp; (try rw [if_neg (by omega)]); try with_reducible rfl)
            simp only [Act.put, List.setIfInBounds_toArray, List.set_cons_zero, List.set_cons_succ]
            refine AtT.taked (i := 2) (v := ?_) (some 30) rfl rfl (by kernel_rfl) (by kernel_rfl) (by kernel_rfl) (by kernel_rfl) (fun _ _ _ h => h) (Or.inl ⟨by kernel_rfl, ?_⟩) hS ?_
            rotate_left
            · (intro wS hSw; (try dsimp only at hSw); go_simp; (try rw [if_neg (by omega)]); try with_reducible rfl)
            simp only [Act.put, List.setIfInBounds_toArray, List.set_cons_zero, List.set_cons_succ]
            refine AtT.taked (i := 3) (v := ?_) (some 31) rfl rfl (by kernel_rfl) (by kernel_rfl) (by kernel_rfl) (by kernel_rfl) (fun _ _ _ h => h) (Or.inl ⟨by kernel_rfl, ?_⟩) hS ?_
            rotate_left
            · (intro wS hSw; (try dsimp only at hSw); go_simp; (try rw [if_neg (by omega)]); try with_reducible rfl)
            simp only [Act.put, List.setIfInBounds_toArray, List.set_cons_zero, List.set_cons_succ]
            refine AtT.taked (i := 4) (v := ?_) (some 32) rfl rfl (by kernel_rfl) (by kernel_rfl) (by kernel_rfl) (by kernel_rfl) (fun _ _ _ h => h) (Or.inl ⟨by kernel_rfl, ?_⟩) hS ?_
            rotate_left
            · (intro wS hSw; (try dsimp only at hSw); obtain ⟨x0, x1, x2, x3⟩ := HCX.out _ hSw.below; obtain ⟨y0, y1, y2, y3⟩ := HCY.out _ hSw.below; go_simp; (try rw [if_neg (by omega)]); try with_reducible rfl)
            simp only [Act.put, List.setIfInBounds_toArray, List.set_cons_zero, List.set_cons_succ]
            refine AtT.taked (i := 5) (v := ?_) (some 33) rfl rfl (by kernel_rfl) (by kernel_rfl) (by kernel_rfl) (by kernel_rfl) (fun _ _ _ h => h) (Or.inl ⟨by kernel_rfl, ?_⟩) hS ?_
            rotate_left
            · (intro wS hSw; (try dsimp only at hSw); obtain ⟨x0, x1, x2, x3⟩ := HCX.out _ hSw.below; obtain ⟨y0, y1, y2, y3⟩ := HCY.out _ hSw.below; go_simp; (try rw [if_neg (by omega)]); try with_reducible rfl)
            simp only [Act.put, List.setIfInBounds_toArray, List.set_cons_zero, List.set_cons_succ]
            refine AtT.taked (i := 6) (v := ?_) (some 34) rfl rfl (by kernel_rfl) (by kernel_rfl) (by kernel_rfl) (by kernel_rfl) (fun _ _ _ h => h) (Or.inl ⟨by kernel_rfl, ?_⟩) hS ?_
            rotate_left
            · (intro wS hSw; (try dsimp only at hSw); go_simp; (try rw [if_neg (by omega)]); try with_reducible rfl)
            simp only [Act.put, List.setIfInBounds_toArray, List.set_cons_zero, List.set_cons_succ]
            refine AtT.taked (i := 7) (v := ?_) (some 35) rfl rfl (by kernel_rfl) (by kernel_rfl) (by kernel_rfl) (by kernel_rfl) (fun _ _ _ h => h) (Or.inl ⟨by kernel_rfl, ?_⟩) hS ?_
            rotate_left
            · (intro wS hSw; (try dsimp only at hSw); go_simp; (try rw [if_neg (by omega)]); try with_reducible rfl)
            simp only [Act.put, List.setIfInBounds_toArray, List.set_cons_zero, List.set_cons_succ]
            refine AtT.taked (i := 8) (v := ?_) (some 36) rfl rfl (by kernel_rfl) (by kernel_rfl) (by kernel_rfl) (by kernel_rfl) (fun _ _ _ h => h) (Or.inl ⟨by kernel_rfl, ?_⟩) hS ?_
            rotate_left
            · (intro wS hSw; (try dsimp only at hSw); obtain ⟨x0, x1, x2, x3⟩ := HCX.out _ hSw.below; obtain ⟨y0, y1, y2, y3⟩ := HCY.out _ hSw.below; go_simp; (try rw [if_neg (by omega)]); try with_reducible rfl)
            simp only [Act.put, List.setIfInBounds_toArray, List.set_cons_zero, List.set_cons_succ]
            refine AtT.taked (i := 9) (v := ?_) (some 37) rfl rfl (by kernel_rfl) (by kernel_rfl) (by kernel_rfl) (by kernel_rfl) (fun _ _ _ h => h) (Or.inl ⟨by kernel_rfl, ?_⟩) hS ?_
            rotate_left
            · (intro wS hSw; (try dsimp only at hSw); obtain ⟨x0, x1, x2, x3⟩ := HCX.out _ hSw.below; obtain ⟨y0, y1, y2, y3⟩ := HCY.out _ hSw.below; go_simp; (try rw [if_neg (by omega)]); try with_reducible rfl)
            simp only [Act.put, List.setIfInBounds_toArray, List.set_cons_zero, List.set_cons_succ]
            refine AtT.only (i := 10) (by kernel_rfl) rfl rfl ?_
            intro K hK
            go_simp
            refine (l17Before_any ⟨xu, xq, xa, xn, xc, xl, xw⟩ ⟨yu, yq, ya, yn, yc, yl, yw⟩ _ (HYI.out.ext hM.below) HPX.out HSX.out HSY.out).mono ?_
            rw [HV.out, HKK.out]
            rintro e w5 ⟨rfl, hb⟩
            replace hM := hM.ext hb
            clear hb
            try dsimp only
            refine hK.out _ _ (hM) ?_
            clear hK K hS
            have hS := hM
            refine AtT.taked (i := 11) (v := ?_) (some 39) rfl rfl (by kernel_rfl) (by kernel_rfl) (by kernel_rfl) (by kernel_rfl) (fun _ _ _ h => h) (Or.inl ⟨by kernel_rfl, ?_⟩) hS ?_
            rotate_left
            · (intro wS hSw; (try dsimp only at hSw); go_simp; (try rw [if_neg (by omega)]); try with_reducible rfl)
            simp only [Act.put, List.setIfInBounds_toArray, List.set_cons_zero, List.set_cons_succ]
            refine AtT.taked (i := 12) (v := ?_) (some 40) rfl rfl (by kernel_rfl) (by kernel_rfl) (by kernel_rfl) (by kernel_rfl) (fun _ _ _ h => h) (Or.inl ⟨by kernel_rfl, ?_⟩) hS ?_
            rotate_left
            · (intro wS hSw; (try dsimp only at hSw); go_simp; (try rw [if_neg (by omega)]); try with_reducible rfl)
            simp only [Act.put, List.setIfInBounds_toArray, List.set_cons_zero, List.set_cons_succ]
            refine AtT.last (by kernel_rfl) rfl (by kernel_rfl) ?_
            intro K hK
            clear hS
            go_simp
            refine hK.out _ _ ?_
            clear hK K
            go_wp2
            go_roundw
            case rel => exact ⟨j + 1, (!v || d), by omega, by go_num, rfl, Lib.hid (by rw [HE.out, Bool.true_and]; cases v <;> cases d <;> rfl), by (repeat' (first | with_reducible exact hM | with_reducible exact hMp | with_reducible apply Mem.drew | with_reducible apply Mem.drewN | with_reducible apply Mem.alloc | with_reducible apply Mem.set | with_reducible exact Sto.row | ((with_reducible refine Sto.rowEq2 ?_ ?_); omega; rfl) | ((with_reducible refine Sto.rowEq ?_); omega) | with_reducible apply Sto.int | with_reducible apply Sto.there | with_reducible assumption | (unfold I64; omega) | (with_reducible (have hMx := Mem.undrew hM; exact hMx)) | (with_reducible (have hMx := Mem.undrew hMp; exact hMx))))⟩
            case measure => simp [intOf]; omega
        · obtain rfl : j = n := by omega
          have hlb : latestB (coreN xs) k = q := by rw [← HAL.out k]; exact HQ.out
          have hst : latestTo (coreN xs) (k + 1) = if q then L ++ [(k : Int)] else L := by rw [latestTo, HLL.out, hlb]
          have HST := Lib.hid hst
          clear hst hlb HLL HQ
          cases q
          · go_wp2
            go_roundw
            case rel => exact ⟨k + 1, m, c', a', L, by omega, by omega, by go_num, rfl, Lib.hid (by rw [HST.out]; rfl), hM⟩
            case measure => simp [intOf]; omega
          · go_wp2_with (at_builtin; apply Mem.atL; (focus ((repeat' (first | with_reducible exact hM | with_reducible exact hMp | with_reducible apply Mem.drew | with_reducible apply Mem.drewN | with_reducible apply Mem.alloc | with_reducible apply Mem.set | with_reducible exact Sto.row | ((with_reducible refine Sto.rowEq2 ?_ ?_); omega; rfl) | ((with_reducible refine Sto.rowEq ?_); omega) | with_reducible apply Sto.int | with_reducible apply Sto.there | with_reducible assumption | (unfold I64; omega) | (with_reducible (have hMx := Mem.undrew hM; exact hMx)) | (with_reducible (have hMx := Mem.undrew hMp; exact hMx)))); done)); clear hM; intro hM; refine wpList_pushI hM (fun _ => .here) (by unfold I64; omega) (by omega) rfl _ _ _ Try.underlying36 rfl rfl rfl ?_)
            intro a7 c7 w7 hM
            go_wp2
            go_roundw
            case rel => exact ⟨k + 1, m + 1, c7, a7, L ++ [(k : Int)], by omega, by omega, by go_num, rfl, Lib.hid (by rw [HST.out]; rfl), hM⟩
            case measure => simp [intOf]; omega
    · obtain rfl : k = n := by omega
      have HL2 := HLL.out
      subst HL2
      have hml := (hM.ints .here).len
      clear HLL
      go_wp2
      go_ret2
      exact ⟨a', c', by rw [hml]; rfl, by rw [hml]; exact hM⟩
end Go.Proofs.Ytjnbdgldpmmamaa
