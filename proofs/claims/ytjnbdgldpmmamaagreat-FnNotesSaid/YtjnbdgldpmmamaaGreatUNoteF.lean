/-
  A note put in its place (the reference's).
-/
import Derived.Test.YtjnbdgldpmmamaaGreatUNoteE
import Derived.Test.YtjnbdgldpmmamaaGreatUNoteG
/-
  A note put in its place (the reference's).
-/
namespace Go.Proofs.YtjnbdgldpmmamaaGreat
set_option linter.unusedSimpArgs false
set_option linter.unusedVariables false
open Go.RowKit

def posN (x : NoteC) : List NoteC → Nat
  | [] => 0
  | s :: l => if ltN s x then posN x l + 1 else 0
def putN (x : NoteC) (l : List NoteC) : List NoteC := l.take (posN x l) ++ [x] ++ l.drop (posN x l)
theorem posN_le (x : NoteC) : ∀ l : List NoteC, posN x l ≤ l.length
  | [] => Nat.le_refl _
  | s :: l => by
    unfold posN
    split
    · simpa using posN_le x l
    · omega
theorem posN_lt {x : NoteC} : ∀ {l : List NoteC} {k : Nat}, k < posN x l → ltN (l.getD k NoteC.zero) x = true
  | [], k, h => by simp [posN] at h
  | s :: l, 0, h => by
    unfold posN at h
    split at h
    · rename_i h1; exact h1
    · omega
  | s :: l, k + 1, h => by
    unfold posN at h
    split at h
    · have := posN_lt (x := x) (l := l) (k := k) (by omega)
      simpa using this
    · omega
theorem posN_at {x : NoteC} : ∀ {l : List NoteC}, posN x l < l.length → ltN (l.getD (posN x l) NoteC.zero) x = false
  | [], h => by simp [posN] at h
  | s :: l, h => by
    unfold posN at h ⊢
    cases h1 : ltN s x
    · simpa using h1
    · rw [h1, if_pos rfl, List.length_cons] at h
      rw [if_pos rfl]
      have := posN_at (x := x) (l := l) (by omega)
      simpa using this
theorem putN_len (x : NoteC) (l : List NoteC) : (putN x l).length = l.length + 1 := by
  have := posN_le x l
  unfold putN
  rw [List.length_append, List.length_append, List.length_singleton, List.length_take, List.length_drop]
  omega
theorem putN_cons (x a : NoteC) (l : List NoteC) : putN x (a :: l) = if ltN a x then a :: putN x l else x :: a :: l := by
  have e : posN x (a :: l) = if ltN a x then posN x l + 1 else 0 := rfl
  unfold putN
  rw [e]
  split <;> simp
theorem insR_last {α : Type} {lt : α → α → Bool} {x : α} : ∀ {l : List α}, (∀ a ∈ l, lt x a = false) → insR lt x l = l ++ [x]
  | [], _ => rfl
  | a :: l, h => by
    unfold insR
    rw [if_neg (by rw [List.all_cons, h a (List.mem_cons_self ..)]; simp), insR_last fun b hb => h b (List.mem_cons_of_mem _ hb)]
    rfl
def ascN (l : List NoteC) : Prop := l.Pairwise fun a b => ltN a b = true
theorem insR_put {x : NoteC} : ∀ {l : List NoteC}, ascN l → (∀ a ∈ l, ltN a x = true ∨ ltN x a = true) → insR ltN x l = putN x l
  | [], _, _ => rfl
  | a :: l, hs, h => by
    obtain ⟨h1, h2⟩ := List.pairwise_cons.1 hs
    rw [putN_cons]
    unfold insR
    rcases h a (List.mem_cons_self ..) with h3 | h3
    · rw [if_pos h3, if_neg (by rw [List.all_cons, ltN_asym h3]; simp), insR_put h2 fun b hb => h b (List.mem_cons_of_mem _ hb)]
    · have e2 : (a :: l).all (ltN x) = true := by
        rw [List.all_cons, Bool.and_eq_true, List.all_eq_true]
        exact ⟨h3, fun b hb => ltN_trans h3 (h1 b hb)⟩
      have e1 := ltN_asym h3
      rw [if_pos e2, e1]
      rfl
theorem isortG_asc : ∀ (m : Nat) (l : List NoteC), l.length = m → ascN l → isortG NoteC.zero ltN l = l
  | 0, l, h, _ => by
    obtain rfl := List.eq_nil_of_length_eq_zero h
    rfl
  | m + 1, l, h, hs => by
    obtain ⟨ys, x, rfl⟩ : ∃ A' a, l = A' ++ [a] := ⟨l.dropLast, l.getLast (by intro e; subst e; simp at h), (List.dropLast_concat_getLast _).symm⟩
    obtain ⟨h1, -, h3⟩ := List.pairwise_append.1 hs
    rw [isortG_snoc, isortG_asc m ys (by simpa using h) h1]
    exact insR_last fun a ha => ltN_asym (h3 a ha x (by simp))
theorem isort_put {x : NoteC} {l : List NoteC} (hs : ascN l) (h : ∀ a ∈ l, ltN a x = true ∨ ltN x a = true) : isortG NoteC.zero ltN (l ++ [x]) = putN x l := by
  rw [isortG_snoc, isortG_asc _ l rfl hs, insR_put hs h]
theorem book_asc {u : Int} {l : List NoteC} (h : bookB u l = true) : ascN l := by
  unfold bookB at h
  rw [Bool.and_eq_true, Bool.and_eq_true] at h
  have ha : ∀ k, 0 < k → k < l.length → ltN (l.getD (k - 1) NoteC.zero) (l.getD k NoteC.zero) = true := fun k h0 hk => by
    have := bk_ok h.1.1 hk
    unfold bkOK at this
    rw [Bool.and_eq_true, if_neg (by omega)] at this
    exact this.2
  have hb : ∀ j i, i < j → j < l.length → ltN (l.getD i NoteC.zero) (l.getD j NoteC.zero) = true := by
    intro j
    induction j with
    | zero => intro i hi; omega
    | succ j ih =>
      intro i hi hj
      have h1 := ha (j + 1) (by omega) hj
      rw [Nat.add_sub_cancel] at h1
      by_cases e : i = j
      · subst e; exact h1
      · exact ltN_trans (ih i (by omega) (by omega)) h1
  unfold ascN
  rw [List.pairwise_iff_getElem]
  intro i j hi hj hij
  have := hb j i hij hj
  rw [List.getD_eq_getElem?_getD, List.getD_eq_getElem?_getD, List.getElem?_eq_getElem hi, List.getElem?_eq_getElem hj] at this
  exact this
theorem book_note {u : Int} {l : List NoteC} (h : bookB u l = true) {k : Nat} (hk : k < l.length) : noteB u (l.getD k NoteC.zero) = true := by
  unfold bookB at h
  rw [Bool.and_eq_true, Bool.and_eq_true] at h
  have := bk_ok h.1.1 hk
  unfold bkOK at this
  rw [Bool.and_eq_true] at this
  exact this.1
theorem book_u {u : Int} {l : List NoteC} (h : bookB u l = true) : 2 ≤ u ∧ u ≤ 4 := by
  unfold bookB at h
  rw [Bool.and_eq_true, Bool.and_eq_true] at h
  exact inB_true h.1.2
theorem book_len {u : Int} {l : List NoteC} (h : bookB u l = true) : l.length ≤ 12 := by
  unfold bookB at h
  rw [Bool.and_eq_true] at h
  exact of_decide_eq_true h.2

theorem Mem.clkJoin {B : Nat} {w0 w : World} {G : List Ent} {e : Ent} {xs ys : List NoteI} (h : Mem B w0 w (e :: clkE xs :: clkE ys :: G)) : Mem B w0 w (e :: clkE (xs ++ ys) :: G) := by
  have h1 := Mem.unpackAt (X := [e]) h
  have h2 := Mem.unpackAt (X := e :: xs.map noteIn) (G := ys.map noteIn) (Y := G) h1
  refine Mem.packAt (X := [e]) ?_
  rw [List.map_append, List.append_assoc]
  exact h2
/-- units and numbers are small -/
def smallN (x : NoteI) : Prop := (-10 ≤ x.un ∧ x.un ≤ 10) ∧ (-20 ≤ x.sq ∧ x.sq ≤ 20)
theorem Rd.dropK {α : Type} {F : Fl α} {w : World} {b off n c k : Nat} {xs : List α} (h : Rd F w (some ⟨b, off, none⟩) n c xs) (hk : k ≤ n) : Rd F w (some ⟨b, off + k * F.sz, none⟩) (n - k) (c - k) (xs.drop k) := by
  have hl := h.len
  refine ⟨by rw [List.length_drop]; omega, by have := h.cap; omega, by have := h.capm; omega, by simp, Nat.le_trans (Nat.mul_le_mul_right _ (by omega)) h.room, fun x hx => h.wf x (List.mem_of_mem_drop hx), fun j hj => ?_⟩
  obtain ⟨b', off', ha, hb, hc⟩ := h.at' (k + j) (by omega)
  simp only [Option.some.injEq, Addr.mk.injEq] at ha
  obtain ⟨rfl, rfl, _⟩ := ha
  refine ⟨b, off + k * F.sz, rfl, hb, fun i hi q hq => ?_⟩
  have := hc (k + i) (by omega) q hq
  rw [show off + ((k + i) * F.sz + q) = off + k * F.sz + (i * F.sz + q) by rw [Nat.add_mul]; omega] at this
  rw [this, List.getD_eq_getElem?_getD, List.getD_eq_getElem?_getD, List.getElem?_drop]
theorem RdN.takeN {w : World} {a : Option Addr} {n c k : Nat} {xs : List NoteI} (h : RdN w a n c xs) (hk : k ≤ n) : RdN w a k c (xs.take k) := ⟨h.rd.takeO hk, fun x hx => h.cl x (List.mem_of_mem_take hx)⟩
theorem RdN.dropN {w : World} {b off n c k : Nat} {xs : List NoteI} (h : RdN w (some ⟨b, off, none⟩) n c xs) (hk : k ≤ n) : RdN w (some ⟨b, off + k * 4, none⟩) (n - k) (c - k) (xs.drop k) := ⟨h.rd.dropK hk, fun x hx => h.cl x (List.mem_of_mem_drop hx)⟩
theorem RdN.noneN {w : World} {a : Option Addr} {c : Nat} (hc : c ≤ maxLen) (h : a = none → c = 0) : RdN w a 0 c [] := ⟨Rd.noneR hc h, fun x hx => by cases hx⟩

set_option maxRecDepth 100000 in
set_option maxHeartbeats 8000000 in
theorem l17Put_any (b off n c : Nat) (xs : List NoteI) (x : NoteI) (w : World) (h : RdN w (some ⟨b, off, none⟩) n c xs) (hx : Ints w x.ad x.n x.c x.cl) (hwf : FNote.wf x) (hs : ∀ y ∈ xs, smallN y) (hsx : smallN x) (hn : n ≤ 30) :
    Calls Tryz.prog 45 #[.slice (some ⟨b, off, none⟩) n c, x.val] w fun e w' => ∃ g c' ys, coreN ys = putN x.core (coreN xs) ∧ e = .returned (.slice (some ⟨g, 0, none⟩) (n + 1) c') ∧ Mem w.heap.size w w' [owE FNote 40 (some ⟨g, 0, none⟩) (n + 1) c' ys, clkE ys] := by
  have hM := Mem.start w
  have hrm := h.rd.nroom
  have hcap := h.rd.cap
  have hcm := h.rd.capm
  unfold maxLen at hcm
  have HL := Lib.hid h.rd.len
  have HX := Lib.hid hx; have HW := Lib.hid hwf; have HS := Lib.hid hs; have HSX := Lib.hid hsx
  clear hx hwf hs hsx
  obtain ⟨i0, hi, hz0, hz1, hz2⟩ := info_parts Tryz.info40
  have hpk := posN_le x.core (coreN xs)
  rw [coreN_len, HL.out] at hpk
  have HPL := Lib.hid (fun j (hj : j < posN x.core (coreN xs)) => posN_lt (x := x.core) (l := coreN xs) hj)
  have HPA := Lib.hid (posN_at (x := x.core) (l := coreN xs))
  have HPUT := Lib.hid (show putN x.core (coreN xs) = (coreN xs).take (posN x.core (coreN xs)) ++ [x.core] ++ (coreN xs).drop (posN x.core (coreN xs)) from rfl)
  rw [HPUT.out]
  clear HPUT
  generalize posN x.core (coreN xs) = p at hpk HPL HPA ⊢
  have hxv : x.val = .agg #[.int .i64 x.un, .int .i64 x.sq, .slice x.ad x.n x.c, .string (bsA x.wd)] := rfl
  go_enter Tryz.func45, Tryz.ntmps45
  go_upto_region 1 with fail
  apply Mem.atWpA
  · exact memA
  clear hM
  intro wst hM
  (try simp only [World.size_alloc, World.size_setCell, World.heap_drewN, heapDrew, Nat.add_assoc, Nat.reduceAdd, sA, List.cons_append, List.nil_append] at hM)
  go_wp2_with fail
  go_loopw [5] (fun s5 wr => ∃ j : Nat, j ≤ p ∧ s5 = .int .i64 j ∧ Mem w.heap.size w wr [rowE w.heap.size 40 #[.int .i64 x.un, .int .i64 x.sq, .slice x.ad x.n x.c, .string (bsA x.wd)]]) (fun s5 _ => n + 1 - (intOf s5).toNat)
  case atStart => exact ⟨0, Nat.zero_le _, rfl, hM⟩
  case round =>
    clear hM
    obtain ⟨j, hj, rfl, hM⟩ := hrel
    by_cases hlt : j < n
    · have hsm := HS.out _ (getD_memO (d := NoteI.zero) (xs := xs) (k := j) (by rw [HL.out]; exact hlt))
      have hpl := fun hh => HPL.out j hh
      have hpa := fun (hh : j = p) => HPA.out (by rw [← hh, coreN_len, HL.out]; exact hlt)
      have hcg := coreN_getD xs j
      obtain ⟨y, hyy⟩ : ∃ y, xs.getD j NoteI.zero = y := ⟨_, rfl⟩
      rw [hyy] at hsm hcg
      have hord := ltN_ord (a := y.core) (b := x.core) (by have h1 := hsm.2; have h2 := HSX.out.2; show -40 ≤ y.sq - x.sq ∧ y.sq - x.sq ≤ 40; omega)
      have HY := Lib.hid hyy
      have hq : ltN y.core x.core = decide (j < p) := by
        by_cases hjp : j < p
        · rw [decide_eq_true hjp, ← hcg]; exact hpl hjp
        · have hjp2 : j = p := by omega
          have := hpa hjp2
          rw [← hjp2, hcg] at this
          rw [decide_eq_false hjp]; exact this
      rw [hq] at hord
      have HORD := Lib.hid (show decide ((y.un - x.un) * 100 + y.sq - x.sq < 0) = decide (j < p) from hord)
      have HSM := Lib.hid hsm
      clear hyy hord hq hpl hpa hcg hsm
      have i0' : (0 : Int) ≤ (j : Int) := by omega
      have i1 : (j : Int) < (n : Int) := by omega
      go_upto_region 2 with fail
      apply Mem.atWpA
      · exact memA
      clear hM
      intro wst hM
      (try simp only [World.size_alloc, World.size_setCell, World.heap_drewN, heapDrew, Nat.add_assoc, Nat.reduceAdd, sA, List.cons_append, List.nil_append] at hM)
      refine AtT.startA hM hM 12 (by kernel_rfl) ?_
      clear hM
      intro wd hM
      have hS := hM
      refine AtT.tk 0 ?_ 6 ?_ hS ?_
      rotate_left
      · (intro wS hSw; (try dsimp only at hSw); go_simp; (try rw [if_neg (by omega)]); try with_reducible rfl)
      simp only [Act.put, sA]
      refine AtT.tk 1 ?_ 7 ?_ hS ?_
      rotate_left
      · (intro wS hSw; (try dsimp only at hSw); go_simp; (try rw [if_neg (by omega)]); try with_reducible rfl)
      simp only [Act.put, sA]
      refine AtT.tk 2 ?_ 8 ?_ hS ?_
      rotate_left
      · (intro wS hSw; (try dsimp only at hSw); go_simp; (try rw [if_neg (by omega)]); try with_reducible rfl)
      simp only [Act.put, sA]
      refine AtT.tk 3 ?_ 9 ?_ hS ?_
      rotate_left
      · (intro wS hSw; (try dsimp only at hSw); go_simp; (try rw [if_neg (by omega)]); try with_reducible rfl)
      simp only [Act.put, sA]
      refine AtT.tk 4 ?_ 10 ?_ hS ?_
      rotate_left
      · (intro wS hSw; (try dsimp only at hSw); go_simp; (try rw [if_neg (by omega)]); try with_reducible rfl)
      simp only [Act.put, sA]
      refine AtT.tk 5 ?_ 11 ?_ hS ?_
      rotate_left
      · (intro wS hSw; (try dsimp only at hSw); go_simp; (try rw [if_neg (by omega)]); try with_reducible rfl)
      simp only [Act.put, sA]
      refine AtT.tk 6 ?_ 12 ?_ hS ?_
      rotate_left
      · (intro wS hSw; (try dsimp only at hSw); go_simp; (try rw [if_neg (by omega)]); try with_reducible rfl)
      simp only [Act.put, sA]
      refine AtT.tk 7 ?_ 13 ?_ hS ?_
      rotate_left
      · (intro wS hSw; (try dsimp only at hSw); have kr0 := (Mem.row hSw .here).cell; have hd := ((h.rd.ext hSw.below).cellNote hlt).2; rw [HY.out] at hd; have y0 := hd.1; have y1 := hd.2.1; have y2 := hd.2.2.1; have y3 := hd.2.2.2; go_simp; (try rw [if_neg (by omega)]); try with_reducible rfl)
      simp only [Act.put, sA]
      refine AtT.tk 8 ?_ 14 ?_ hS ?_
      rotate_left
      · (intro wS hSw; (try dsimp only at hSw); have kr0 := (Mem.row hSw .here).cell; have hd := ((h.rd.ext hSw.below).cellNote hlt).2; rw [HY.out] at hd; have y0 := hd.1; have y1 := hd.2.1; have y2 := hd.2.2.1; have y3 := hd.2.2.2; go_simp; (try rw [if_neg (by omega)]); try with_reducible rfl)
      simp only [Act.put, sA]
      refine AtT.tk 9 ?_ 15 ?_ hS ?_
      rotate_left
      · (intro wS hSw; (try dsimp only at hSw); have kr0 := (Mem.row hSw .here).cell; have hd := ((h.rd.ext hSw.below).cellNote hlt).2; rw [HY.out] at hd; have y0 := hd.1; have y1 := hd.2.1; have y2 := hd.2.2.1; have y3 := hd.2.2.2; go_simp; (try rw [if_neg (by omega)]); try with_reducible rfl)
      simp only [Act.put, sA]
      refine AtT.only (i := 10) (by kernel_rfl) rfl rfl ?_
      intro K hK
      go_simp
      refine (l17Order_any y x _ (by have := HSM.out.1; omega) (by have := HSX.out.1; omega) (by have := HSM.out.2; omega) (by have := HSX.out.2; omega)).mono ?_
      rintro e w4 ⟨rfl, hb⟩
      replace hM := hM.ext hb
      clear hb
      try dsimp only
      refine hK.out _ _ (hM) ?_
      clear hK K hS
      have hS := hM
      refine AtT.tk 11 ?_ 17 ?_ hS ?_
      rotate_left
      · (intro wS hSw; (try dsimp only at hSw); go_simp; (try rw [if_neg (by omega)]); try with_reducible rfl)
      simp only [Act.put, sA]
      refine AtT.last (by kernel_rfl) rfl (by kernel_rfl) ?_
      intro K hK
      clear hS
      go_simp
      refine hK.out _ _ ?_
      clear hK K
      by_cases hjp : j < p
      · have hd : (y.un - x.un) * 100 + y.sq - x.sq < 0 := by have := HORD.out; rw [decide_eq_true hjp] at this; exact of_decide_eq_true this
        go_wp2
        go_roundw
        case rel => exact ⟨j + 1, by omega, by go_num, hM⟩
        case measure => simp [intOf]; omega
      · obtain rfl : j = p := by omega
        have hd : ¬ (y.un - x.un) * 100 + y.sq - x.sq < 0 := by have := HORD.out; rw [decide_eq_false hjp] at this; exact of_decide_eq_false this
        clear hjp hj HORD
        have hkc : j < c := by omega
        have hck : ¬ c = j := by omega
        have j2 : (j : Int) ≤ (n : Int) := by omega
        have j3 : (j : Int) ≤ (c : Int) := by omega
        go_upto_region 4 with fail
        apply Mem.atWpA
        · exact memA
        clear hM
        intro wst hM
        (try simp only [World.size_alloc, World.size_setCell, World.heap_drewN, heapDrew, Nat.add_assoc, Nat.reduceAdd, sA, List.cons_append, List.nil_append] at hM)
        refine AtT.startA hM hM 13 (by kernel_rfl) ?_
        clear hM
        intro wd hM
        have hS := hM
        refine AtT.tk 0 ?_ 21 ?_ hS ?_
        rotate_left
        · (intro wS hSw; (try dsimp only at hSw); go_simp; (try rw [if_neg (by omega)]); try with_reducible rfl)
        simp only [Act.put, sA]
        refine AtT.tk 1 ?_ 22 ?_ hS ?_
        rotate_left
        · (intro wS hSw; (try dsimp only at hSw); go_simp; (try rw [if_neg (by omega)]); try with_reducible rfl)
        simp only [Act.put, sA]
        refine AtT.tk 2 ?_ 23 ?_ hS ?_
        rotate_left
        · (intro wS hSw; (try dsimp only at hSw); have kr0 := (Mem.row hSw .here).cell; go_simp; (try rw [if_neg (by omega)]); try with_reducible rfl)
        simp only [Act.put, sA]
        refine AtT.tk 4 ?_ 25 ?_ hS ?_
        rotate_left
        · (intro wS hSw; (try dsimp only at hSw); have kr0 := (Mem.row hSw .here).cell; go_simp; (try rw [if_neg (by omega)]); try with_reducible rfl)
        simp only [Act.put, sA]
        refine AtT.tk 8 ?_ 29 ?_ hS ?_
        rotate_left
        · (intro wS hSw; (try dsimp only at hSw); go_simp; (try rw [if_neg (by omega)]); try with_reducible rfl)
        simp only [Act.put, sA]
        refine AtT.tk 9 ?_ 30 ?_ hS ?_
        rotate_left
        · (intro wS hSw; (try dsimp only at hSw); go_simp; (try rw [if_neg (by omega)]); try with_reducible rfl)
        simp only [Act.put, sA]
        refine AtT.tk 10 ?_ 31 ?_ hS ?_
        rotate_left
        · (intro wS hSw; (try dsimp only at hSw); have kr0 := (Mem.row hSw .here).cell; go_simp; (try rw [if_neg (by omega)]); try with_reducible rfl)
        simp only [Act.put, sA]
        refine AtT.only (i := 3) (by kernel_rfl) rfl rfl ?_
        intro K hK
        go_simp
        refine (l17Own_any (some ⟨b, off, none⟩) j c (xs.take j) _ ((h.takeN (k := j) (by omega)).ext hM.below) (by omega)).mono ?_
        rintro e w3 ⟨g1, c1, ys1, hc1, rfl, hm⟩
        replace hM := hM.join hm
        have HC1 := Lib.hid hc1
        clear hm hc1
        dsimp only [List.cons_append, List.nil_append] at hM
        try dsimp only
        refine hK.out _ _ (hM.tail.tail) ?_
        clear hK K hS
        have hS := hM.tail.tail
        refine AtT.only (i := 5) (by kernel_rfl) rfl rfl ?_
        intro K hK
        go_simp
        refine (l17One_any x _ (HX.out.ext hM.below)).mono ?_
        rintro e w4 ⟨a2, c2, rfl, hm⟩
        replace hM := hM.join hm
        clear hm
        dsimp only [List.cons_append, List.nil_append] at hM
        try dsimp only
        refine hK.out _ _ (hM.tail.tail.tail) ?_
        clear hK K hS
        have hS := hM.tail.tail.tail
        refine AtT.only (i := 6) (by kernel_rfl) rfl rfl ?_
        intro K hK
        go_simp
        refine hK.out _ _ (by apply Mem.tail; apply Mem.tail; apply Mem.tail; apply Mem.tail; (exact memA)) ?_
        clear hK K hS
        have hMp := hM
        apply Mem.atT
        · exact memA
        clear hM
        intro hM
        (try simp only [World.size_alloc, World.size_setCell, World.heap_drewN, heapDrew, Nat.add_assoc, Nat.reduceAdd, sA, List.cons_append, List.nil_append] at hM)
        have hS := hM.tail.tail.tail.tail
        refine AtT.only (i := 7) (by kernel_rfl) rfl rfl ?_
        intro K hK
        refine step_appRM (F := FNote) hM (fun _ => (.there (.there .here))) (hM.oneRec (⟨x.un, x.sq, a2, x.n, c2, x.cl, x.wd⟩ : NoteI) .here rfl HW.out (by decide)) (by show (j + 1) * 4 ≤ _; omega) i0 (.agg #[.int .i64 0, .int .i64 0, .slice none 0 0, .string ⟨#[]⟩]) 56 hi hz0 hz1 hz2 rfl (by omega) rfl _ _ _ Tryz.underlying24 rfl rfl rfl ?_
        clear hM
        intro a6 c6 w6 hM
        try dsimp only
        refine hK.out _ _ (hM.tail.tail.tail.tail) ?_
        clear hK K hS
        have hS := hM.tail.tail.tail.tail
        refine AtT.only (i := 11) (by kernel_rfl) rfl rfl ?_
        intro K hK
        go_simp
        refine (l17Own_any (some ⟨b, off + j * 4, none⟩) (n - j) (c - j) (xs.drop j) _ ((h.dropN (k := j) (by omega)).ext hM.below) (by omega)).mono ?_
        rintro e w5 ⟨g3, c3, ys3, hc3, rfl, hm⟩
        replace hM := hM.join hm
        have HC3 := Lib.hid hc3
        clear hm hc3
        dsimp only [List.cons_append, List.nil_append] at hM
        try dsimp only
        refine hK.out _ _ (hM.tail.tail.tail.tail.tail.tail) ?_
        clear hK K hS
        have hS := hM.tail.tail.tail.tail.tail.tail
        refine AtT.only (i := 12) (by kernel_rfl) rfl rfl ?_
        intro K hK
        refine step_appRM (F := FNote) hM (fun _ => (.there (.there (.there (.there .here))))) (hM.ow .here).rd (by show (j + 1 + (n - j)) * 4 ≤ _; omega) i0 (.agg #[.int .i64 0, .int .i64 0, .slice none 0 0, .string ⟨#[]⟩]) 56 hi hz0 hz1 hz2 rfl (by omega) rfl _ _ _ Tryz.underlying24 rfl rfl rfl ?_
        clear hM
        intro a7 c7 w7 hM
        rw [show j + 1 + (n - j) = n + 1 by omega] at hM ⊢
        obtain ⟨g7, rfl, -⟩ := (hM.ow (.there (.there (.there (.there .here))))).head (by omega)
        try dsimp only
        refine hK.out _ _ (hM.tail.tail.tail.tail.tail.tail) ?_
        clear hK K hS
        have hS := hM.tail.tail.tail.tail.tail.tail
        refine AtT.last (by kernel_rfl) rfl (by kernel_rfl) ?_
        intro K hK
        clear hS
        go_simp
        refine hK.out _ _ ?_
        clear hK K
        have hM9 := Lib.hid (Mem.clkJoin (Mem.clkPush (y := (⟨x.un, x.sq, a2, x.n, c2, x.cl, x.wd⟩ : NoteI)) (Mem.pick (is := [4, 5, 3, 1]) hM (by decide) rfl)))
        have HZ := Lib.hid (show coreN (ys1 ++ [(⟨x.un, x.sq, a2, x.n, c2, x.cl, x.wd⟩ : NoteI)] ++ ys3) = (coreN xs).take j ++ [x.core] ++ (coreN xs).drop j by have e1 := HC1.out; have e3 := HC3.out; unfold coreN at e1 e3 ⊢; rw [List.map_append, List.map_append, e1, e3, List.map_take, List.map_drop]; rfl)
        clear hM
        go_wp2
        go_ret
        first | exact ⟨g7, c7, _, HZ.out, rfl, hM9.out⟩ | exact ⟨g7, c7, _, HZ.out.trans (by simp), rfl, hM9.out⟩
    · obtain rfl : j = n := by omega
      obtain rfl : p = j := by omega
      have i0' : (0 : Int) ≤ (p : Int) := by omega
      go_upto_region 2 with fail
      apply Mem.atWpA
      · exact memA
      clear hM
      intro wst hM
      (try simp only [World.size_alloc, World.size_setCell, World.heap_drewN, heapDrew, Nat.add_assoc, Nat.reduceAdd, sA, List.cons_append, List.nil_append] at hM)
      refine AtT.startA hM hM 12 (by kernel_rfl) ?_
      clear hM
      intro wd hM
      have hS := hM
      refine AtT.tk 0 ?_ 6 ?_ hS ?_
      rotate_left
      · (intro wS hSw; (try dsimp only at hSw); go_simp; (try rw [if_neg (by omega)]); try with_reducible rfl)
      simp only [Act.put, sA]
      refine AtT.tk 1 ?_ 7 ?_ hS ?_
      rotate_left
      · (intro wS hSw; (try dsimp only at hSw); go_simp; (try rw [if_neg (by omega)]); try with_reducible rfl)
      simp only [Act.put, sA]
      refine AtT.tk 2 ?_ 8 ?_ hS ?_
      rotate_left
      · (intro wS hSw; (try dsimp only at hSw); go_simp; (try rw [if_neg (by omega)]); try with_reducible rfl)
      simp only [Act.put, sA]
      refine AtT.tk 3 ?_ 9 ?_ hS ?_
      rotate_left
      · (intro wS hSw; (try dsimp only at hSw); go_simp; (try rw [if_neg (by omega)]); try with_reducible rfl)
      simp only [Act.put, sA]
      refine AtT.tk 4 ?_ 10 ?_ hS ?_
      rotate_left
      · (intro wS hSw; (try dsimp only at hSw); go_simp; (try rw [if_neg (by omega)]); try with_reducible rfl)
      simp only [Act.put, sA]
      refine AtT.tn 5 11 hS ?_
      simp only [Act.put, sA]
      refine AtT.tn 6 12 hS ?_
      simp only [Act.put, sA]
      refine AtT.tn 7 13 hS ?_
      simp only [Act.put, sA]
      refine AtT.tn 8 14 hS ?_
      simp only [Act.put, sA]
      refine AtT.tn 9 15 hS ?_
      simp only [Act.put, sA]
      refine AtT.tn 10 16 hS ?_
      simp only [Act.put, sA]
      refine AtT.tn 11 17 hS ?_
      simp only [Act.put, sA]
      refine AtT.last (by kernel_rfl) rfl (by kernel_rfl) ?_
      intro K hK
      clear hS
      go_simp
      refine hK.out _ _ ?_
      clear hK K
      by_cases hcc : p = c
      · have j3 : (p : Int) ≤ (c : Int) := by omega
        have hck : c = p := hcc.symm
        subst hck
        go_upto_region 4 with fail
        apply Mem.atWpA
        · exact memA
        clear hM
        intro wst hM
        (try simp only [World.size_alloc, World.size_setCell, World.heap_drewN, heapDrew, Nat.add_assoc, Nat.reduceAdd, sA, List.cons_append, List.nil_append] at hM)
        refine AtT.startA hM hM 13 (by kernel_rfl) ?_
        clear hM
        intro wd hM
        have hS := hM
        refine AtT.tk 0 ?_ 21 ?_ hS ?_
        rotate_left
        · (intro wS hSw; (try dsimp only at hSw); go_simp; (try rw [if_neg (by omega)]); try with_reducible rfl)
        simp only [Act.put, sA]
        refine AtT.tk 1 ?_ 22 ?_ hS ?_
        rotate_left
        · (intro wS hSw; (try dsimp only at hSw); go_simp; (try rw [if_neg (by omega)]); try with_reducible rfl)
        simp only [Act.put, sA]
        refine AtT.tk 2 ?_ 23 ?_ hS ?_
        rotate_left
        · (intro wS hSw; (try dsimp only at hSw); have kr0 := (Mem.row hSw .here).cell; go_simp; (try rw [if_neg (by omega)]); try with_reducible rfl)
        simp only [Act.put, sA]
        refine AtT.tk 4 ?_ 25 ?_ hS ?_
        rotate_left
        · (intro wS hSw; (try dsimp only at hSw); have kr0 := (Mem.row hSw .here).cell; go_simp; (try rw [if_neg (by omega)]); try with_reducible rfl)
        simp only [Act.put, sA]
        refine AtT.tk 8 ?_ 29 ?_ hS ?_
        rotate_left
        · (intro wS hSw; (try dsimp only at hSw); go_simp; (try rw [if_neg (by omega)]); try with_reducible rfl)
        simp only [Act.put, sA]
        refine AtT.tk 9 ?_ 30 ?_ hS ?_
        rotate_left
        · (intro wS hSw; (try dsimp only at hSw); go_simp; (try rw [if_neg (by omega)]); try with_reducible rfl)
        simp only [Act.put, sA]
        refine AtT.tk 10 ?_ 31 ?_ hS ?_
        rotate_left
        · (intro wS hSw; (try dsimp only at hSw); have kr0 := (Mem.row hSw .here).cell; go_simp; (try rw [if_neg (by omega)]); try with_reducible rfl)
        simp only [Act.put, sA]
        refine AtT.only (i := 3) (by kernel_rfl) rfl rfl ?_
        intro K hK
        go_simp
        refine (l17Own_any (some ⟨b, off, none⟩) c c (xs.take c) _ ((h.takeN (k := c) (by omega)).ext hM.below) (by omega)).mono ?_
        rintro e w3 ⟨g1, c1, ys1, hc1, rfl, hm⟩
        replace hM := hM.join hm
        have HC1 := Lib.hid hc1
        clear hm hc1
        dsimp only [List.cons_append, List.nil_append] at hM
        try dsimp only
        refine hK.out _ _ (hM.tail.tail) ?_
        clear hK K hS
        have hS := hM.tail.tail
        refine AtT.only (i := 5) (by kernel_rfl) rfl rfl ?_
        intro K hK
        go_simp
        refine (l17One_any x _ (HX.out.ext hM.below)).mono ?_
        rintro e w4 ⟨a2, c2, rfl, hm⟩
        replace hM := hM.join hm
        clear hm
        dsimp only [List.cons_append, List.nil_append] at hM
        try dsimp only
        refine hK.out _ _ (hM.tail.tail.tail) ?_
        clear hK K hS
        have hS := hM.tail.tail.tail
        refine AtT.only (i := 6) (by kernel_rfl) rfl rfl ?_
        intro K hK
        go_simp
        refine hK.out _ _ (by apply Mem.tail; apply Mem.tail; apply Mem.tail; apply Mem.tail; (exact memA)) ?_
        clear hK K hS
        have hMp := hM
        apply Mem.atT
        · exact memA
        clear hM
        intro hM
        (try simp only [World.size_alloc, World.size_setCell, World.heap_drewN, heapDrew, Nat.add_assoc, Nat.reduceAdd, sA, List.cons_append, List.nil_append] at hM)
        have hS := hM.tail.tail.tail.tail
        refine AtT.only (i := 7) (by kernel_rfl) rfl rfl ?_
        intro K hK
        refine step_appRM (F := FNote) hM (fun _ => (.there (.there .here))) (hM.oneRec (⟨x.un, x.sq, a2, x.n, c2, x.cl, x.wd⟩ : NoteI) .here rfl HW.out (by decide)) (by show (c + 1) * 4 ≤ _; omega) i0 (.agg #[.int .i64 0, .int .i64 0, .slice none 0 0, .string ⟨#[]⟩]) 56 hi hz0 hz1 hz2 rfl (by omega) rfl _ _ _ Tryz.underlying24 rfl rfl rfl ?_
        clear hM
        intro a6 c6 w6 hM
        try dsimp only
        refine hK.out _ _ (hM.tail.tail.tail.tail) ?_
        clear hK K hS
        have hS := hM.tail.tail.tail.tail
        refine AtT.only (i := 11) (by kernel_rfl) rfl rfl ?_
        intro K hK
        go_simp
        refine (l17Own_any (some ⟨b, off, none⟩) 0 0 (xs.drop c) _ ((show RdN _ (some ⟨b, off, none⟩) 0 0 (xs.drop c) by rw [List.drop_of_length_le (by rw [HL.out]; exact Nat.le_refl _)]; exact RdN.noneN (by unfold maxLen; omega) (by simp)).ext hM.below) (by omega)).mono ?_
        rintro e w5 ⟨g3, c3, ys3, hc3, rfl, hm⟩
        replace hM := hM.join hm
        have HC3 := Lib.hid hc3
        clear hm hc3
        dsimp only [List.cons_append, List.nil_append] at hM
        try dsimp only
        refine hK.out _ _ (hM.tail.tail.tail.tail.tail.tail) ?_
        clear hK K hS
        have hS := hM.tail.tail.tail.tail.tail.tail
        refine AtT.only (i := 12) (by kernel_rfl) rfl rfl ?_
        intro K hK
        refine step_appRM (F := FNote) hM (fun _ => (.there (.there (.there (.there .here))))) (hM.ow .here).rd (by show (c + 1 + 0) * 4 ≤ _; omega) i0 (.agg #[.int .i64 0, .int .i64 0, .slice none 0 0, .string ⟨#[]⟩]) 56 hi hz0 hz1 hz2 rfl (by omega) rfl _ _ _ Tryz.underlying24 rfl rfl rfl ?_
        clear hM
        intro a7 c7 w7 hM
        rw [show c + 1 + 0 = c + 1 by omega] at hM ⊢
        obtain ⟨g7, rfl, -⟩ := (hM.ow (.there (.there (.there (.there .here))))).head (by omega)
        try dsimp only
        refine hK.out _ _ (hM.tail.tail.tail.tail.tail.tail) ?_
        clear hK K hS
        have hS := hM.tail.tail.tail.tail.tail.tail
        refine AtT.last (by kernel_rfl) rfl (by kernel_rfl) ?_
        intro K hK
        clear hS
        go_simp
        refine hK.out _ _ ?_
        clear hK K
        have hM9 := Lib.hid (Mem.clkJoin (Mem.clkPush (y := (⟨x.un, x.sq, a2, x.n, c2, x.cl, x.wd⟩ : NoteI)) (Mem.pick (is := [4, 5, 3, 1]) hM (by decide) rfl)))
        have HZ := Lib.hid (show coreN (ys1 ++ [(⟨x.un, x.sq, a2, x.n, c2, x.cl, x.wd⟩ : NoteI)] ++ ys3) = (coreN xs).take c ++ [x.core] ++ (coreN xs).drop c by have e1 := HC1.out; have e3 := HC3.out; unfold coreN at e1 e3 ⊢; rw [List.map_append, List.map_append, e1, e3, List.map_take, List.map_drop]; rfl)
        clear hM
        go_wp2
        go_ret
        first | exact ⟨g7, c7, _, HZ.out, rfl, hM9.out⟩ | exact ⟨g7, c7, _, HZ.out.trans (by simp), rfl, hM9.out⟩
      · have hkc : p < c := by omega
        have hck : ¬ c = p := by omega
        have j3 : (p : Int) ≤ (c : Int) := by omega
        go_upto_region 4 with fail
        apply Mem.atWpA
        · exact memA
        clear hM
        intro wst hM
        (try simp only [World.size_alloc, World.size_setCell, World.heap_drewN, heapDrew, Nat.add_assoc, Nat.reduceAdd, sA, List.cons_append, List.nil_append] at hM)
        refine AtT.startA hM hM 13 (by kernel_rfl) ?_
        clear hM
        intro wd hM
        have hS := hM
        refine AtT.tk 0 ?_ 21 ?_ hS ?_
        rotate_left
        · (intro wS hSw; (try dsimp only at hSw); go_simp; (try rw [if_neg (by omega)]); try with_reducible rfl)
        simp only [Act.put, sA]
        refine AtT.tk 1 ?_ 22 ?_ hS ?_
        rotate_left
        · (intro wS hSw; (try dsimp only at hSw); go_simp; (try rw [if_neg (by omega)]); try with_reducible rfl)
        simp only [Act.put, sA]
        refine AtT.tk 2 ?_ 23 ?_ hS ?_
        rotate_left
        · (intro wS hSw; (try dsimp only at hSw); have kr0 := (Mem.row hSw .here).cell; go_simp; (try rw [if_neg (by omega)]); try with_reducible rfl)
        simp only [Act.put, sA]
        refine AtT.tk 4 ?_ 25 ?_ hS ?_
        rotate_left
        · (intro wS hSw; (try dsimp only at hSw); have kr0 := (Mem.row hSw .here).cell; go_simp; (try rw [if_neg (by omega)]); try with_reducible rfl)
        simp only [Act.put, sA]
        refine AtT.tk 8 ?_ 29 ?_ hS ?_
        rotate_left
        · (intro wS hSw; (try dsimp only at hSw); go_simp; (try rw [if_neg (by omega)]); try with_reducible rfl)
        simp only [Act.put, sA]
        refine AtT.tk 9 ?_ 30 ?_ hS ?_
        rotate_left
        · (intro wS hSw; (try dsimp only at hSw); go_simp; (try rw [if_neg (by omega)]); try with_reducible rfl)
        simp only [Act.put, sA]
        refine AtT.tk 10 ?_ 31 ?_ hS ?_
        rotate_left
        · (intro wS hSw; (try dsimp only at hSw); have kr0 := (Mem.row hSw .here).cell; go_simp; (try rw [if_neg (by omega)]); try with_reducible rfl)
        simp only [Act.put, sA]
        refine AtT.only (i := 3) (by kernel_rfl) rfl rfl ?_
        intro K hK
        go_simp
        refine (l17Own_any (some ⟨b, off, none⟩) p c (xs.take p) _ ((h.takeN (k := p) (by omega)).ext hM.below) (by omega)).mono ?_
        rintro e w3 ⟨g1, c1, ys1, hc1, rfl, hm⟩
        replace hM := hM.join hm
        have HC1 := Lib.hid hc1
        clear hm hc1
        dsimp only [List.cons_append, List.nil_append] at hM
        try dsimp only
        refine hK.out _ _ (hM.tail.tail) ?_
        clear hK K hS
        have hS := hM.tail.tail
        refine AtT.only (i := 5) (by kernel_rfl) rfl rfl ?_
        intro K hK
        go_simp
        refine (l17One_any x _ (HX.out.ext hM.below)).mono ?_
        rintro e w4 ⟨a2, c2, rfl, hm⟩
        replace hM := hM.join hm
        clear hm
        dsimp only [List.cons_append, List.nil_append] at hM
        try dsimp only
        refine hK.out _ _ (hM.tail.tail.tail) ?_
        clear hK K hS
        have hS := hM.tail.tail.tail
        refine AtT.only (i := 6) (by kernel_rfl) rfl rfl ?_
        intro K hK
        go_simp
        refine hK.out _ _ (by apply Mem.tail; apply Mem.tail; apply Mem.tail; apply Mem.tail; (exact memA)) ?_
        clear hK K hS
        have hMp := hM
        apply Mem.atT
        · exact memA
        clear hM
        intro hM
        (try simp only [World.size_alloc, World.size_setCell, World.heap_drewN, heapDrew, Nat.add_assoc, Nat.reduceAdd, sA, List.cons_append, List.nil_append] at hM)
        have hS := hM.tail.tail.tail.tail
        refine AtT.only (i := 7) (by kernel_rfl) rfl rfl ?_
        intro K hK
        refine step_appRM (F := FNote) hM (fun _ => (.there (.there .here))) (hM.oneRec (⟨x.un, x.sq, a2, x.n, c2, x.cl, x.wd⟩ : NoteI) .here rfl HW.out (by decide)) (by show (p + 1) * 4 ≤ _; omega) i0 (.agg #[.int .i64 0, .int .i64 0, .slice none 0 0, .string ⟨#[]⟩]) 56 hi hz0 hz1 hz2 rfl (by omega) rfl _ _ _ Tryz.underlying24 rfl rfl rfl ?_
        clear hM
        intro a6 c6 w6 hM
        try dsimp only
        refine hK.out _ _ (hM.tail.tail.tail.tail) ?_
        clear hK K hS
        have hS := hM.tail.tail.tail.tail
        refine AtT.only (i := 11) (by kernel_rfl) rfl rfl ?_
        intro K hK
        go_simp
        refine (l17Own_any (some ⟨b, off + p * 4, none⟩) 0 (c - p) (xs.drop p) _ ((show RdN _ (some ⟨b, off + p * 4, none⟩) 0 (c - p) (xs.drop p) by have h9 := h.dropN (k := p) (Nat.le_refl _); rw [Nat.sub_self] at h9; exact h9).ext hM.below) (by omega)).mono ?_
        rintro e w5 ⟨g3, c3, ys3, hc3, rfl, hm⟩
        replace hM := hM.join hm
        have HC3 := Lib.hid hc3
        clear hm hc3
        dsimp only [List.cons_append, List.nil_append] at hM
        try dsimp only
        refine hK.out _ _ (hM.tail.tail.tail.tail.tail.tail) ?_
        clear hK K hS
        have hS := hM.tail.tail.tail.tail.tail.tail
        refine AtT.only (i := 12) (by kernel_rfl) rfl rfl ?_
        intro K hK
        refine step_appRM (F := FNote) hM (fun _ => (.there (.there (.there (.there .here))))) (hM.ow .here).rd (by show (p + 1 + 0) * 4 ≤ _; omega) i0 (.agg #[.int .i64 0, .int .i64 0, .slice none 0 0, .string ⟨#[]⟩]) 56 hi hz0 hz1 hz2 rfl (by omega) rfl _ _ _ Tryz.underlying24 rfl rfl rfl ?_
        clear hM
        intro a7 c7 w7 hM
        rw [show p + 1 + 0 = p + 1 by omega] at hM ⊢
        obtain ⟨g7, rfl, -⟩ := (hM.ow (.there (.there (.there (.there .here))))).head (by omega)
        try dsimp only
        refine hK.out _ _ (hM.tail.tail.tail.tail.tail.tail) ?_
        clear hK K hS
        have hS := hM.tail.tail.tail.tail.tail.tail
        refine AtT.last (by kernel_rfl) rfl (by kernel_rfl) ?_
        intro K hK
        clear hS
        go_simp
        refine hK.out _ _ ?_
        clear hK K
        have hM9 := Lib.hid (Mem.clkJoin (Mem.clkPush (y := (⟨x.un, x.sq, a2, x.n, c2, x.cl, x.wd⟩ : NoteI)) (Mem.pick (is := [4, 5, 3, 1]) hM (by decide) rfl)))
        have HZ := Lib.hid (show coreN (ys1 ++ [(⟨x.un, x.sq, a2, x.n, c2, x.cl, x.wd⟩ : NoteI)] ++ ys3) = (coreN xs).take p ++ [x.core] ++ (coreN xs).drop p by have e1 := HC1.out; have e3 := HC3.out; unfold coreN at e1 e3 ⊢; rw [List.map_append, List.map_append, e1, e3, List.map_take, List.map_drop]; rfl)
        clear hM
        go_wp2
        go_ret
        first | exact ⟨g7, c7, _, HZ.out, rfl, hM9.out⟩ | exact ⟨g7, c7, _, HZ.out.trans (by simp), rfl, hM9.out⟩
end Go.Proofs.YtjnbdgldpmmamaaGreat
