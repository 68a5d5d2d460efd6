/-
  The reference's draws of the law on notes: two notebooks, two notes.
-/
import Derived.Test.YtjnbdgldpmmamaaGreatUNbkW
/-
  The reference's draws of the law on notes: two notebooks, two notes.
-/
namespace Go.Proofs.YtjnbdgldpmmamaaGreat
set_option linter.unusedSimpArgs false
set_option linter.unusedVariables false
open Go.RowKit

set_option maxRecDepth 100000 in
set_option maxHeartbeats 8000000 in
theorem drawMergeN_any {ac : Option Addr} {nc cc : Nat} {l : List UInt8} {w : World} (hC : Rd FByt w ac nc cc l) :
    Calls Tryz.prog 17 #[.slice ac nc cc] w fun e w' => ∃ (u : Int) (b1 o1 n1 c1 : Nat) (xs : List NoteI) (a2 : Option Addr) (n2 c2 : Nat) (zs : List NoteI) (X : List Ent), I64 u ∧ fewK u xs ∧ fewM (coreN zs) [] ∧ (∀ B w, (packE X).hold B w → RdN w (some ⟨b1, o1, none⟩) n1 c1 xs ∧ RdN w a2 n2 c2 zs) ∧ e = .returned (.tuple #[.int .i64 u, .slice (some ⟨b1, o1, none⟩) n1 c1, .slice a2 n2 c2]) ∧ Mem w.heap.size w w' [packE X] := by
  have hM := Mem.start w
  have HC := Lib.hid hC
  clear hC
  go_enter Tryz.func17, Tryz.ntmps17
  go_wp2_with fail
  apply Mem.atA
  · exact memA
  clear hM
  intro wst hM
  (try simp only [World.size_alloc, World.size_setCell, World.heap_drewN, heapDrew, Nat.add_assoc, Nat.reduceAdd, sA, List.cons_append, List.nil_append] at hM)
  (first | refine (notebook_any HC.out hM.curNew .here (by omega)).mono ?_)
  rintro e wc1 ⟨u, b1, o1, n1, c1, xs, a2, n2, c2, zs, X, hok, hrd, rfl, hm⟩
  clear hM
  have hM := hm
  clear hm
  try dsimp only at hM
  have hu : I64 u := by have := hok.1; unfold I64; omega
  have hfe : fewK u xs := hok.2.1
  have HF := Lib.hid hfe
  have HZ := Lib.hid hok.2.2.1
  have HR := Lib.hid hrd
  clear hok hrd hfe
  go_wp2
  go_ret3
  exact ⟨u, b1, o1, n1, c1, xs, a2, n2, c2, zs, X, hu, HF.out, HZ.out, HR.out, rfl, hM.first⟩
theorem Mem.atMet {J : Act → World → Prop} {a : Act} {B : Nat} {w0 w : World} {G : List Ent} (h : Mem B w0 w G) (k : ∀ w, Mem B w0 w G → Met J a w) : Met J a w := k w h
abbrev noteR (b : Nat) (x : NoteI) : Ent := rowE b 40 #[.int .i64 x.un, .int .i64 x.sq, .slice x.ad x.n x.c, .string (bsA x.wd)]
set_option maxRecDepth 100000 in
set_option maxHeartbeats 16000000 in
theorem drawBefN_any {ac : Option Addr} {nc cc : Nat} {l : List UInt8} {w : World} (hC : Rd FByt w ac nc cc l) :
    Calls Tryz.prog 21 #[.slice ac nc cc] w fun e w' => ∃ (u : Int) (x y : NoteI) (X : List Ent), I64 u ∧ FNote.wf x ∧ FNote.wf y ∧ (∀ B w, (packE X).hold B w → Ints w x.ad x.n x.c x.cl ∧ Ints w y.ad y.n y.c y.cl) ∧ e = .returned (.tuple #[.int .i64 u, x.val, y.val]) ∧ Mem w.heap.size w w' [packE X] := by
  have hM := Mem.start w
  have HC := Lib.hid hC
  clear hC
  go_enter Tryz.func21, Tryz.ntmps21
  go_upto_region 1 with fail
  apply Mem.atWpA
  · exact memA
  clear hM
  intro wst hM
  (try simp only [World.size_alloc, World.size_setCell, World.heap_drewN, heapDrew, Nat.add_assoc, Nat.reduceAdd, sA, List.cons_append, List.nil_append] at hM)
  obtain ⟨gc, hgc⟩ : ∃ g, wst.heap.size = g := ⟨_, rfl⟩
  have HGC := Lib.hid hgc
  clear hgc
  go_wp2_with fail
  apply Mem.atA
  · exact memA
  clear hM
  intro wst hM
  (try simp only [World.size_alloc, World.size_setCell, World.heap_drewN, heapDrew, Nat.add_assoc, Nat.reduceAdd, sA, List.cons_append, List.nil_append] at hM)
  (first | refine (notebook_any HC.out hM.curNew .here (by omega)).mono ?_)
  rintro e wb ⟨u, b1, o1, n1, c1, xs, a2, n2, c2, zs, X, hok, hrd, rfl, hm⟩
  clear hM
  have hM := hm
  clear hm
  try dsimp only at hM
  rw [HGC.out] at hM ⊢
  clear HGC
  have hu : I64 u := by have := hok.1; unfold I64; omega
  have hl1 := hok.2.2.2.1
  have hl2 := hok.2.2.2.2
  have hn1 : xs.length = n1 := (hrd _ _ (hM.ents _ In.here.mem)).1.rd.len
  have hn2 : zs.length = n2 := (hrd _ _ (hM.ents _ In.here.mem)).2.rd.len
  have HR := Lib.hid hrd
  have HN1 := Lib.hid hn1; have HN2 := Lib.hid hn2
  have hn12 : n1 ≤ 12 := by omega
  have hn22 : n2 ≤ 12 := by omega
  clear hok hrd hn1 hn2 hl1 hl2
  go_upto_region 4 with fail
  apply Mem.atWpA
  · exact memA
  clear hM
  intro wst hM
  (try simp only [World.size_alloc, World.size_setCell, World.heap_drewN, heapDrew, Nat.add_assoc, Nat.reduceAdd, sA, List.cons_append, List.nil_append] at hM)
  generalize wb.heap.size = q1 at hM ⊢
  go_wp2_with fail
  apply Mem.atA
  · exact memA
  clear hM
  intro wst hM
  (try simp only [World.size_alloc, World.size_setCell, World.heap_drewN, heapDrew, Nat.add_assoc, Nat.reduceAdd, sA, List.cons_append, List.nil_append] at hM)
  (first | refine (pick_any 2 HC.out hM (.there (.there (.there .here))) (by omega)).mono ?_)
  rintro e wp ⟨r, hr, hr2, rfl, hm⟩
  clear hM
  have hM := hm
  clear hm
  try dsimp only at hM
  have hr3 := pick_lt hr (by omega)
  clear hr hr2
  go_upto_if 28 with fail
  apply Mem.atWpA
  · exact memA
  clear hM
  intro wst hM
  (try simp only [World.size_alloc, World.size_setCell, World.heap_drewN, heapDrew, Nat.add_assoc, Nat.reduceAdd, sA, List.cons_append, List.nil_append] at hM)
  generalize wp.heap.size = q2 at hM ⊢
  replace hM := hM.toInts (xs := [(r : Int), 1]) (.there .here) rfl (by intro x hx; simp at hx; unfold I64; omega) (by simp)
  replace hM := hM.toInts (xs := [(1 : Int), 0]) (.there (.there (.there .here))) rfl (by intro x hx; simp at hx; unfold I64; omega) (by simp)
  replace hM := hM.pick (is := [0, 2, 1, 3, 4, 5, 6, 7]) (by decide) rfl
  dsimp only [List.filterMap_cons, List.filterMap_nil, List.getElem?_cons_zero, List.getElem?_cons_succ] at hM
  obtain ⟨Y, hY⟩ : ∃ Y, [intE (some ⟨q2, 0, none⟩) 2 2 [(r : Int), 1], intE (some ⟨q1, 0, none⟩) 2 2 [(1 : Int), 0], packE X] = Y := ⟨_, rfl⟩
  replace hM := Mem.packAt (X := [noteR (q2 + 1) ⟨1, 1, some ⟨q2, 0, none⟩, 2, 2, [(r : Int), 1], [98]⟩, noteR (q1 + 1) ⟨0, 1, some ⟨q1, 0, none⟩, 2, 2, [1, 0], [97]⟩]) (G := [intE (some ⟨q2, 0, none⟩) 2 2 [(r : Int), 1], intE (some ⟨q1, 0, none⟩) 2 2 [(1 : Int), 0], packE X]) hM
  rw [hY] at hM
  have HRY := Lib.hid (fun (B : Nat) (w : World) (h : (packE Y).hold B w) => HR.out B w (h.1 _ (by rw [← hY]; exact List.mem_cons_of_mem _ (List.mem_cons_of_mem _ (List.mem_cons_self ..)))))
  have HY0 := Lib.hid (fun (B : Nat) (w : World) (h : (packE Y).hold B w) => (Own.ints (h.1 (intE (some ⟨q2, 0, none⟩) 2 2 [(r : Int), 1]) (by rw [← hY]; exact List.mem_cons_self ..)) : Ints w (some ⟨q2, 0, none⟩) 2 2 [(r : Int), 1]))
  have HX0 := Lib.hid (fun (B : Nat) (w : World) (h : (packE Y).hold B w) => (Own.ints (h.1 (intE (some ⟨q1, 0, none⟩) 2 2 [(1 : Int), 0]) (by rw [← hY]; exact List.mem_cons_of_mem _ (List.mem_cons_self ..))) : Ints w (some ⟨q1, 0, none⟩) 2 2 [(1 : Int), 0]))
  clear hY HR
  dsimp only [List.cons_append, List.nil_append] at hM
  go_cut [] (fun wx => ∃ x : NoteI, FNote.wf x ∧ Hid (∀ (B : Nat) (w : World), (packE Y).hold B w → Ints w x.ad x.n x.c x.cl) ∧ Mem w.heap.size w wx [noteR (q1 + 1) x, noteR (q2 + 1) ⟨1, 1, some ⟨q2, 0, none⟩, 2, 2, [(r : Int), 1], [98]⟩, packE Y, curE gc ac nc cc 204, noteR (w.heap.size + 1) NoteI.zero, noteR w.heap.size NoteI.zero])
  case first =>
    by_cases h0 : n1 = 0
    · subst h0
      go_wp2_with fail
      go_meet
      exact ⟨⟨0, 1, some ⟨q1, 0, none⟩, 2, 2, [1, 0], [97]⟩, ⟨by show I64 0; unfold I64; omega, by show I64 1; unfold I64; omega, by show (1 : Nat) ≤ maxLen; unfold maxLen; omega⟩, HX0, (hM.swap).curMore (.there (.there (.there .here))) (by omega)⟩
    · skip
      go_wp2_with fail
      apply Mem.atA
      · exact memA
      clear hM
      intro wst hM
      (try simp only [World.size_alloc, World.size_setCell, World.heap_drewN, heapDrew, Nat.add_assoc, Nat.reduceAdd, sA, List.cons_append, List.nil_append] at hM)
      (first | refine (pick_any (n1 : Int) HC.out hM (.there (.there (.there .here))) (by omega)).mono ?_)
      rintro e wc4 ⟨t, ht, ht2, rfl, hm⟩
      clear hM
      have hM := hm
      clear hm
      try dsimp only at hM
      have ht3 := pick_lt ht (by omega)
      clear ht ht2
      have htn : t < n1 := by omega
      have hcl := ((HRY.out _ _ (hM.ents _ (In.there (.there .here)).mem)).1.rd.cellNote htn).2
      have hwf := (HRY.out _ _ (hM.ents _ (In.there (.there .here)).mem)).1.rd.wf _ (getD_memO (d := NoteI.zero) (xs := xs) (k := t) (by rw [HN1.out]; exact htn))
      have hin := fun (B : Nat) (w : World) (h : (packE Y).hold B w) => (HRY.out B w h).1.get htn
      obtain ⟨x, hx⟩ : ∃ x, xs.getD t NoteI.zero = x := ⟨_, rfl⟩
      simp only [hx] at hcl hwf hin
      clear hx
      have HWF := Lib.hid hwf; have HIN := Lib.hid hin
      clear hwf hin
      obtain ⟨xu, xq, xa, xn, xc, xl, xw⟩ := x
      obtain ⟨x0, x1, x2, x3⟩ := hcl
      dsimp only at x0 x1 x2 x3
      have t0 : (0 : Int) ≤ (t : Int) := by omega
      obtain ⟨k1, f1, l1⟩ := hM.row (.there .here)
      go_wp2_with fail
      apply Mem.atMet
      · exact memA
      clear hM
      intro wst hM
      (try simp only [World.size_alloc, World.size_setCell, World.heap_drewN, heapDrew, Nat.add_assoc, Nat.reduceAdd, sA, List.cons_append, List.nil_append] at hM)
      go_meet
      exact ⟨⟨xu, xq, xa, xn, xc, xl, xw⟩, HWF.out, HIN, hM.swap⟩
  case rest =>
    clear hM
    obtain ⟨x, hwx, HIX, hM⟩ := hcut
    have HWX := Lib.hid hwx
    clear hwx
    obtain ⟨xu, xq, xa, xn, xc, xl, xw⟩ := x
    go_upto_if 38 with fail
    go_cut [] (fun wx => ∃ x : NoteI, FNote.wf x ∧ Hid (∀ (B : Nat) (w : World), (packE Y).hold B w → Ints w x.ad x.n x.c x.cl) ∧ Mem w.heap.size w wx [noteR (q2 + 1) x, noteR (q1 + 1) ⟨xu, xq, xa, xn, xc, xl, xw⟩, packE Y, curE gc ac nc cc 206, noteR (w.heap.size + 1) NoteI.zero, noteR w.heap.size NoteI.zero])
    case first =>
      by_cases h0 : n2 = 0
      · subst h0
        go_wp2_with fail
        go_meet
        exact ⟨⟨1, 1, some ⟨q2, 0, none⟩, 2, 2, [(r : Int), 1], [98]⟩, ⟨by show I64 1; unfold I64; omega, by show I64 1; unfold I64; omega, by show (1 : Nat) ≤ maxLen; unfold maxLen; omega⟩, HY0, (hM.swap).curMore (.there (.there (.there .here))) (by omega)⟩
      · skip
        go_wp2_with fail
        apply Mem.atA
        · exact memA
        clear hM
        intro wst hM
        (try simp only [World.size_alloc, World.size_setCell, World.heap_drewN, heapDrew, Nat.add_assoc, Nat.reduceAdd, sA, List.cons_append, List.nil_append] at hM)
        (first | refine (pick_any (n2 : Int) HC.out hM (.there (.there (.there .here))) (by omega)).mono ?_)
        rintro e wc5 ⟨t, ht, ht2, rfl, hm⟩
        clear hM
        have hM := hm
        clear hm
        try dsimp only at hM
        have ht3 := pick_lt ht (by omega)
        clear ht ht2
        have htn : t < n2 := by omega
        obtain ⟨b2, o2, rfl, -, -⟩ := (HRY.out _ _ (hM.ents _ (In.there (.there .here)).mem)).2.rd.at' _ htn
        have hcl := ((HRY.out _ _ (hM.ents _ (In.there (.there .here)).mem)).2.rd.cellNote htn).2
        have hwf := (HRY.out _ _ (hM.ents _ (In.there (.there .here)).mem)).2.rd.wf _ (getD_memO (d := NoteI.zero) (xs := zs) (k := t) (by rw [HN2.out]; exact htn))
        have hin := fun (B : Nat) (w : World) (h : (packE Y).hold B w) => (HRY.out B w h).2.get htn
        obtain ⟨x, hx⟩ : ∃ x, zs.getD t NoteI.zero = x := ⟨_, rfl⟩
        simp only [hx] at hcl hwf hin
        clear hx
        have HWF := Lib.hid hwf; have HIN := Lib.hid hin
        clear hwf hin
        obtain ⟨yu, yq, ya, yn, yc, yl, yw⟩ := x
        obtain ⟨x0, x1, x2, x3⟩ := hcl
        dsimp only at x0 x1 x2 x3
        have t0 : (0 : Int) ≤ (t : Int) := by omega
        obtain ⟨k1, f1, l1⟩ := hM.row (.there .here)
        go_wp2_with fail
        apply Mem.atMet
        · exact memA
        clear hM
        intro wst hM
        (try simp only [World.size_alloc, World.size_setCell, World.heap_drewN, heapDrew, Nat.add_assoc, Nat.reduceAdd, sA, List.cons_append, List.nil_append] at hM)
        go_meet
        exact ⟨⟨yu, yq, ya, yn, yc, yl, yw⟩, HWF.out, HIN, hM.swap⟩
    case rest =>
      clear hM
      obtain ⟨y, hwy, HIY, hM⟩ := hcut
      have HWY := Lib.hid hwy
      clear hwy
      obtain ⟨yu, yq, ya, yn, yc, yl, yw⟩ := y
      replace hM := hM.pick (is := [4, 5, 0, 1, 2]) (by decide) rfl
      dsimp only [List.filterMap_cons, List.filterMap_nil, List.getElem?_cons_zero, List.getElem?_cons_succ, NoteI.zero] at hM
      go_upto_region 9 with fail
      apply Mem.atWpA
      · exact memA
      clear hM
      intro wst hM
      (try simp only [World.size_alloc, World.size_setCell, World.heap_drewN, heapDrew, Nat.add_assoc, Nat.reduceAdd, sA, List.cons_append, List.nil_append] at hM)
      refine AtT.startA hM.tail.tail hM 5 (by kernel_rfl) ?_
      clear hM
      intro wd hM
      have hS := hM.tail.tail
      refine AtT.tk 0 ?_ 46 ?_ hS ?_
      rotate_left
      · (intro wS hSw; (try dsimp only at hSw); go_simp; (try rw [if_neg (by omega)]); try with_reducible rfl)
      simp only [Act.put, sA]
      refine AtT.tk 1 ?_ 47 ?_ hS ?_
      rotate_left
      · (intro wS hSw; (try dsimp only at hSw); have kr0 := (Mem.row hSw .here).cell; have kr1 := (Mem.row hSw (.there .here)).cell; go_simp; (try rw [if_neg (by omega)]); try with_reducible rfl)
      simp only [Act.put, sA]
      refine AtT.tk 2 ?_ 48 ?_ hS ?_
      rotate_left
      · (intro wS hSw; (try dsimp only at hSw); have kr0 := (Mem.row hSw .here).cell; have kr1 := (Mem.row hSw (.there .here)).cell; go_simp; (try rw [if_neg (by omega)]); try with_reducible rfl)
      simp only [Act.put, sA]
      refine AtT.tk 3 ?_ 2 ?_ hS ?_
      rotate_left
      · (intro wS hSw; (try dsimp only at hSw); go_simp; (try rw [if_neg (by omega)]); try with_reducible rfl)
      simp only [Act.put, sA]
      refine AtT.only (i := 4) (by kernel_rfl) rfl rfl ?_
      intro K hK
      have kk0 := (hM.row .here).cell
      have ff0 := (hM.row .here).free
      have ll0 := (hM.row .here).lt
      have kk1 := (hM.row (.there .here)).cell
      have ff1 := (hM.row (.there .here)).free
      have ll1 := (hM.row (.there .here)).lt
      have kk2 := (hM.row (.there (.there .here))).cell
      have ff2 := (hM.row (.there (.there .here))).free
      have ll2 := (hM.row (.there (.there .here))).lt
      have kk3 := (hM.row (.there (.there (.there .here)))).cell
      have ff3 := (hM.row (.there (.there (.there .here)))).free
      have ll3 := (hM.row (.there (.there (.there .here)))).lt
      go_simp
      clear kk0 ff0 ll0 kk1 ff1 ll1 kk2 ff2 ll2 kk3 ff3 ll3
      refine hK.out _ _ (by apply Mem.tail; apply Mem.tail; (exact memA)) ?_
      clear hK K hS
      apply Mem.atT
      · exact memA
      clear hM
      intro hM
      (try simp only [World.size_alloc, World.size_setCell, World.heap_drewN, heapDrew, Nat.add_assoc, Nat.reduceAdd, sA, List.cons_append, List.nil_append] at hM)
      have hS := hM.tail.tail
      refine AtT.last (by kernel_rfl) rfl (by kernel_rfl) ?_
      intro K hK
      clear hS
      have kk0 := (hM.row .here).cell
      have ff0 := (hM.row .here).free
      have ll0 := (hM.row .here).lt
      have kk1 := (hM.row (.there .here)).cell
      have ff1 := (hM.row (.there .here)).free
      have ll1 := (hM.row (.there .here)).lt
      have kk2 := (hM.row (.there (.there .here))).cell
      have ff2 := (hM.row (.there (.there .here))).free
      have ll2 := (hM.row (.there (.there .here))).lt
      have kk3 := (hM.row (.there (.there (.there .here)))).cell
      have ff3 := (hM.row (.there (.there (.there .here)))).free
      have ll3 := (hM.row (.there (.there (.there .here)))).lt
      go_simp
      clear kk0 ff0 ll0 kk1 ff1 ll1 kk2 ff2 ll2 kk3 ff3 ll3
      refine hK.out _ _ ?_
      clear hK K
      apply Mem.atEx
      · exact memA
      clear hM
      intro wst hM
      (try simp only [World.size_alloc, World.size_setCell, World.heap_drewN, heapDrew, Nat.add_assoc, Nat.reduceAdd, sA, List.cons_append, List.nil_append] at hM)
      have hM9 := Lib.hid (hM.pick (is := [4]) (by decide) rfl)
      obtain ⟨k0, f0, l0⟩ := hM.row .here
      obtain ⟨k1, f1, l1⟩ := hM.row (.there .here)
      go_wp2
      refine bodyPost_ret (v := .tuple #[.int .i64 u, .agg #[.int .i64 xu, .int .i64 xq, .slice xa xn xc, .string (bsA xw)], .agg #[.int .i64 yu, .int .i64 yq, .slice ya yn yc, .string (bsA yw)]]) (by simp [results, Tryz.results21, go_sem, k0, k1]) rfl ?_
      first | exact ⟨u, hu, ⟨xu, xq, xa, xn, xc, xl, xw⟩, HWX.out, ⟨yu, yq, ya, yn, yc, yl, yw⟩, HWY.out, Y, fun B w h => ⟨HIX.out B w h, HIY.out B w h⟩, rfl, hM9.out⟩ | exact ⟨u, ⟨xu, xq, xa, xn, xc, xl, xw⟩, ⟨yu, yq, ya, yn, yc, yl, yw⟩, Y, hu, HWX.out, HWY.out, fun B w h => ⟨HIX.out B w h, HIY.out B w h⟩, rfl, hM9.out⟩
end Go.Proofs.YtjnbdgldpmmamaaGreat
