/-
  The reference's draws of incidents.
-/
import Derived.Test.YtkohfegajcmdbaaQIncD
import Derived.Test.YtkohfegajcmdbaaQDrawTer
import Derived.Test.YtkohfegajcmdbaaQNewInc
import Derived.Test.YtkohfegajcmdbaaQAct
import Derived.Test.YtkohfegajcmdbaaQRegF
import Derived.Deep.DeepCutAuto
/-
  The reference's draws of incidents.
-/
namespace Go.Proofs.Ytkohfegajcmdbaa
set_option linter.unusedSimpArgs false
set_option linter.unusedVariables false
open Go.RowKit

def IncOk (w : World) (ok : Bool) (e : Ending) (w' : World) : Prop := ∃ (W H t : Int) (b1 : Option Addr) (n1 d1 : Nat) (xs : List Int) (b2 : Option Addr) (n2 d2 : Nat) (fs : List Int) (b3 : Option Addr) (n3 d3 : Nat) (ws : List Int), e = .returned (.tuple #[.agg #[.int .i64 W, .int .i64 H, .slice b1 n1 d1, .slice b2 n2 d2, .slice b3 n3 d3, .int .i64 t], .bool ok]) ∧ (ok = true → incB W H xs fs ws t = true) ∧ Mem w.heap.size w w' [packE [intE b1 n1 d1 xs, intE b2 n2 d2 fs, intE b3 n3 d3 ws]]
theorem HeadP.out33 {B : Nat} {w0 w : World} {F : Ent → List Ent} {R : List Ent} {a b c e : Ent} (h : HeadP F R) (hM : Mem B w0 w [a, b, c, e, packE R]) : Mem B w0 w (a :: b :: c :: F e) := (h B w0 w [a, b, c] e).2 hM
theorem IncRes.toOk {w w' : World} {r : IncR} {e : Ending} (h : IncRes w r e w') (hb : r.ok = true → incB r.i.W r.i.H r.i.xs r.i.fs r.i.ws r.i.t = true) : IncOk w r.ok e w' := by
  obtain ⟨b1, n1, d1, b2, n2, d2, b3, n3, d3, rfl, hm⟩ := h
  exact ⟨_, _, _, b1, n1, d1, _, b2, n2, d2, _, b3, n3, d3, _, rfl, hb, Mem.packAt [] (G := [intE b1 n1 d1 r.i.xs, intE b2 n2 d2 r.i.fs, intE b3 n3 d3 r.i.ws]) (Y := []) hm⟩
theorem newOk_any (Wn Hn : Nat) (a : Option Addr) (n c : Nat) (xs : List Int) (a' : Option Addr) (n' c' : Nat) (ys : List Int) (w : World) (hg : goodB 20 Wn Hn xs = true) (h : Ints w a n c xs) (h' : Ints w a' n' c' ys) (hs : setB xs.length ys = true) :
    Calls Try.prog 51 #[.agg #[.int .i64 Wn, .int .i64 Hn, .slice a n c], .slice a' n' c'] w (IncOk w true) := by
  refine (specNewInc_any Wn Hn a n c xs a' n' c' ys w h h').mono ?_
  have hr : newR Wn Hn xs ys = ⟨⟨Wn, Hn, xs, fireL xs ys, List.replicate xs.length 0, 0⟩, true⟩ := by rw [newR, hg, hs]; rfl
  rw [hr]
  intro e w' hp
  exact hp.toOk (fun _ => inc_new hg)
theorem actR_ok {W H : Int} {xs fs ws : List Int} {t k cc : Int} (ho : (actIncR W H xs fs ws t k cc).ok = true) : incB (actIncR W H xs fs ws t k cc).i.W (actIncR W H xs fs ws t k cc).i.H (actIncR W H xs fs ws t k cc).i.xs (actIncR W H xs fs ws t k cc).i.fs (actIncR W H xs fs ws t k cc).i.ws (actIncR W H xs fs ws t k cc).i.t = true := by
  unfold actIncR at ho ⊢
  split at ho
  · rename_i hq
    rw [if_pos hq]
    rw [Bool.and_eq_true, Bool.and_eq_true] at hq
    obtain ⟨e1, e2, e3, -⟩ := act_inc hq.1.1 hq.1.2 hq.2
    rw [e2, e3]
    exact e1
  · cases ho
theorem actOk_any (W H : Int) (a : Option Addr) (n c : Nat) (xs : List Int) (af : Option Addr) (nf cf : Nat) (fs : List Int) (aw : Option Addr) (nw cw : Nat) (ws : List Int) (t k cc : Int) (w : World) (h : Ints w a n c xs) (hf : Ints w af nf cf fs) (hw : Ints w aw nw cw ws) :
    Calls Try.prog 42 #[.agg #[.int .i64 W, .int .i64 H, .slice a n c, .slice af nf cf, .slice aw nw cw, .int .i64 t], .agg #[.int .i64 k, .int .i64 cc]] w fun e w' => ∃ ok, IncOk w ok e w' := by
  refine (specAct_any W H a n c xs af nf cf fs aw nw cw ws t k cc w h hf hw).mono ?_
  intro e w' hp
  exact ⟨_, hp.toOk actR_ok⟩
set_option maxRecDepth 100000 in
set_option maxHeartbeats 8000000 in
theorem incident_any {g : Nat} {ac : Option Addr} {nc cc : Nat} {l : List UInt8} {A : Nat} {w0 w : World} {G : List Ent} {F : Ent → List Ent} (hC : Rd FByt w0 ac nc cc l) (hM : Mem w0.heap.size w0 w G) (p : At G (curE g ac nc cc A) F) (hA : A ≤ 100000) :
    Calls Try.prog 94 #[.pointer (some ⟨g, 0, none⟩)] w fun e w' => ∃ (W H : Int) (a1 : Option Addr) (c1 : Nat) (xs : List Int) (a2 : Option Addr) (c2 : Nat) (fs : List Int) (a3 : Option Addr) (c3 : Nat) (ws : List Int) (t : Int), xs.length ≤ 25 ∧ (1 ≤ fs.length ∧ fs.length ≤ 26) ∧ e = .returned (.agg #[.int .i64 W, .int .i64 H, .slice a1 xs.length c1, .slice a2 fs.length c2, .slice a3 ws.length c3, .int .i64 t]) ∧ Mem w0.heap.size w0 w' (intE a1 xs.length c1 xs :: intE a2 fs.length c2 fs :: intE a3 ws.length c3 ws :: F (curE g ac nc cc (A + 300))) := by
  obtain ⟨R, hR⟩ : ∃ R, HeadP F R := p.head
  have HR := Lib.hid hR; clear hR
  rw [← p.self] at hM
  replace hM := HR.out.in hM
  have HP := Lib.hid p
  have HC := Lib.hid hC
  clear p hC
  go_enter Try.func94, Try.ntmps94
  go_wp2_with fail
  apply Mem.atA
  · (repeat' (first | with_reducible exact hM | with_reducible exact hMp | with_reducible apply Mem.drew | with_reducible apply Mem.drewN | with_reducible apply Mem.alloc | with_reducible apply Mem.set | with_reducible exact Sto.row | ((with_reducible refine Sto.rowEq2 ?_ ?_); omega; rfl) | ((with_reducible refine Sto.rowEq ?_); omega) | with_reducible apply Sto.int | with_reducible apply Sto.there | with_reducible assumption | (unfold I64; omega) | (with_reducible (have hMx := Mem.undrew hM; exact hMx)) | (with_reducible (have hMx := Mem.undrew hMp; exact hMx))))
  clear hM
  intro wst hM
  (try simp only [World.size_alloc, World.size_setCell, World.heap_drewN, heapDrew, Nat.add_assoc, Nat.reduceAdd, List.setIfInBounds_toArray, List.set_cons_zero, List.set_cons_succ, List.cons_append, List.nil_append] at hM)
  (first | refine (terrain_any HC.out hM (.there .here) (by omega)).mono ?_)
  rintro e wc1 ⟨Wn, Hn, a', c', xs, hW, hH, hl, hx, rfl, hm⟩
  clear hM
  have hM := hm
  clear hm
  try dsimp only at hM
  obtain ⟨l0, l1, l2⟩ := hl
  have hg := goodB_of hW hH l0 hx
  have HG := Lib.hid hg
  clear hg hx l0
  go_upto_region 2 with fail
  apply Mem.atWpA
  · (repeat' (first | with_reducible exact hM | with_reducible exact hMp | with_reducible apply Mem.drew | with_reducible apply Mem.drewN | with_reducible apply Mem.alloc | with_reducible apply Mem.set | with_reducible exact Sto.row | ((with_reducible refine Sto.rowEq2 ?_ ?_); omega; rfl) | ((with_reducible refine Sto.rowEq ?_); omega) | with_reducible apply Sto.int | with_reducible apply Sto.there | with_reducible assumption | (unfold I64; omega) | (with_reducible (have hMx := Mem.undrew hM; exact hMx)) | (with_reducible (have hMx := Mem.undrew hMp; exact hMx))))
  clear hM
  intro wst hM
  (try simp only [World.size_alloc, World.size_setCell, World.heap_drewN, heapDrew, Nat.add_assoc, Nat.reduceAdd, List.setIfInBounds_toArray, List.set_cons_zero, List.set_cons_succ, List.cons_append, List.nil_append] at hM)
  replace hM := hM.pick (is := [3, 1, 0, 2, 4]) (by decide) rfl
  dsimp only [List.filterMap_cons, List.filterMap_nil, List.getElem?_cons_zero, List.getElem?_cons_succ] at hM
  go_cut [4] (fun s4 wx => ∃ (b4 : Nat) (W H t : Int) (a1 : Option Addr) (n1 c1 : Nat) (xs : List Int) (a2 : Option Addr) (n2 c2 : Nat) (fs : List Int) (a3 : Option Addr) (n3 c3 : Nat) (ws : List Int), s4 = .pointer (some ⟨b4, 0, none⟩) ∧ Hid (incB W H xs fs ws t = true) ∧ Mem w0.heap.size w0 wx [rowE b4 46 #[.int .i64 W, .int .i64 H, .slice a1 n1 c1, .slice a2 n2 c2, .slice a3 n3 c3, .int .i64 t], packE [intE a1 n1 c1 xs, intE a2 n2 c2 fs, intE a3 n3 c3 ws], curE g ac nc cc (A + 64), rowE w.heap.size 46 #[.int .i64 0, .int .i64 0, .slice none 0 0, .slice none 0 0, .slice none 0 0, .int .i64 0], packE R])
  case first =>
    refine AtF.startA hM.tail hM 19 (by kernel_rfl) ?_
    clear hM
    intro wd hM
    have hS := hM.tail
    refine AtF.taked (i := 0) (v := ?_) (some 12) rfl rfl (by kernel_rfl) (by kernel_rfl) (by kernel_rfl) (anc_path [] _ _ (by kernel_rfl) (by kernel_rfl)) (fun _ _ _ h => h) (Or.inl ⟨by kernel_rfl, ?_⟩) hS rfl ?_
    rotate_left
    · (intro wS hSw; (try dsimp only at hSw); have kr0 := (Mem.row hSw (.there .here)).cell; go_simp; (try rw [if_neg (by omega)]); try with_reducible rfl)
    simp only [Act.put, List.setIfInBounds_toArray, List.set_cons_zero, List.set_cons_succ]
    refine AtF.taked (i := 1) (v := ?_) (some 13) rfl rfl (by kernel_rfl) (by kernel_rfl) (by kernel_rfl) (anc_path [] _ _ (by kernel_rfl) (by kernel_rfl)) (fun _ _ _ h => h) (Or.inl ⟨by kernel_rfl, ?_⟩) hS rfl ?_
    rotate_left
    · (intro wS hSw; (try dsimp only at hSw); go_simp; (try rw [if_neg (by omega)]); try with_reducible rfl)
    simp only [Act.put, List.setIfInBounds_toArray, List.set_cons_zero, List.set_cons_succ]
    refine AtF.taked (i := 2) (v := ?_) (some 14) rfl rfl (by kernel_rfl) (by kernel_rfl) (by kernel_rfl) (anc_path [] _ _ (by kernel_rfl) (by kernel_rfl)) (fun _ _ _ h => h) (Or.inl ⟨by kernel_rfl, ?_⟩) hS rfl ?_
    rotate_left
    · (intro wS hSw; (try dsimp only at hSw); go_simp; (try rw [if_neg (by omega)]); try with_reducible rfl)
    simp only [Act.put, List.setIfInBounds_toArray, List.set_cons_zero, List.set_cons_succ]
    refine AtF.taked (i := 3) (v := ?_) (some 15) rfl rfl (by kernel_rfl) (by kernel_rfl) (by kernel_rfl) (anc_path [] _ _ (by kernel_rfl) (by kernel_rfl)) (fun _ _ _ h => h) (Or.inl ⟨by kernel_rfl, ?_⟩) hS rfl ?_
    rotate_left
    · (intro wS hSw; (try dsimp only at hSw); have kr0 := (Mem.row hSw (.there .here)).cell; go_simp; (try rw [if_neg (by omega)]); try with_reducible rfl)
    simp only [Act.put, List.setIfInBounds_toArray, List.set_cons_zero, List.set_cons_succ]
    refine AtF.taked (i := 4) (v := ?_) (some 16) rfl rfl (by kernel_rfl) (by kernel_rfl) (by kernel_rfl) (anc_path [] _ _ (by kernel_rfl) (by kernel_rfl)) (fun _ _ _ h => h) (Or.inl ⟨by kernel_rfl, ?_⟩) hS rfl ?_
    rotate_left
    · (intro wS hSw; (try dsimp only at hSw); go_simp; (try rw [if_neg (by omega)]); try with_reducible rfl)
    simp only [Act.put, List.setIfInBounds_toArray, List.set_cons_zero, List.set_cons_succ]
    refine AtF.taked (i := 7) (v := ?_) (some 19) rfl rfl (by kernel_rfl) (by kernel_rfl) (by kernel_rfl) (anc_path [] _ _ (by kernel_rfl) (by kernel_rfl)) (fun _ _ _ h => h) (Or.inl ⟨by kernel_rfl, ?_⟩) hS rfl ?_
    rotate_left
    · (intro wS hSw; (try dsimp only at hSw); go_simp; (try rw [if_neg (by omega)]); try with_reducible rfl)
    simp only [Act.put, List.setIfInBounds_toArray, List.set_cons_zero, List.set_cons_succ]
    refine AtF.taked (i := 8) (v := ?_) (some 20) rfl rfl (by kernel_rfl) (by kernel_rfl) (by kernel_rfl) (anc_path [] _ _ (by kernel_rfl) (by kernel_rfl)) (fun _ _ _ h => h) (Or.inl ⟨by kernel_rfl, ?_⟩) hS rfl ?_
    rotate_left
    · (intro wS hSw; (try dsimp only at hSw); go_simp; (try rw [if_neg (by omega)]); try with_reducible rfl)
    simp only [Act.put, List.setIfInBounds_toArray, List.set_cons_zero, List.set_cons_succ]
    refine AtF.taked (i := 9) (v := ?_) (some 21) rfl rfl (by kernel_rfl) (by kernel_rfl) (by kernel_rfl) (anc_path [] _ _ (by kernel_rfl) (by kernel_rfl)) (fun _ _ _ h => h) (Or.inl ⟨by kernel_rfl, ?_⟩) hS rfl ?_
    rotate_left
    · (intro wS hSw; (try dsimp only at hSw); have kr0 := (Mem.row hSw (.there .here)).cell; go_simp; (try rw [if_neg (by omega)]); try with_reducible rfl)
    simp only [Act.put, List.setIfInBounds_toArray, List.set_cons_zero, List.set_cons_succ]
    refine AtF.taked (i := 10) (v := ?_) (some 22) rfl rfl (by kernel_rfl) (by kernel_rfl) (by kernel_rfl) (anc_path [] _ _ (by kernel_rfl) (by kernel_rfl)) (fun _ _ _ h => h) (Or.inl ⟨by kernel_rfl, ?_⟩) hS rfl ?_
    rotate_left
    · (intro wS hSw; (try dsimp only at hSw); go_simp; (try rw [if_neg (by omega)]); try with_reducible rfl)
    simp only [Act.put, List.setIfInBounds_toArray, List.set_cons_zero, List.set_cons_succ]
    refine AtF.two (i := 5) (j := 17) (by kernel_rfl) rfl rfl rfl rfl ?_ ?_
    · skip
      intro K hK
      go_simp
      refine (pick_any (xs.length : Int) HC.out hM .here (by omega)).mono ?_
      rintro e w3 ⟨r1, hr, -, rfl, hm⟩
      have i1 := pick_lt hr (by omega)
      clear hM hr
      have hM := hm
      clear hm
      try dsimp only at hM
      try dsimp only
      refine hK.out _ _ (hM.tail) ?_
      clear hK K hS
      have hS := hM.tail
      refine AtF.three (i0 := 6) (i1 := 11) (i2 := 17) (by kernel_rfl) rfl rfl rfl rfl rfl rfl ?_ ?_ ?_
      · skip
        intro K hK
        go_simp
        refine hK.out _ _ (by apply Mem.tail; apply Mem.tail; (repeat' (first | with_reducible exact hM | with_reducible exact hMp | with_reducible apply Mem.drew | with_reducible apply Mem.drewN | with_reducible apply Mem.alloc | with_reducible apply Mem.set | with_reducible exact Sto.row | ((with_reducible refine Sto.rowEq2 ?_ ?_); omega; rfl) | ((with_reducible refine Sto.rowEq ?_); omega) | with_reducible apply Sto.int | with_reducible apply Sto.there | with_reducible assumption | (unfold I64; omega) | (with_reducible (have hMx := Mem.undrew hM; exact hMx)) | (with_reducible (have hMx := Mem.undrew hMp; exact hMx))))) ?_
        clear hK K hS
        have hMp := hM
        apply Mem.atF
        · (repeat' (first | with_reducible exact hM | with_reducible exact hMp | with_reducible apply Mem.drew | with_reducible apply Mem.drewN | with_reducible apply Mem.alloc | with_reducible apply Mem.set | with_reducible exact Sto.row | ((with_reducible refine Sto.rowEq2 ?_ ?_); omega; rfl) | ((with_reducible refine Sto.rowEq ?_); omega) | with_reducible apply Sto.int | with_reducible apply Sto.there | with_reducible assumption | (unfold I64; omega) | (with_reducible (have hMx := Mem.undrew hM; exact hMx)) | (with_reducible (have hMx := Mem.undrew hMp; exact hMx))))
        clear hM
        intro hM
        (try simp only [World.size_alloc, World.size_setCell, World.heap_drewN, heapDrew, Nat.add_assoc, Nat.reduceAdd, List.setIfInBounds_toArray, List.set_cons_zero, List.set_cons_succ, List.cons_append, List.nil_append] at hM)
        have hS := hM.tail.tail
        refine AtF.two (i := 11) (j := 17) (by kernel_rfl) rfl rfl rfl rfl ?_ ?_
        · skip
          intro K hK
          go_simp
          refine (pick_any (xs.length : Int) HC.out hM (.there .here) (by omega)).mono ?_
          rintro e w4 ⟨r2, hr, -, rfl, hm⟩
          have i2 := pick_lt hr (by omega)
          clear hM hr
          have hM := hm
          clear hm
          try dsimp only at hM
          try dsimp only
          refine hK.out _ _ (hM.tail.tail) ?_
          clear hK K hS
          have hS := hM.tail.tail
          refine AtF.two (i := 12) (j := 17) (by kernel_rfl) rfl rfl rfl rfl ?_ ?_
          · skip
            intro K hK
            go_simp
            refine (l1PutS_any _ r1 r2 xs.length (by omega) (by omega) (by omega) .here hM).mono ?_
            rintro e w5 ⟨g5, c5, ys, hys, rfl, hm⟩
            clear hM
            have hM := hm
            clear hm
            try dsimp only at hM
            try dsimp only
            refine hK.out _ _ (hM.tail.tail) ?_
            clear hK K hS
            have hS := hM.tail.tail
            refine AtF.two (i := 13) (j := 17) (by kernel_rfl) rfl rfl rfl rfl ?_ ?_
            · skip
              intro K hK
              go_simp
              refine (newOk_any Wn Hn a' xs.length c' xs _ ys.length c5 ys _ HG.out (hM.intsR (.there (.there .here))) (hM.intsR .here) hys).mono ?_
              rintro e w6 ⟨W, H, t, b1, n1, d1, xs2, b2, n2, d2, fs, b3, n3, d3, ws, rfl, hi, hm⟩
              have HI := Lib.hid (hi rfl)
              clear hi
              replace hM := hM.join hm
              clear hm
              dsimp only [List.cons_append, List.nil_append] at hM
              try dsimp only
              refine hK.out _ _ (hM.tail.tail.tail) ?_
              clear hK K hS
              have hS := hM.tail.tail.tail
              refine AtF.taked (i := 14) (v := ?_) (some 11) rfl rfl (by kernel_rfl) (by kernel_rfl) (by kernel_rfl) (anc_path [] _ _ (by kernel_rfl) (by kernel_rfl)) (fun _ _ _ h => h) (Or.inl ⟨by kernel_rfl, ?_⟩) hS rfl ?_
              rotate_left
              · (intro wS hSw; (try dsimp only at hSw); go_simp; (try rw [if_neg (by omega)]); try with_reducible rfl)
              simp only [Act.put, List.setIfInBounds_toArray, List.set_cons_zero, List.set_cons_succ]
              refine AtF.taked (i := 15) (v := ?_) (some 26) rfl rfl (by kernel_rfl) (by kernel_rfl) (by kernel_rfl) (anc_path [] _ _ (by kernel_rfl) (by kernel_rfl)) (fun _ _ _ h => h) (Or.inl ⟨by kernel_rfl, ?_⟩) hS rfl ?_
              rotate_left
              · (intro wS hSw; (try dsimp only at hSw); go_simp; (try rw [if_neg (by omega)]); try with_reducible rfl)
              simp only [Act.put, List.setIfInBounds_toArray, List.set_cons_zero, List.set_cons_succ]
              refine AtF.taked (i := 16) (v := ?_) (some 27) rfl rfl (by kernel_rfl) (by kernel_rfl) (by kernel_rfl) (anc_path [] _ _ (by kernel_rfl) (by kernel_rfl)) (fun _ _ _ h => h) (Or.inl ⟨by kernel_rfl, ?_⟩) hS rfl ?_
              rotate_left
              · (intro wS hSw; (try dsimp only at hSw); go_simp; (try rw [if_neg (by omega)]); try with_reducible rfl)
              simp only [Act.put, List.setIfInBounds_toArray, List.set_cons_zero, List.set_cons_succ]
              refine AtF.only (i := 17) (by kernel_rfl) rfl rfl ?_
              intro K hK
              go_simp
              refine hK.out _ _ (by apply Mem.tail; apply Mem.tail; apply Mem.tail; apply Mem.tail; (repeat' (first | with_reducible exact hM | with_reducible exact hMp | with_reducible apply Mem.drew | with_reducible apply Mem.drewN | with_reducible apply Mem.alloc | with_reducible apply Mem.set | with_reducible exact Sto.row | ((with_reducible refine Sto.rowEq2 ?_ ?_); omega; rfl) | ((with_reducible refine Sto.rowEq ?_); omega) | with_reducible apply Sto.int | with_reducible apply Sto.there | with_reducible assumption | (unfold I64; omega) | (with_reducible (have hMx := Mem.undrew hM; exact hMx)) | (with_reducible (have hMx := Mem.undrew hMp; exact hMx))))) ?_
              clear hK K hS
              have hMp := hM
              apply Mem.atF
              · (repeat' (first | with_reducible exact hM | with_reducible exact hMp | with_reducible apply Mem.drew | with_reducible apply Mem.drewN | with_reducible apply Mem.alloc | with_reducible apply Mem.set | with_reducible exact Sto.row | ((with_reducible refine Sto.rowEq2 ?_ ?_); omega; rfl) | ((with_reducible refine Sto.rowEq ?_); omega) | with_reducible apply Sto.int | with_reducible apply Sto.there | with_reducible assumption | (unfold I64; omega) | (with_reducible (have hMx := Mem.undrew hM; exact hMx)) | (with_reducible (have hMx := Mem.undrew hMp; exact hMx))))
              clear hM
              intro hM
              (try simp only [World.size_alloc, World.size_setCell, World.heap_drewN, heapDrew, Nat.add_assoc, Nat.reduceAdd, List.setIfInBounds_toArray, List.set_cons_zero, List.set_cons_succ, List.cons_append, List.nil_append] at hM)
              have hS := hM.tail.tail.tail.tail
              refine AtF.only (i := 18) (by kernel_rfl) rfl rfl ?_
              intro K hK
              have kk0 := (hM.row .here).cell
              have ff0 := (hM.row .here).free
              have ll0 := (hM.row .here).lt
              have kk5 := (hM.row (.there (.there (.there (.there (.there .here)))))).cell
              have ff5 := (hM.row (.there (.there (.there (.there (.there .here)))))).free
              have ll5 := (hM.row (.there (.there (.there (.there (.there .here)))))).lt
              go_simp
              clear kk0 ff0 ll0 kk5 ff5 ll5
              refine hK.out _ _ (by apply Mem.tail; apply Mem.tail; apply Mem.tail; apply Mem.tail; (repeat' (first | with_reducible exact hM | with_reducible exact hMp | with_reducible apply Mem.drew | with_reducible apply Mem.drewN | with_reducible apply Mem.alloc | with_reducible apply Mem.set | with_reducible exact Sto.row | ((with_reducible refine Sto.rowEq2 ?_ ?_); omega; rfl) | ((with_reducible refine Sto.rowEq ?_); omega) | with_reducible apply Sto.int | with_reducible apply Sto.there | with_reducible assumption | (unfold I64; omega) | (with_reducible (have hMx := Mem.undrew hM; exact hMx)) | (with_reducible (have hMx := Mem.undrew hMp; exact hMx))))) ?_
              clear hK K hS
              apply Mem.atF
              · (repeat' (first | with_reducible exact hM | with_reducible exact hMp | with_reducible apply Mem.drew | with_reducible apply Mem.drewN | with_reducible apply Mem.alloc | with_reducible apply Mem.set | with_reducible exact Sto.row | ((with_reducible refine Sto.rowEq2 ?_ ?_); omega; rfl) | ((with_reducible refine Sto.rowEq ?_); omega) | with_reducible apply Sto.int | with_reducible apply Sto.there | with_reducible assumption | (unfold I64; omega) | (with_reducible (have hMx := Mem.undrew hM; exact hMx)) | (with_reducible (have hMx := Mem.undrew hMp; exact hMx))))
              clear hM
              intro hM
              (try simp only [World.size_alloc, World.size_setCell, World.heap_drewN, heapDrew, Nat.add_assoc, Nat.reduceAdd, List.setIfInBounds_toArray, List.set_cons_zero, List.set_cons_succ, List.cons_append, List.nil_append] at hM)
              have hS := hM.tail.tail.tail.tail
              refine AtF.last (by kernel_rfl) rfl (by kernel_rfl) ?_
              intro K hK
              clear hS
              go_simp
              refine hK.out _ _ ?_
              clear hK K
              go_wp2_with fail
              go_meet
              refine ⟨_, W, H, t, b1, n1, d1, xs2, b2, n2, d2, fs, b3, n3, d3, ws, rfl, HI, ?_⟩
              apply Mem.pick (is := [0, 1, 3, 6, 7])
              · (repeat' (first | with_reducible exact hM | with_reducible exact hMp | with_reducible apply Mem.drew | with_reducible apply Mem.drewN | with_reducible apply Mem.alloc | with_reducible apply Mem.set | with_reducible exact Sto.row | ((with_reducible refine Sto.rowEq2 ?_ ?_); omega; rfl) | ((with_reducible refine Sto.rowEq ?_); omega) | with_reducible apply Sto.int | with_reducible apply Sto.there | with_reducible assumption | (unfold I64; omega) | (with_reducible (have hMx := Mem.undrew hM; exact hMx)) | (with_reducible (have hMx := Mem.undrew hMp; exact hMx))))
              · decide
              · rfl
            · skip
              intro K hK
              go_simp
              refine hK.out _ _ (by apply Mem.tail; apply Mem.tail; apply Mem.tail; (repeat' (first | with_reducible exact hM | with_reducible exact hMp | with_reducible apply Mem.drew | with_reducible apply Mem.drewN | with_reducible apply Mem.alloc | with_reducible apply Mem.set | with_reducible exact Sto.row | ((with_reducible refine Sto.rowEq2 ?_ ?_); omega; rfl) | ((with_reducible refine Sto.rowEq ?_); omega) | with_reducible apply Sto.int | with_reducible apply Sto.there | with_reducible assumption | (unfold I64; omega) | (with_reducible (have hMx := Mem.undrew hM; exact hMx)) | (with_reducible (have hMx := Mem.undrew hMp; exact hMx))))) ?_
              clear hK K hS
              have hMp := hM
              apply Mem.atF
              · (repeat' (first | with_reducible exact hM | with_reducible exact hMp | with_reducible apply Mem.drew | with_reducible apply Mem.drewN | with_reducible apply Mem.alloc | with_reducible apply Mem.set | with_reducible exact Sto.row | ((with_reducible refine Sto.rowEq2 ?_ ?_); omega; rfl) | ((with_reducible refine Sto.rowEq ?_); omega) | with_reducible apply Sto.int | with_reducible apply Sto.there | with_reducible assumption | (unfold I64; omega) | (with_reducible (have hMx := Mem.undrew hM; exact hMx)) | (with_reducible (have hMx := Mem.undrew hMp; exact hMx))))
              clear hM
              intro hM
              (try simp only [World.size_alloc, World.size_setCell, World.heap_drewN, heapDrew, Nat.add_assoc, Nat.reduceAdd, List.setIfInBounds_toArray, List.set_cons_zero, List.set_cons_succ, List.cons_append, List.nil_append] at hM)
              have hS := hM.tail.tail.tail
              refine AtF.only (i := 13) (by kernel_rfl) rfl rfl ?_
              intro K hK
              go_simp
              refine (newOk_any Wn Hn a' xs.length c' xs _ ys.length c5 ys _ HG.out (hM.intsR (.there (.there (.there .here)))) (hM.intsR (.there .here)) hys).mono ?_
              rintro e w6 ⟨W, H, t, b1, n1, d1, xs2, b2, n2, d2, fs, b3, n3, d3, ws, rfl, hi, hm⟩
              have HI := Lib.hid (hi rfl)
              clear hi
              replace hM := hM.join hm
              clear hm
              dsimp only [List.cons_append, List.nil_append] at hM
              try dsimp only
              refine hK.out _ _ (hM.tail.tail.tail.tail) ?_
              clear hK K hS
              have hS := hM.tail.tail.tail.tail
              refine AtF.taked (i := 14) (v := ?_) (some 11) rfl rfl (by kernel_rfl) (by kernel_rfl) (by kernel_rfl) (anc_path [] _ _ (by kernel_rfl) (by kernel_rfl)) (fun _ _ _ h => h) (Or.inl ⟨by kernel_rfl, ?_⟩) hS rfl ?_
              rotate_left
              · (intro wS hSw; (try dsimp only at hSw); go_simp; (try rw [if_neg (by omega)]); try with_reducible rfl)
              simp only [Act.put, List.setIfInBounds_toArray, List.set_cons_zero, List.set_cons_succ]
              refine AtF.taked (i := 15) (v := ?_) (some 26) rfl rfl (by kernel_rfl) (by kernel_rfl) (by kernel_rfl) (anc_path [] _ _ (by kernel_rfl) (by kernel_rfl)) (fun _ _ _ h => h) (Or.inl ⟨by kernel_rfl, ?_⟩) hS rfl ?_
              rotate_left
              · (intro wS hSw; (try dsimp only at hSw); go_simp; (try rw [if_neg (by omega)]); try with_reducible rfl)
              simp only [Act.put, List.setIfInBounds_toArray, List.set_cons_zero, List.set_cons_succ]
              refine AtF.taked (i := 16) (v := ?_) (some 27) rfl rfl (by kernel_rfl) (by kernel_rfl) (by kernel_rfl) (anc_path [] _ _ (by kernel_rfl) (by kernel_rfl)) (fun _ _ _ h => h) (Or.inl ⟨by kernel_rfl, ?_⟩) hS rfl ?_
              rotate_left
              · (intro wS hSw; (try dsimp only at hSw); go_simp; (try rw [if_neg (by omega)]); try with_reducible rfl)
              simp only [Act.put, List.setIfInBounds_toArray, List.set_cons_zero, List.set_cons_succ]
              refine AtF.only (i := 18) (by kernel_rfl) rfl rfl ?_
              intro K hK
              have kk1 := (hM.row (.there .here)).cell
              have ff1 := (hM.row (.there .here)).free
              have ll1 := (hM.row (.there .here)).lt
              have kk5 := (hM.row (.there (.there (.there (.there (.there .here)))))).cell
              have ff5 := (hM.row (.there (.there (.there (.there (.there .here)))))).free
              have ll5 := (hM.row (.there (.there (.there (.there (.there .here)))))).lt
              go_simp
              clear kk1 ff1 ll1 kk5 ff5 ll5
              refine hK.out _ _ (by apply Mem.tail; apply Mem.tail; apply Mem.tail; apply Mem.tail; (repeat' (first | with_reducible exact hM | with_reducible exact hMp | with_reducible apply Mem.drew | with_reducible apply Mem.drewN | with_reducible apply Mem.alloc | with_reducible apply Mem.set | with_reducible exact Sto.row | ((with_reducible refine Sto.rowEq2 ?_ ?_); omega; rfl) | ((with_reducible refine Sto.rowEq ?_); omega) | with_reducible apply Sto.int | with_reducible apply Sto.there | with_reducible assumption | (unfold I64; omega) | (with_reducible (have hMx := Mem.undrew hM; exact hMx)) | (with_reducible (have hMx := Mem.undrew hMp; exact hMx))))) ?_
              clear hK K hS
              apply Mem.atF
              · (repeat' (first | with_reducible exact hM | with_reducible exact hMp | with_reducible apply Mem.drew | with_reducible apply Mem.drewN | with_reducible apply Mem.alloc | with_reducible apply Mem.set | with_reducible exact Sto.row | ((with_reducible refine Sto.rowEq2 ?_ ?_); omega; rfl) | ((with_reducible refine Sto.rowEq ?_); omega) | with_reducible apply Sto.int | with_reducible apply Sto.there | with_reducible assumption | (unfold I64; omega) | (with_reducible (have hMx := Mem.undrew hM; exact hMx)) | (with_reducible (have hMx := Mem.undrew hMp; exact hMx))))
              clear hM
              intro hM
              (try simp only [World.size_alloc, World.size_setCell, World.heap_drewN, heapDrew, Nat.add_assoc, Nat.reduceAdd, List.setIfInBounds_toArray, List.set_cons_zero, List.set_cons_succ, List.cons_append, List.nil_append] at hM)
              have hS := hM.tail.tail.tail.tail
              refine AtF.last (by kernel_rfl) rfl (by kernel_rfl) ?_
              intro K hK
              clear hS
              go_simp
              refine hK.out _ _ ?_
              clear hK K
              go_wp2_with fail
              go_meet
              refine ⟨_, W, H, t, b1, n1, d1, xs2, b2, n2, d2, fs, b3, n3, d3, ws, rfl, HI, ?_⟩
              apply Mem.pick (is := [1, 0, 3, 6, 7])
              · (repeat' (first | with_reducible exact hM | with_reducible exact hMp | with_reducible apply Mem.drew | with_reducible apply Mem.drewN | with_reducible apply Mem.alloc | with_reducible apply Mem.set | with_reducible exact Sto.row | ((with_reducible refine Sto.rowEq2 ?_ ?_); omega; rfl) | ((with_reducible refine Sto.rowEq ?_); omega) | with_reducible apply Sto.int | with_reducible apply Sto.there | with_reducible assumption | (unfold I64; omega) | (with_reducible (have hMx := Mem.undrew hM; exact hMx)) | (with_reducible (have hMx := Mem.undrew hMp; exact hMx))))
              · decide
              · rfl
          · skip
            intro K hK
            go_simp
            refine hK.out _ _ (by apply Mem.tail; apply Mem.tail; apply Mem.tail; (repeat' (first | with_reducible exact hM | with_reducible exact hMp | with_reducible apply Mem.drew | with_reducible apply Mem.drewN | with_reducible apply Mem.alloc | with_reducible apply Mem.set | with_reducible exact Sto.row | ((with_reducible refine Sto.rowEq2 ?_ ?_); omega; rfl) | ((with_reducible refine Sto.rowEq ?_); omega) | with_reducible apply Sto.int | with_reducible apply Sto.there | with_reducible assumption | (unfold I64; omega) | (with_reducible (have hMx := Mem.undrew hM; exact hMx)) | (with_reducible (have hMx := Mem.undrew hMp; exact hMx))))) ?_
            clear hK K hS
            have hMp := hM
            apply Mem.atF
            · (repeat' (first | with_reducible exact hM | with_reducible exact hMp | with_reducible apply Mem.drew | with_reducible apply Mem.drewN | with_reducible apply Mem.alloc | with_reducible apply Mem.set | with_reducible exact Sto.row | ((with_reducible refine Sto.rowEq2 ?_ ?_); omega; rfl) | ((with_reducible refine Sto.rowEq ?_); omega) | with_reducible apply Sto.int | with_reducible apply Sto.there | with_reducible assumption | (unfold I64; omega) | (with_reducible (have hMx := Mem.undrew hM; exact hMx)) | (with_reducible (have hMx := Mem.undrew hMp; exact hMx))))
            clear hM
            intro hM
            (try simp only [World.size_alloc, World.size_setCell, World.heap_drewN, heapDrew, Nat.add_assoc, Nat.reduceAdd, List.setIfInBounds_toArray, List.set_cons_zero, List.set_cons_succ, List.cons_append, List.nil_append] at hM)
            have hS := hM.tail.tail.tail
            refine AtF.only (i := 12) (by kernel_rfl) rfl rfl ?_
            intro K hK
            go_simp
            refine (l1PutS_any _ r1 r2 xs.length (by omega) (by omega) (by omega) (.there .here) hM).mono ?_
            rintro e w5 ⟨g5, c5, ys, hys, rfl, hm⟩
            clear hM
            have hM := hm
            clear hm
            try dsimp only at hM
            try dsimp only
            refine hK.out _ _ (hM.tail.tail.tail) ?_
            clear hK K hS
            have hS := hM.tail.tail.tail
            refine AtF.only (i := 13) (by kernel_rfl) rfl rfl ?_
            intro K hK
            go_simp
            refine (newOk_any Wn Hn a' xs.length c' xs _ ys.length c5 ys _ HG.out (hM.intsR (.there (.there (.there .here)))) (hM.intsR (.there .here)) hys).mono ?_
            rintro e w6 ⟨W, H, t, b1, n1, d1, xs2, b2, n2, d2, fs, b3, n3, d3, ws, rfl, hi, hm⟩
            have HI := Lib.hid (hi rfl)
            clear hi
            replace hM := hM.join hm
            clear hm
            dsimp only [List.cons_append, List.nil_append] at hM
            try dsimp only
            refine hK.out _ _ (hM.tail.tail.tail.tail) ?_
            clear hK K hS
            have hS := hM.tail.tail.tail.tail
            refine AtF.taked (i := 14) (v := ?_) (some 11) rfl rfl (by kernel_rfl) (by kernel_rfl) (by kernel_rfl) (anc_path [] _ _ (by kernel_rfl) (by kernel_rfl)) (fun _ _ _ h => h) (Or.inl ⟨by kernel_rfl, ?_⟩) hS rfl ?_
            rotate_left
            · (intro wS hSw; (try dsimp only at hSw); go_simp; (try rw [if_neg (by omega)]); try with_reducible rfl)
            simp only [Act.put, List.setIfInBounds_toArray, List.set_cons_zero, List.set_cons_succ]
            refine AtF.taked (i := 15) (v := ?_) (some 26) rfl rfl (by kernel_rfl) (by kernel_rfl) (by kernel_rfl) (anc_path [] _ _ (by kernel_rfl) (by kernel_rfl)) (fun _ _ _ h => h) (Or.inl ⟨by kernel_rfl, ?_⟩) hS rfl ?_
            rotate_left
            · (intro wS hSw; (try dsimp only at hSw); go_simp; (try rw [if_neg (by omega)]); try with_reducible rfl)
            simp only [Act.put, List.setIfInBounds_toArray, List.set_cons_zero, List.set_cons_succ]
            refine AtF.taked (i := 16) (v := ?_) (some 27) rfl rfl (by kernel_rfl) (by kernel_rfl) (by kernel_rfl) (anc_path [] _ _ (by kernel_rfl) (by kernel_rfl)) (fun _ _ _ h => h) (Or.inl ⟨by kernel_rfl, ?_⟩) hS rfl ?_
            rotate_left
            · (intro wS hSw; (try dsimp only at hSw); go_simp; (try rw [if_neg (by omega)]); try with_reducible rfl)
            simp only [Act.put, List.setIfInBounds_toArray, List.set_cons_zero, List.set_cons_succ]
            refine AtF.only (i := 18) (by kernel_rfl) rfl rfl ?_
            intro K hK
            have kk1 := (hM.row (.there .here)).cell
            have ff1 := (hM.row (.there .here)).free
            have ll1 := (hM.row (.there .here)).lt
            have kk5 := (hM.row (.there (.there (.there (.there (.there .here)))))).cell
            have ff5 := (hM.row (.there (.there (.there (.there (.there .here)))))).free
            have ll5 := (hM.row (.there (.there (.there (.there (.there .here)))))).lt
            go_simp
            clear kk1 ff1 ll1 kk5 ff5 ll5
            refine hK.out _ _ (by apply Mem.tail; apply Mem.tail; apply Mem.tail; apply Mem.tail; (repeat' (first | with_reducible exact hM | with_reducible exact hMp | with_reducible apply Mem.drew | with_reducible apply Mem.drewN | with_reducible apply Mem.alloc | with_reducible apply Mem.set | with_reducible exact Sto.row | ((with_reducible refine Sto.rowEq2 ?_ ?_); omega; rfl) | ((with_reducible refine Sto.rowEq ?_); omega) | with_reducible apply Sto.int | with_reducible apply Sto.there | with_reducible assumption | (unfold I64; omega) | (with_reducible (have hMx := Mem.undrew hM; exact hMx)) | (with_reducible (have hMx := Mem.undrew hMp; exact hMx))))) ?_
            clear hK K hS
            apply Mem.atF
            · (repeat' (first | with_reducible exact hM | with_reducible exact hMp | with_reducible apply Mem.drew | with_reducible apply Mem.drewN | with_reducible apply Mem.alloc | with_reducible apply Mem.set | with_reducible exact Sto.row | ((with_reducible refine Sto.rowEq2 ?_ ?_); omega; rfl) | ((with_reducible refine Sto.rowEq ?_); omega) | with_reducible apply Sto.int | with_reducible apply Sto.there | with_reducible assumption | (unfold I64; omega) | (with_reducible (have hMx := Mem.undrew hM; exact hMx)) | (with_reducible (have hMx := Mem.undrew hMp; exact hMx))))
            clear hM
            intro hM
            (try simp only [World.size_alloc, World.size_setCell, World.heap_drewN, heapDrew, Nat.add_assoc, Nat.reduceAdd, List.setIfInBounds_toArray, List.set_cons_zero, List.set_cons_succ, List.cons_append, List.nil_append] at hM)
            have hS := hM.tail.tail.tail.tail
            refine AtF.last (by kernel_rfl) rfl (by kernel_rfl) ?_
            intro K hK
            clear hS
            go_simp
            refine hK.out _ _ ?_
            clear hK K
            go_wp2_with fail
            go_meet
            refine ⟨_, W, H, t, b1, n1, d1, xs2, b2, n2, d2, fs, b3, n3, d3, ws, rfl, HI, ?_⟩
            apply Mem.pick (is := [1, 0, 3, 6, 7])
            · (repeat' (first | with_reducible exact hM | with_reducible exact hMp | with_reducible apply Mem.drew | with_reducible apply Mem.drewN | with_reducible apply Mem.alloc | with_reducible apply Mem.set | with_reducible exact Sto.row | ((with_reducible refine Sto.rowEq2 ?_ ?_); omega; rfl) | ((with_reducible refine Sto.rowEq ?_); omega) | with_reducible apply Sto.int | with_reducible apply Sto.there | with_reducible assumption | (unfold I64; omega) | (with_reducible (have hMx := Mem.undrew hM; exact hMx)) | (with_reducible (have hMx := Mem.undrew hMp; exact hMx))))
            · decide
            · rfl
        · skip
          intro K hK
          go_simp
          refine hK.out _ _ (by apply Mem.tail; apply Mem.tail; apply Mem.tail; (repeat' (first | with_reducible exact hM | with_reducible exact hMp | with_reducible apply Mem.drew | with_reducible apply Mem.drewN | with_reducible apply Mem.alloc | with_reducible apply Mem.set | with_reducible exact Sto.row | ((with_reducible refine Sto.rowEq2 ?_ ?_); omega; rfl) | ((with_reducible refine Sto.rowEq ?_); omega) | with_reducible apply Sto.int | with_reducible apply Sto.there | with_reducible assumption | (unfold I64; omega) | (with_reducible (have hMx := Mem.undrew hM; exact hMx)) | (with_reducible (have hMx := Mem.undrew hMp; exact hMx))))) ?_
          clear hK K hS
          have hMp := hM
          apply Mem.atF
          · (repeat' (first | with_reducible exact hM | with_reducible exact hMp | with_reducible apply Mem.drew | with_reducible apply Mem.drewN | with_reducible apply Mem.alloc | with_reducible apply Mem.set | with_reducible exact Sto.row | ((with_reducible refine Sto.rowEq2 ?_ ?_); omega; rfl) | ((with_reducible refine Sto.rowEq ?_); omega) | with_reducible apply Sto.int | with_reducible apply Sto.there | with_reducible assumption | (unfold I64; omega) | (with_reducible (have hMx := Mem.undrew hM; exact hMx)) | (with_reducible (have hMx := Mem.undrew hMp; exact hMx))))
          clear hM
          intro hM
          (try simp only [World.size_alloc, World.size_setCell, World.heap_drewN, heapDrew, Nat.add_assoc, Nat.reduceAdd, List.setIfInBounds_toArray, List.set_cons_zero, List.set_cons_succ, List.cons_append, List.nil_append] at hM)
          have hS := hM.tail.tail.tail
          refine AtF.only (i := 11) (by kernel_rfl) rfl rfl ?_
          intro K hK
          go_simp
          refine (pick_any (xs.length : Int) HC.out hM (.there (.there .here)) (by omega)).mono ?_
          rintro e w4 ⟨r2, hr, -, rfl, hm⟩
          have i2 := pick_lt hr (by omega)
          clear hM hr
          have hM := hm
          clear hm
          try dsimp only at hM
          try dsimp only
          refine hK.out _ _ (hM.tail.tail.tail) ?_
          clear hK K hS
          have hS := hM.tail.tail.tail
          refine AtF.only (i := 12) (by kernel_rfl) rfl rfl ?_
          intro K hK
          go_simp
          refine (l1PutS_any _ r1 r2 xs.length (by omega) (by omega) (by omega) (.there .here) hM).mono ?_
          rintro e w5 ⟨g5, c5, ys, hys, rfl, hm⟩
          clear hM
          have hM := hm
          clear hm
          try dsimp only at hM
          try dsimp only
          refine hK.out _ _ (hM.tail.tail.tail) ?_
          clear hK K hS
          have hS := hM.tail.tail.tail
          refine AtF.only (i := 13) (by kernel_rfl) rfl rfl ?_
          intro K hK
          go_simp
          refine (newOk_any Wn Hn a' xs.length c' xs _ ys.length c5 ys _ HG.out (hM.intsR (.there (.there (.there .here)))) (hM.intsR (.there .here)) hys).mono ?_
          rintro e w6 ⟨W, H, t, b1, n1, d1, xs2, b2, n2, d2, fs, b3, n3, d3, ws, rfl, hi, hm⟩
          have HI := Lib.hid (hi rfl)
          clear hi
          replace hM := hM.join hm
          clear hm
          dsimp only [List.cons_append, List.nil_append] at hM
          try dsimp only
          refine hK.out _ _ (hM.tail.tail.tail.tail) ?_
          clear hK K hS
          have hS := hM.tail.tail.tail.tail
          refine AtF.taked (i := 14) (v := ?_) (some 11) rfl rfl (by kernel_rfl) (by kernel_rfl) (by kernel_rfl) (anc_path [] _ _ (by kernel_rfl) (by kernel_rfl)) (fun _ _ _ h => h) (Or.inl ⟨by kernel_rfl, ?_⟩) hS rfl ?_
          rotate_left
          · (intro wS hSw; (try dsimp only at hSw); go_simp; (try rw [if_neg (by omega)]); try with_reducible rfl)
          simp only [Act.put, List.setIfInBounds_toArray, List.set_cons_zero, List.set_cons_succ]
          refine AtF.taked (i := 15) (v := ?_) (some 26) rfl rfl (by kernel_rfl) (by kernel_rfl) (by kernel_rfl) (anc_path [] _ _ (by kernel_rfl) (by kernel_rfl)) (fun _ _ _ h => h) (Or.inl ⟨by kernel_rfl, ?_⟩) hS rfl ?_
          rotate_left
          · (intro wS hSw; (try dsimp only at hSw); go_simp; (try rw [if_neg (by omega)]); try with_reducible rfl)
          simp only [Act.put, List.setIfInBounds_toArray, List.set_cons_zero, List.set_cons_succ]
          refine AtF.taked (i := 16) (v := ?_) (some 27) rfl rfl (by kernel_rfl) (by kernel_rfl) (by kernel_rfl) (anc_path [] _ _ (by kernel_rfl) (by kernel_rfl)) (fun _ _ _ h => h) (Or.inl ⟨by kernel_rfl, ?_⟩) hS rfl ?_
          rotate_left
          · (intro wS hSw; (try dsimp only at hSw); go_simp; (try rw [if_neg (by omega)]); try with_reducible rfl)
          simp only [Act.put, List.setIfInBounds_toArray, List.set_cons_zero, List.set_cons_succ]
          refine AtF.only (i := 18) (by kernel_rfl) rfl rfl ?_
          intro K hK
          have kk1 := (hM.row (.there .here)).cell
          have ff1 := (hM.row (.there .here)).free
          have ll1 := (hM.row (.there .here)).lt
          have kk5 := (hM.row (.there (.there (.there (.there (.there .here)))))).cell
          have ff5 := (hM.row (.there (.there (.there (.there (.there .here)))))).free
          have ll5 := (hM.row (.there (.there (.there (.there (.there .here)))))).lt
          go_simp
          clear kk1 ff1 ll1 kk5 ff5 ll5
          refine hK.out _ _ (by apply Mem.tail; apply Mem.tail; apply Mem.tail; apply Mem.tail; (repeat' (first | with_reducible exact hM | with_reducible exact hMp | with_reducible apply Mem.drew | with_reducible apply Mem.drewN | with_reducible apply Mem.alloc | with_reducible apply Mem.set | with_reducible exact Sto.row | ((with_reducible refine Sto.rowEq2 ?_ ?_); omega; rfl) | ((with_reducible refine Sto.rowEq ?_); omega) | with_reducible apply Sto.int | with_reducible apply Sto.there | with_reducible assumption | (unfold I64; omega) | (with_reducible (have hMx := Mem.undrew hM; exact hMx)) | (with_reducible (have hMx := Mem.undrew hMp; exact hMx))))) ?_
          clear hK K hS
          apply Mem.atF
          · (repeat' (first | with_reducible exact hM | with_reducible exact hMp | with_reducible apply Mem.drew | with_reducible apply Mem.drewN | with_reducible apply Mem.alloc | with_reducible apply Mem.set | with_reducible exact Sto.row | ((with_reducible refine Sto.rowEq2 ?_ ?_); omega; rfl) | ((with_reducible refine Sto.rowEq ?_); omega) | with_reducible apply Sto.int | with_reducible apply Sto.there | with_reducible assumption | (unfold I64; omega) | (with_reducible (have hMx := Mem.undrew hM; exact hMx)) | (with_reducible (have hMx := Mem.undrew hMp; exact hMx))))
          clear hM
          intro hM
          (try simp only [World.size_alloc, World.size_setCell, World.heap_drewN, heapDrew, Nat.add_assoc, Nat.reduceAdd, List.setIfInBounds_toArray, List.set_cons_zero, List.set_cons_succ, List.cons_append, List.nil_append] at hM)
          have hS := hM.tail.tail.tail.tail
          refine AtF.last (by kernel_rfl) rfl (by kernel_rfl) ?_
          intro K hK
          clear hS
          go_simp
          refine hK.out _ _ ?_
          clear hK K
          go_wp2_with fail
          go_meet
          refine ⟨_, W, H, t, b1, n1, d1, xs2, b2, n2, d2, fs, b3, n3, d3, ws, rfl, HI, ?_⟩
          apply Mem.pick (is := [1, 0, 3, 6, 7])
          · (repeat' (first | with_reducible exact hM | with_reducible exact hMp | with_reducible apply Mem.drew | with_reducible apply Mem.drewN | with_reducible apply Mem.alloc | with_reducible apply Mem.set | with_reducible exact Sto.row | ((with_reducible refine Sto.rowEq2 ?_ ?_); omega; rfl) | ((with_reducible refine Sto.rowEq ?_); omega) | with_reducible apply Sto.int | with_reducible apply Sto.there | with_reducible assumption | (unfold I64; omega) | (with_reducible (have hMx := Mem.undrew hM; exact hMx)) | (with_reducible (have hMx := Mem.undrew hMp; exact hMx))))
          · decide
          · rfl
      · skip
        intro K hK
        go_simp
        refine (pick_any (xs.length : Int) HC.out hM .here (by omega)).mono ?_
        rintro e w4 ⟨r2, hr, -, rfl, hm⟩
        have i2 := pick_lt hr (by omega)
        clear hM hr
        have hM := hm
        clear hm
        try dsimp only at hM
        try dsimp only
        refine hK.out _ _ (hM.tail) ?_
        clear hK K hS
        have hS := hM.tail
        refine AtF.two (i := 6) (j := 17) (by kernel_rfl) rfl rfl rfl rfl ?_ ?_
        · skip
          intro K hK
          go_simp
          refine hK.out _ _ (by apply Mem.tail; apply Mem.tail; (repeat' (first | with_reducible exact hM | with_reducible exact hMp | with_reducible apply Mem.drew | with_reducible apply Mem.drewN | with_reducible apply Mem.alloc | with_reducible apply Mem.set | with_reducible exact Sto.row | ((with_reducible refine Sto.rowEq2 ?_ ?_); omega; rfl) | ((with_reducible refine Sto.rowEq ?_); omega) | with_reducible apply Sto.int | with_reducible apply Sto.there | with_reducible assumption | (unfold I64; omega) | (with_reducible (have hMx := Mem.undrew hM; exact hMx)) | (with_reducible (have hMx := Mem.undrew hMp; exact hMx))))) ?_
          clear hK K hS
          have hMp := hM
          apply Mem.atF
          · (repeat' (first | with_reducible exact hM | with_reducible exact hMp | with_reducible apply Mem.drew | with_reducible apply Mem.drewN | with_reducible apply Mem.alloc | with_reducible apply Mem.set | with_reducible exact Sto.row | ((with_reducible refine Sto.rowEq2 ?_ ?_); omega; rfl) | ((with_reducible refine Sto.rowEq ?_); omega) | with_reducible apply Sto.int | with_reducible apply Sto.there | with_reducible assumption | (unfold I64; omega) | (with_reducible (have hMx := Mem.undrew hM; exact hMx)) | (with_reducible (have hMx := Mem.undrew hMp; exact hMx))))
          clear hM
          intro hM
          (try simp only [World.size_alloc, World.size_setCell, World.heap_drewN, heapDrew, Nat.add_assoc, Nat.reduceAdd, List.setIfInBounds_toArray, List.set_cons_zero, List.set_cons_succ, List.cons_append, List.nil_append] at hM)
          have hS := hM.tail.tail
          refine AtF.two (i := 12) (j := 17) (by kernel_rfl) rfl rfl rfl rfl ?_ ?_
          · skip
            intro K hK
            go_simp
            refine (l1PutS_any _ r1 r2 xs.length (by omega) (by omega) (by omega) .here hM).mono ?_
            rintro e w5 ⟨g5, c5, ys, hys, rfl, hm⟩
            clear hM
            have hM := hm
            clear hm
            try dsimp only at hM
            try dsimp only
            refine hK.out _ _ (hM.tail.tail) ?_
            clear hK K hS
            have hS := hM.tail.tail
            refine AtF.two (i := 13) (j := 17) (by kernel_rfl) rfl rfl rfl rfl ?_ ?_
            · skip
              intro K hK
              go_simp
              refine (newOk_any Wn Hn a' xs.length c' xs _ ys.length c5 ys _ HG.out (hM.intsR (.there (.there .here))) (hM.intsR .here) hys).mono ?_
              rintro e w6 ⟨W, H, t, b1, n1, d1, xs2, b2, n2, d2, fs, b3, n3, d3, ws, rfl, hi, hm⟩
              have HI := Lib.hid (hi rfl)
              clear hi
              replace hM := hM.join hm
              clear hm
              dsimp only [List.cons_append, List.nil_append] at hM
              try dsimp only
              refine hK.out _ _ (hM.tail.tail.tail) ?_
              clear hK K hS
              have hS := hM.tail.tail.tail
              refine AtF.taked (i := 14) (v := ?_) (some 11) rfl rfl (by kernel_rfl) (by kernel_rfl) (by kernel_rfl) (anc_path [] _ _ (by kernel_rfl) (by kernel_rfl)) (fun _ _ _ h => h) (Or.inl ⟨by kernel_rfl, ?_⟩) hS rfl ?_
              rotate_left
              · (intro wS hSw; (try dsimp only at hSw); go_simp; (try rw [if_neg (by omega)]); try with_reducible rfl)
              simp only [Act.put, List.setIfInBounds_toArray, List.set_cons_zero, List.set_cons_succ]
              refine AtF.taked (i := 15) (v := ?_) (some 26) rfl rfl (by kernel_rfl) (by kernel_rfl) (by kernel_rfl) (anc_path [] _ _ (by kernel_rfl) (by kernel_rfl)) (fun _ _ _ h => h) (Or.inl ⟨by kernel_rfl, ?_⟩) hS rfl ?_
              rotate_left
              · (intro wS hSw; (try dsimp only at hSw); go_simp; (try rw [if_neg (by omega)]); try with_reducible rfl)
              simp only [Act.put, List.setIfInBounds_toArray, List.set_cons_zero, List.set_cons_succ]
              refine AtF.taked (i := 16) (v := ?_) (some 27) rfl rfl (by kernel_rfl) (by kernel_rfl) (by kernel_rfl) (anc_path [] _ _ (by kernel_rfl) (by kernel_rfl)) (fun _ _ _ h => h) (Or.inl ⟨by kernel_rfl, ?_⟩) hS rfl ?_
              rotate_left
              · (intro wS hSw; (try dsimp only at hSw); go_simp; (try rw [if_neg (by omega)]); try with_reducible rfl)
              simp only [Act.put, List.setIfInBounds_toArray, List.set_cons_zero, List.set_cons_succ]
              refine AtF.only (i := 17) (by kernel_rfl) rfl rfl ?_
              intro K hK
              go_simp
              refine hK.out _ _ (by apply Mem.tail; apply Mem.tail; apply Mem.tail; apply Mem.tail; (repeat' (first | with_reducible exact hM | with_reducible exact hMp | with_reducible apply Mem.drew | with_reducible apply Mem.drewN | with_reducible apply Mem.alloc | with_reducible apply Mem.set | with_reducible exact Sto.row | ((with_reducible refine Sto.rowEq2 ?_ ?_); omega; rfl) | ((with_reducible refine Sto.rowEq ?_); omega) | with_reducible apply Sto.int | with_reducible apply Sto.there | with_reducible assumption | (unfold I64; omega) | (with_reducible (have hMx := Mem.undrew hM; exact hMx)) | (with_reducible (have hMx := Mem.undrew hMp; exact hMx))))) ?_
              clear hK K hS
              have hMp := hM
              apply Mem.atF
              · (repeat' (first | with_reducible exact hM | with_reducible exact hMp | with_reducible apply Mem.drew | with_reducible apply Mem.drewN | with_reducible apply Mem.alloc | with_reducible apply Mem.set | with_reducible exact Sto.row | ((with_reducible refine Sto.rowEq2 ?_ ?_); omega; rfl) | ((with_reducible refine Sto.rowEq ?_); omega) | with_reducible apply Sto.int | with_reducible apply Sto.there | with_reducible assumption | (unfold I64; omega) | (with_reducible (have hMx := Mem.undrew hM; exact hMx)) | (with_reducible (have hMx := Mem.undrew hMp; exact hMx))))
              clear hM
              intro hM
              (try simp only [World.size_alloc, World.size_setCell, World.heap_drewN, heapDrew, Nat.add_assoc, Nat.reduceAdd, List.setIfInBounds_toArray, List.set_cons_zero, List.set_cons_succ, List.cons_append, List.nil_append] at hM)
              have hS := hM.tail.tail.tail.tail
              refine AtF.only (i := 18) (by kernel_rfl) rfl rfl ?_
              intro K hK
              have kk0 := (hM.row .here).cell
              have ff0 := (hM.row .here).free
              have ll0 := (hM.row .here).lt
              have kk5 := (hM.row (.there (.there (.there (.there (.there .here)))))).cell
              have ff5 := (hM.row (.there (.there (.there (.there (.there .here)))))).free
              have ll5 := (hM.row (.there (.there (.there (.there (.there .here)))))).lt
              go_simp
              clear kk0 ff0 ll0 kk5 ff5 ll5
              refine hK.out _ _ (by apply Mem.tail; apply Mem.tail; apply Mem.tail; apply Mem.tail; (repeat' (first | with_reducible exact hM | with_reducible exact hMp | with_reducible apply Mem.drew | with_reducible apply Mem.drewN | with_reducible apply Mem.alloc | with_reducible apply Mem.set | with_reducible exact Sto.row | ((with_reducible refine Sto.rowEq2 ?_ ?_); omega; rfl) | ((with_reducible refine Sto.rowEq ?_); omega) | with_reducible apply Sto.int | with_reducible apply Sto.there | with_reducible assumption | (unfold I64; omega) | (with_reducible (have hMx := Mem.undrew hM; exact hMx)) | (with_reducible (have hMx := Mem.undrew hMp; exact hMx))))) ?_
              clear hK K hS
              apply Mem.atF
              · (repeat' (first | with_reducible exact hM | with_reducible exact hMp | with_reducible apply Mem.drew | with_reducible apply Mem.drewN | with_reducible apply Mem.alloc | with_reducible apply Mem.set | with_reducible exact Sto.row | ((with_reducible refine Sto.rowEq2 ?_ ?_); omega; rfl) | ((with_reducible refine Sto.rowEq ?_); omega) | with_reducible apply Sto.int | with_reducible apply Sto.there | with_reducible assumption | (unfold I64; omega) | (with_reducible (have hMx := Mem.undrew hM; exact hMx)) | (with_reducible (have hMx := Mem.undrew hMp; exact hMx))))
              clear hM
              intro hM
              (try simp only [World.size_alloc, World.size_setCell, World.heap_drewN, heapDrew, Nat.add_assoc, Nat.reduceAdd, List.setIfInBounds_toArray, List.set_cons_zero, List.set_cons_succ, List.cons_append, List.nil_append] at hM)
              have hS := hM.tail.tail.tail.tail
              refine AtF.last (by kernel_rfl) rfl (by kernel_rfl) ?_
              intro K hK
              clear hS
              go_simp
              refine hK.out _ _ ?_
              clear hK K
              go_wp2_with fail
              go_meet
              refine ⟨_, W, H, t, b1, n1, d1, xs2, b2, n2, d2, fs, b3, n3, d3, ws, rfl, HI, ?_⟩
              apply Mem.pick (is := [0, 1, 3, 6, 7])
              · (repeat' (first | with_reducible exact hM | with_reducible exact hMp | with_reducible apply Mem.drew | with_reducible apply Mem.drewN | with_reducible apply Mem.alloc | with_reducible apply Mem.set | with_reducible exact Sto.row | ((with_reducible refine Sto.rowEq2 ?_ ?_); omega; rfl) | ((with_reducible refine Sto.rowEq ?_); omega) | with_reducible apply Sto.int | with_reducible apply Sto.there | with_reducible assumption | (unfold I64; omega) | (with_reducible (have hMx := Mem.undrew hM; exact hMx)) | (with_reducible (have hMx := Mem.undrew hMp; exact hMx))))
              · decide
              · rfl
            · skip
              intro K hK
              go_simp
              refine hK.out _ _ (by apply Mem.tail; apply Mem.tail; apply Mem.tail; (repeat' (first | with_reducible exact hM | with_reducible exact hMp | with_reducible apply Mem.drew | with_reducible apply Mem.drewN | with_reducible apply Mem.alloc | with_reducible apply Mem.set | with_reducible exact Sto.row | ((with_reducible refine Sto.rowEq2 ?_ ?_); omega; rfl) | ((with_reducible refine Sto.rowEq ?_); omega) | with_reducible apply Sto.int | with_reducible apply Sto.there | with_reducible assumption | (unfold I64; omega) | (with_reducible (have hMx := Mem.undrew hM; exact hMx)) | (with_reducible (have hMx := Mem.undrew hMp; exact hMx))))) ?_
              clear hK K hS
              have hMp := hM
              apply Mem.atF
              · (repeat' (first | with_reducible exact hM | with_reducible exact hMp | with_reducible apply Mem.drew | with_reducible apply Mem.drewN | with_reducible apply Mem.alloc | with_reducible apply Mem.set | with_reducible exact Sto.row | ((with_reducible refine Sto.rowEq2 ?_ ?_); omega; rfl) | ((with_reducible refine Sto.rowEq ?_); omega) | with_reducible apply Sto.int | with_reducible apply Sto.there | with_reducible assumption | (unfold I64; omega) | (with_reducible (have hMx := Mem.undrew hM; exact hMx)) | (with_reducible (have hMx := Mem.undrew hMp; exact hMx))))
              clear hM
              intro hM
              (try simp only [World.size_alloc, World.size_setCell, World.heap_drewN, heapDrew, Nat.add_assoc, Nat.reduceAdd, List.setIfInBounds_toArray, List.set_cons_zero, List.set_cons_succ, List.cons_append, List.nil_append] at hM)
              have hS := hM.tail.tail.tail
              refine AtF.only (i := 13) (by kernel_rfl) rfl rfl ?_
              intro K hK
              go_simp
              refine (newOk_any Wn Hn a' xs.length c' xs _ ys.length c5 ys _ HG.out (hM.intsR (.there (.there (.there .here)))) (hM.intsR (.there .here)) hys).mono ?_
              rintro e w6 ⟨W, H, t, b1, n1, d1, xs2, b2, n2, d2, fs, b3, n3, d3, ws, rfl, hi, hm⟩
              have HI := Lib.hid (hi rfl)
              clear hi
              replace hM := hM.join hm
              clear hm
              dsimp only [List.cons_append, List.nil_append] at hM
              try dsimp only
              refine hK.out _ _ (hM.tail.tail.tail.tail) ?_
              clear hK K hS
              have hS := hM.tail.tail.tail.tail
              refine AtF.taked (i := 14) (v := ?_) (some 11) rfl rfl (by kernel_rfl) (by kernel_rfl) (by kernel_rfl) (anc_path [] _ _ (by kernel_rfl) (by kernel_rfl)) (fun _ _ _ h => h) (Or.inl ⟨by kernel_rfl, ?_⟩) hS rfl ?_
              rotate_left
              · (intro wS hSw; (try dsimp only at hSw); go_simp; (try rw [if_neg (by omega)]); try with_reducible rfl)
              simp only [Act.put, List.setIfInBounds_toArray, List.set_cons_zero, List.set_cons_succ]
              refine AtF.taked (i := 15) (v := ?_) (some 26) rfl rfl (by kernel_rfl) (by kernel_rfl) (by kernel_rfl) (anc_path [] _ _ (by kernel_rfl) (by kernel_rfl)) (fun _ _ _ h => h) (Or.inl ⟨by kernel_rfl, ?_⟩) hS rfl ?_
              rotate_left
              · (intro wS hSw; (try dsimp only at hSw); go_simp; (try rw [if_neg (by omega)]); try with_reducible rfl)
              simp only [Act.put, List.setIfInBounds_toArray, List.set_cons_zero, List.set_cons_succ]
              refine AtF.taked (i := 16) (v := ?_) (some 27) rfl rfl (by kernel_rfl) (by kernel_rfl) (by kernel_rfl) (anc_path [] _ _ (by kernel_rfl) (by kernel_rfl)) (fun _ _ _ h => h) (Or.inl ⟨by kernel_rfl, ?_⟩) hS rfl ?_
              rotate_left
              · (intro wS hSw; (try dsimp only at hSw); go_simp; (try rw [if_neg (by omega)]); try with_reducible rfl)
              simp only [Act.put, List.setIfInBounds_toArray, List.set_cons_zero, List.set_cons_succ]
              refine AtF.only (i := 18) (by kernel_rfl) rfl rfl ?_
              intro K hK
              have kk1 := (hM.row (.there .here)).cell
              have ff1 := (hM.row (.there .here)).free
              have ll1 := (hM.row (.there .here)).lt
              have kk5 := (hM.row (.there (.there (.there (.there (.there .here)))))).cell
              have ff5 := (hM.row (.there (.there (.there (.there (.there .here)))))).free
              have ll5 := (hM.row (.there (.there (.there (.there (.there .here)))))).lt
              go_simp
              clear kk1 ff1 ll1 kk5 ff5 ll5
              refine hK.out _ _ (by apply Mem.tail; apply Mem.tail; apply Mem.tail; apply Mem.tail; (repeat' (first | with_reducible exact hM | with_reducible exact hMp | with_reducible apply Mem.drew | with_reducible apply Mem.drewN | with_reducible apply Mem.alloc | with_reducible apply Mem.set | with_reducible exact Sto.row | ((with_reducible refine Sto.rowEq2 ?_ ?_); omega; rfl) | ((with_reducible refine Sto.rowEq ?_); omega) | with_reducible apply Sto.int | with_reducible apply Sto.there | with_reducible assumption | (unfold I64; omega) | (with_reducible (have hMx := Mem.undrew hM; exact hMx)) | (with_reducible (have hMx := Mem.undrew hMp; exact hMx))))) ?_
              clear hK K hS
              apply Mem.atF
              · (repeat' (first | with_reducible exact hM | with_reducible exact hMp | with_reducible apply Mem.drew | with_reducible apply Mem.drewN | with_reducible apply Mem.alloc | with_reducible apply Mem.set | with_reducible exact Sto.row | ((with_reducible refine Sto.rowEq2 ?_ ?_); omega; rfl) | ((with_reducible refine Sto.rowEq ?_); omega) | with_reducible apply Sto.int | with_reducible apply Sto.there | with_reducible assumption | (unfold I64; omega) | (with_reducible (have hMx := Mem.undrew hM; exact hMx)) | (with_reducible (have hMx := Mem.undrew hMp; exact hMx))))
              clear hM
              intro hM
              (try simp only [World.size_alloc, World.size_setCell, World.heap_drewN, heapDrew, Nat.add_assoc, Nat.reduceAdd, List.setIfInBounds_toArray, List.set_cons_zero, List.set_cons_succ, List.cons_append, List.nil_append] at hM)
              have hS := hM.tail.tail.tail.tail
              refine AtF.last (by kernel_rfl) rfl (by kernel_rfl) ?_
              intro K hK
              clear hS
              go_simp
              refine hK.out _ _ ?_
              clear hK K
              go_wp2_with fail
              go_meet
              refine ⟨_, W, H, t, b1, n1, d1, xs2, b2, n2, d2, fs, b3, n3, d3, ws, rfl, HI, ?_⟩
              apply Mem.pick (is := [1, 0, 3, 6, 7])
              · (repeat' (first | with_reducible exact hM | with_reducible exact hMp | with_reducible apply Mem.drew | with_reducible apply Mem.drewN | with_reducible apply Mem.alloc | with_reducible apply Mem.set | with_reducible exact Sto.row | ((with_reducible refine Sto.rowEq2 ?_ ?_); omega; rfl) | ((with_reducible refine Sto.rowEq ?_); omega) | with_reducible apply Sto.int | with_reducible apply Sto.there | with_reducible assumption | (unfold I64; omega) | (with_reducible (have hMx := Mem.undrew hM; exact hMx)) | (with_reducible (have hMx := Mem.undrew hMp; exact hMx))))
              · decide
              · rfl
          · skip
            intro K hK
            go_simp
            refine hK.out _ _ (by apply Mem.tail; apply Mem.tail; apply Mem.tail; (repeat' (first | with_reducible exact hM | with_reducible exact hMp | with_reducible apply Mem.drew | with_reducible apply Mem.drewN | with_reducible apply Mem.alloc | with_reducible apply Mem.set | with_reducible exact Sto.row | ((with_reducible refine Sto.rowEq2 ?_ ?_); omega; rfl) | ((with_reducible refine Sto.rowEq ?_); omega) | with_reducible apply Sto.int | with_reducible apply Sto.there | with_reducible assumption | (unfold I64; omega) | (with_reducible (have hMx := Mem.undrew hM; exact hMx)) | (with_reducible (have hMx := Mem.undrew hMp; exact hMx))))) ?_
            clear hK K hS
            have hMp := hM
            apply Mem.atF
            · (repeat' (first | with_reducible exact hM | with_reducible exact hMp | with_reducible apply Mem.drew | with_reducible apply Mem.drewN | with_reducible apply Mem.alloc | with_reducible apply Mem.set | with_reducible exact Sto.row | ((with_reducible refine Sto.rowEq2 ?_ ?_); omega; rfl) | ((with_reducible refine Sto.rowEq ?_); omega) | with_reducible apply Sto.int | with_reducible apply Sto.there | with_reducible assumption | (unfold I64; omega) | (with_reducible (have hMx := Mem.undrew hM; exact hMx)) | (with_reducible (have hMx := Mem.undrew hMp; exact hMx))))
            clear hM
            intro hM
            (try simp only [World.size_alloc, World.size_setCell, World.heap_drewN, heapDrew, Nat.add_assoc, Nat.reduceAdd, List.setIfInBounds_toArray, List.set_cons_zero, List.set_cons_succ, List.cons_append, List.nil_append] at hM)
            have hS := hM.tail.tail.tail
            refine AtF.only (i := 12) (by kernel_rfl) rfl rfl ?_
            intro K hK
            go_simp
            refine (l1PutS_any _ r1 r2 xs.length (by omega) (by omega) (by omega) (.there .here) hM).mono ?_
            rintro e w5 ⟨g5, c5, ys, hys, rfl, hm⟩
            clear hM
            have hM := hm
            clear hm
            try dsimp only at hM
            try dsimp only
            refine hK.out _ _ (hM.tail.tail.tail) ?_
            clear hK K hS
            have hS := hM.tail.tail.tail
            refine AtF.only (i := 13) (by kernel_rfl) rfl rfl ?_
            intro K hK
            go_simp
            refine (newOk_any Wn Hn a' xs.length c' xs _ ys.length c5 ys _ HG.out (hM.intsR (.there (.there (.there .here)))) (hM.intsR (.there .here)) hys).mono ?_
            rintro e w6 ⟨W, H, t, b1, n1, d1, xs2, b2, n2, d2, fs, b3, n3, d3, ws, rfl, hi, hm⟩
            have HI := Lib.hid (hi rfl)
            clear hi
            replace hM := hM.join hm
            clear hm
            dsimp only [List.cons_append, List.nil_append] at hM
            try dsimp only
            refine hK.out _ _ (hM.tail.tail.tail.tail) ?_
            clear hK K hS
            have hS := hM.tail.tail.tail.tail
            refine AtF.taked (i := 14) (v := ?_) (some 11) rfl rfl (by kernel_rfl) (by kernel_rfl) (by kernel_rfl) (anc_path [] _ _ (by kernel_rfl) (by kernel_rfl)) (fun _ _ _ h => h) (Or.inl ⟨by kernel_rfl, ?_⟩) hS rfl ?_
            rotate_left
            · (intro wS hSw; (try dsimp only at hSw); go_simp; (try rw [if_neg (by omega)]); try with_reducible rfl)
            simp only [Act.put, List.setIfInBounds_toArray, List.set_cons_zero, List.set_cons_succ]
            refine AtF.taked (i := 15) (v := ?_) (some 26) rfl rfl (by kernel_rfl) (by kernel_rfl) (by kernel_rfl) (anc_path [] _ _ (by kernel_rfl) (by kernel_rfl)) (fun _ _ _ h => h) (Or.inl ⟨by kernel_rfl, ?_⟩) hS rfl ?_
            rotate_left
            · (intro wS hSw; (try dsimp only at hSw); go_simp; (try rw [if_neg (by omega)]); try with_reducible rfl)
            simp only [Act.put, List.setIfInBounds_toArray, List.set_cons_zero, List.set_cons_succ]
            refine AtF.taked (i := 16) (v := ?_) (some 27) rfl rfl (by kernel_rfl) (by kernel_rfl) (by kernel_rfl) (anc_path [] _ _ (by kernel_rfl) (by kernel_rfl)) (fun _ _ _ h => h) (Or.inl ⟨by kernel_rfl, ?_⟩) hS rfl ?_
            rotate_left
            · (intro wS hSw; (try dsimp only at hSw); go_simp; (try rw [if_neg (by omega)]); try with_reducible rfl)
            simp only [Act.put, List.setIfInBounds_toArray, List.set_cons_zero, List.set_cons_succ]
            refine AtF.only (i := 18) (by kernel_rfl) rfl rfl ?_
            intro K hK
            have kk1 := (hM.row (.there .here)).cell
            have ff1 := (hM.row (.there .here)).free
            have ll1 := (hM.row (.there .here)).lt
            have kk5 := (hM.row (.there (.there (.there (.there (.there .here)))))).cell
            have ff5 := (hM.row (.there (.there (.there (.there (.there .here)))))).free
            have ll5 := (hM.row (.there (.there (.there (.there (.there .here)))))).lt
            go_simp
            clear kk1 ff1 ll1 kk5 ff5 ll5
            refine hK.out _ _ (by apply Mem.tail; apply Mem.tail; apply Mem.tail; apply Mem.tail; (repeat' (first | with_reducible exact hM | with_reducible exact hMp | with_reducible apply Mem.drew | with_reducible apply Mem.drewN | with_reducible apply Mem.alloc | with_reducible apply Mem.set | with_reducible exact Sto.row | ((with_reducible refine Sto.rowEq2 ?_ ?_); omega; rfl) | ((with_reducible refine Sto.rowEq ?_); omega) | with_reducible apply Sto.int | with_reducible apply Sto.there | with_reducible assumption | (unfold I64; omega) | (with_reducible (have hMx := Mem.undrew hM; exact hMx)) | (with_reducible (have hMx := Mem.undrew hMp; exact hMx))))) ?_
            clear hK K hS
            apply Mem.atF
            · (repeat' (first | with_reducible exact hM | with_reducible exact hMp | with_reducible apply Mem.drew | with_reducible apply Mem.drewN | with_reducible apply Mem.alloc | with_reducible apply Mem.set | with_reducible exact Sto.row | ((with_reducible refine Sto.rowEq2 ?_ ?_); omega; rfl) | ((with_reducible refine Sto.rowEq ?_); omega) | with_reducible apply Sto.int | with_reducible apply Sto.there | with_reducible assumption | (unfold I64; omega) | (with_reducible (have hMx := Mem.undrew hM; exact hMx)) | (with_reducible (have hMx := Mem.undrew hMp; exact hMx))))
            clear hM
            intro hM
            (try simp only [World.size_alloc, World.size_setCell, World.heap_drewN, heapDrew, Nat.add_assoc, Nat.reduceAdd, List.setIfInBounds_toArray, List.set_cons_zero, List.set_cons_succ, List.cons_append, List.nil_append] at hM)
            have hS := hM.tail.tail.tail.tail
            refine AtF.last (by kernel_rfl) rfl (by kernel_rfl) ?_
            intro K hK
            clear hS
            go_simp
            refine hK.out _ _ ?_
            clear hK K
            go_wp2_with fail
            go_meet
            refine ⟨_, W, H, t, b1, n1, d1, xs2, b2, n2, d2, fs, b3, n3, d3, ws, rfl, HI, ?_⟩
            apply Mem.pick (is := [1, 0, 3, 6, 7])
            · (repeat' (first | with_reducible exact hM | with_reducible exact hMp | with_reducible apply Mem.drew | with_reducible apply Mem.drewN | with_reducible apply Mem.alloc | with_reducible apply Mem.set | with_reducible exact Sto.row | ((with_reducible refine Sto.rowEq2 ?_ ?_); omega; rfl) | ((with_reducible refine Sto.rowEq ?_); omega) | with_reducible apply Sto.int | with_reducible apply Sto.there | with_reducible assumption | (unfold I64; omega) | (with_reducible (have hMx := Mem.undrew hM; exact hMx)) | (with_reducible (have hMx := Mem.undrew hMp; exact hMx))))
            · decide
            · rfl
        · skip
          intro K hK
          go_simp
          refine hK.out _ _ (by apply Mem.tail; apply Mem.tail; (repeat' (first | with_reducible exact hM | with_reducible exact hMp | with_reducible apply Mem.drew | with_reducible apply Mem.drewN | with_reducible apply Mem.alloc | with_reducible apply Mem.set | with_reducible exact Sto.row | ((with_reducible refine Sto.rowEq2 ?_ ?_); omega; rfl) | ((with_reducible refine Sto.rowEq ?_); omega) | with_reducible apply Sto.int | with_reducible apply Sto.there | with_reducible assumption | (unfold I64; omega) | (with_reducible (have hMx := Mem.undrew hM; exact hMx)) | (with_reducible (have hMx := Mem.undrew hMp; exact hMx))))) ?_
          clear hK K hS
          have hMp := hM
          apply Mem.atF
          · (repeat' (first | with_reducible exact hM | with_reducible exact hMp | with_reducible apply Mem.drew | with_reducible apply Mem.drewN | with_reducible apply Mem.alloc | with_reducible apply Mem.set | with_reducible exact Sto.row | ((with_reducible refine Sto.rowEq2 ?_ ?_); omega; rfl) | ((with_reducible refine Sto.rowEq ?_); omega) | with_reducible apply Sto.int | with_reducible apply Sto.there | with_reducible assumption | (unfold I64; omega) | (with_reducible (have hMx := Mem.undrew hM; exact hMx)) | (with_reducible (have hMx := Mem.undrew hMp; exact hMx))))
          clear hM
          intro hM
          (try simp only [World.size_alloc, World.size_setCell, World.heap_drewN, heapDrew, Nat.add_assoc, Nat.reduceAdd, List.setIfInBounds_toArray, List.set_cons_zero, List.set_cons_succ, List.cons_append, List.nil_append] at hM)
          have hS := hM.tail.tail
          refine AtF.only (i := 6) (by kernel_rfl) rfl rfl ?_
          intro K hK
          go_simp
          refine hK.out _ _ (by apply Mem.tail; apply Mem.tail; apply Mem.tail; (repeat' (first | with_reducible exact hM | with_reducible exact hMp | with_reducible apply Mem.drew | with_reducible apply Mem.drewN | with_reducible apply Mem.alloc | with_reducible apply Mem.set | with_reducible exact Sto.row | ((with_reducible refine Sto.rowEq2 ?_ ?_); omega; rfl) | ((with_reducible refine Sto.rowEq ?_); omega) | with_reducible apply Sto.int | with_reducible apply Sto.there | with_reducible assumption | (unfold I64; omega) | (with_reducible (have hMx := Mem.undrew hM; exact hMx)) | (with_reducible (have hMx := Mem.undrew hMp; exact hMx))))) ?_
          clear hK K hS
          have hMp := hM
          apply Mem.atF
          · (repeat' (first | with_reducible exact hM | with_reducible exact hMp | with_reducible apply Mem.drew | with_reducible apply Mem.drewN | with_reducible apply Mem.alloc | with_reducible apply Mem.set | with_reducible exact Sto.row | ((with_reducible refine Sto.rowEq2 ?_ ?_); omega; rfl) | ((with_reducible refine Sto.rowEq ?_); omega) | with_reducible apply Sto.int | with_reducible apply Sto.there | with_reducible assumption | (unfold I64; omega) | (with_reducible (have hMx := Mem.undrew hM; exact hMx)) | (with_reducible (have hMx := Mem.undrew hMp; exact hMx))))
          clear hM
          intro hM
          (try simp only [World.size_alloc, World.size_setCell, World.heap_drewN, heapDrew, Nat.add_assoc, Nat.reduceAdd, List.setIfInBounds_toArray, List.set_cons_zero, List.set_cons_succ, List.cons_append, List.nil_append] at hM)
          have hS := hM.tail.tail.tail
          refine AtF.only (i := 12) (by kernel_rfl) rfl rfl ?_
          intro K hK
          go_simp
          refine (l1PutS_any _ r1 r2 xs.length (by omega) (by omega) (by omega) .here hM).mono ?_
          rintro e w5 ⟨g5, c5, ys, hys, rfl, hm⟩
          clear hM
          have hM := hm
          clear hm
          try dsimp only at hM
          try dsimp only
          refine hK.out _ _ (hM.tail.tail.tail) ?_
          clear hK K hS
          have hS := hM.tail.tail.tail
          refine AtF.only (i := 13) (by kernel_rfl) rfl rfl ?_
          intro K hK
          go_simp
          refine (newOk_any Wn Hn a' xs.length c' xs _ ys.length c5 ys _ HG.out (hM.intsR (.there (.there (.there .here)))) (hM.intsR .here) hys).mono ?_
          rintro e w6 ⟨W, H, t, b1, n1, d1, xs2, b2, n2, d2, fs, b3, n3, d3, ws, rfl, hi, hm⟩
          have HI := Lib.hid (hi rfl)
          clear hi
          replace hM := hM.join hm
          clear hm
          dsimp only [List.cons_append, List.nil_append] at hM
          try dsimp only
          refine hK.out _ _ (hM.tail.tail.tail.tail) ?_
          clear hK K hS
          have hS := hM.tail.tail.tail.tail
          refine AtF.taked (i := 14) (v := ?_) (some 11) rfl rfl (by kernel_rfl) (by kernel_rfl) (by kernel_rfl) (anc_path [] _ _ (by kernel_rfl) (by kernel_rfl)) (fun _ _ _ h => h) (Or.inl ⟨by kernel_rfl, ?_⟩) hS rfl ?_
          rotate_left
          · (intro wS hSw; (try dsimp only at hSw); go_simp; (try rw [if_neg (by omega)]); try with_reducible rfl)
          simp only [Act.put, List.setIfInBounds_toArray, List.set_cons_zero, List.set_cons_succ]
          refine AtF.taked (i := 15) (v := ?_) (some 26) rfl rfl (by kernel_rfl) (by kernel_rfl) (by kernel_rfl) (anc_path [] _ _ (by kernel_rfl) (by kernel_rfl)) (fun _ _ _ h => h) (Or.inl ⟨by kernel_rfl, ?_⟩) hS rfl ?_
          rotate_left
          · (intro wS hSw; (try dsimp only at hSw); go_simp; (try rw [if_neg (by omega)]); try with_reducible rfl)
          simp only [Act.put, List.setIfInBounds_toArray, List.set_cons_zero, List.set_cons_succ]
          refine AtF.taked (i := 16) (v := ?_) (some 27) rfl rfl (by kernel_rfl) (by kernel_rfl) (by kernel_rfl) (anc_path [] _ _ (by kernel_rfl) (by kernel_rfl)) (fun _ _ _ h => h) (Or.inl ⟨by kernel_rfl, ?_⟩) hS rfl ?_
          rotate_left
          · (intro wS hSw; (try dsimp only at hSw); go_simp; (try rw [if_neg (by omega)]); try with_reducible rfl)
          simp only [Act.put, List.setIfInBounds_toArray, List.set_cons_zero, List.set_cons_succ]
          refine AtF.only (i := 18) (by kernel_rfl) rfl rfl ?_
          intro K hK
          have kk2 := (hM.row (.there (.there .here))).cell
          have ff2 := (hM.row (.there (.there .here))).free
          have ll2 := (hM.row (.there (.there .here))).lt
          have kk5 := (hM.row (.there (.there (.there (.there (.there .here)))))).cell
          have ff5 := (hM.row (.there (.there (.there (.there (.there .here)))))).free
          have ll5 := (hM.row (.there (.there (.there (.there (.there .here)))))).lt
          go_simp
          clear kk2 ff2 ll2 kk5 ff5 ll5
          refine hK.out _ _ (by apply Mem.tail; apply Mem.tail; apply Mem.tail; apply Mem.tail; (repeat' (first | with_reducible exact hM | with_reducible exact hMp | with_reducible apply Mem.drew | with_reducible apply Mem.drewN | with_reducible apply Mem.alloc | with_reducible apply Mem.set | with_reducible exact Sto.row | ((with_reducible refine Sto.rowEq2 ?_ ?_); omega; rfl) | ((with_reducible refine Sto.rowEq ?_); omega) | with_reducible apply Sto.int | with_reducible apply Sto.there | with_reducible assumption | (unfold I64; omega) | (with_reducible (have hMx := Mem.undrew hM; exact hMx)) | (with_reducible (have hMx := Mem.undrew hMp; exact hMx))))) ?_
          clear hK K hS
          apply Mem.atF
          · (repeat' (first | with_reducible exact hM | with_reducible exact hMp | with_reducible apply Mem.drew | with_reducible apply Mem.drewN | with_reducible apply Mem.alloc | with_reducible apply Mem.set | with_reducible exact Sto.row | ((with_reducible refine Sto.rowEq2 ?_ ?_); omega; rfl) | ((with_reducible refine Sto.rowEq ?_); omega) | with_reducible apply Sto.int | with_reducible apply Sto.there | with_reducible assumption | (unfold I64; omega) | (with_reducible (have hMx := Mem.undrew hM; exact hMx)) | (with_reducible (have hMx := Mem.undrew hMp; exact hMx))))
          clear hM
          intro hM
          (try simp only [World.size_alloc, World.size_setCell, World.heap_drewN, heapDrew, Nat.add_assoc, Nat.reduceAdd, List.setIfInBounds_toArray, List.set_cons_zero, List.set_cons_succ, List.cons_append, List.nil_append] at hM)
          have hS := hM.tail.tail.tail.tail
          refine AtF.last (by kernel_rfl) rfl (by kernel_rfl) ?_
          intro K hK
          clear hS
          go_simp
          refine hK.out _ _ ?_
          clear hK K
          go_wp2_with fail
          go_meet
          refine ⟨_, W, H, t, b1, n1, d1, xs2, b2, n2, d2, fs, b3, n3, d3, ws, rfl, HI, ?_⟩
          apply Mem.pick (is := [2, 0, 3, 6, 7])
          · (repeat' (first | with_reducible exact hM | with_reducible exact hMp | with_reducible apply Mem.drew | with_reducible apply Mem.drewN | with_reducible apply Mem.alloc | with_reducible apply Mem.set | with_reducible exact Sto.row | ((with_reducible refine Sto.rowEq2 ?_ ?_); omega; rfl) | ((with_reducible refine Sto.rowEq ?_); omega) | with_reducible apply Sto.int | with_reducible apply Sto.there | with_reducible assumption | (unfold I64; omega) | (with_reducible (have hMx := Mem.undrew hM; exact hMx)) | (with_reducible (have hMx := Mem.undrew hMp; exact hMx))))
          · decide
          · rfl
      · skip
        intro K hK
        go_simp
        refine hK.out _ _ (by apply Mem.tail; apply Mem.tail; (repeat' (first | with_reducible exact hM | with_reducible exact hMp | with_reducible apply Mem.drew | with_reducible apply Mem.drewN | with_reducible apply Mem.alloc | with_reducible apply Mem.set | with_reducible exact Sto.row | ((with_reducible refine Sto.rowEq2 ?_ ?_); omega; rfl) | ((with_reducible refine Sto.rowEq ?_); omega) | with_reducible apply Sto.int | with_reducible apply Sto.there | with_reducible assumption | (unfold I64; omega) | (with_reducible (have hMx := Mem.undrew hM; exact hMx)) | (with_reducible (have hMx := Mem.undrew hMp; exact hMx))))) ?_
        clear hK K hS
        have hMp := hM
        apply Mem.atF
        · (repeat' (first | with_reducible exact hM | with_reducible exact hMp | with_reducible apply Mem.drew | with_reducible apply Mem.drewN | with_reducible apply Mem.alloc | with_reducible apply Mem.set | with_reducible exact Sto.row | ((with_reducible refine Sto.rowEq2 ?_ ?_); omega; rfl) | ((with_reducible refine Sto.rowEq ?_); omega) | with_reducible apply Sto.int | with_reducible apply Sto.there | with_reducible assumption | (unfold I64; omega) | (with_reducible (have hMx := Mem.undrew hM; exact hMx)) | (with_reducible (have hMx := Mem.undrew hMp; exact hMx))))
        clear hM
        intro hM
        (try simp only [World.size_alloc, World.size_setCell, World.heap_drewN, heapDrew, Nat.add_assoc, Nat.reduceAdd, List.setIfInBounds_toArray, List.set_cons_zero, List.set_cons_succ, List.cons_append, List.nil_append] at hM)
        have hS := hM.tail.tail
        refine AtF.two (i := 6) (j := 11) (by kernel_rfl) rfl rfl rfl rfl ?_ ?_
        · skip
          intro K hK
          go_simp
          refine hK.out _ _ (by apply Mem.tail; apply Mem.tail; apply Mem.tail; (repeat' (first | with_reducible exact hM | with_reducible exact hMp | with_reducible apply Mem.drew | with_reducible apply Mem.drewN | with_reducible apply Mem.alloc | with_reducible apply Mem.set | with_reducible exact Sto.row | ((with_reducible refine Sto.rowEq2 ?_ ?_); omega; rfl) | ((with_reducible refine Sto.rowEq ?_); omega) | with_reducible apply Sto.int | with_reducible apply Sto.there | with_reducible assumption | (unfold I64; omega) | (with_reducible (have hMx := Mem.undrew hM; exact hMx)) | (with_reducible (have hMx := Mem.undrew hMp; exact hMx))))) ?_
          clear hK K hS
          have hMp := hM
          apply Mem.atF
          · (repeat' (first | with_reducible exact hM | with_reducible exact hMp | with_reducible apply Mem.drew | with_reducible apply Mem.drewN | with_reducible apply Mem.alloc | with_reducible apply Mem.set | with_reducible exact Sto.row | ((with_reducible refine Sto.rowEq2 ?_ ?_); omega; rfl) | ((with_reducible refine Sto.rowEq ?_); omega) | with_reducible apply Sto.int | with_reducible apply Sto.there | with_reducible assumption | (unfold I64; omega) | (with_reducible (have hMx := Mem.undrew hM; exact hMx)) | (with_reducible (have hMx := Mem.undrew hMp; exact hMx))))
          clear hM
          intro hM
          (try simp only [World.size_alloc, World.size_setCell, World.heap_drewN, heapDrew, Nat.add_assoc, Nat.reduceAdd, List.setIfInBounds_toArray, List.set_cons_zero, List.set_cons_succ, List.cons_append, List.nil_append] at hM)
          have hS := hM.tail.tail.tail
          refine AtF.only (i := 11) (by kernel_rfl) rfl rfl ?_
          intro K hK
          go_simp
          refine (pick_any (xs.length : Int) HC.out hM (.there (.there .here)) (by omega)).mono ?_
          rintro e w4 ⟨r2, hr, -, rfl, hm⟩
          have i2 := pick_lt hr (by omega)
          clear hM hr
          have hM := hm
          clear hm
          try dsimp only at hM
          try dsimp only
          refine hK.out _ _ (hM.tail.tail.tail) ?_
          clear hK K hS
          have hS := hM.tail.tail.tail
          refine AtF.only (i := 12) (by kernel_rfl) rfl rfl ?_
          intro K hK
          go_simp
          refine (l1PutS_any _ r1 r2 xs.length (by omega) (by omega) (by omega) .here hM).mono ?_
          rintro e w5 ⟨g5, c5, ys, hys, rfl, hm⟩
          clear hM
          have hM := hm
          clear hm
          try dsimp only at hM
          try dsimp only
          refine hK.out _ _ (hM.tail.tail.tail) ?_
          clear hK K hS
          have hS := hM.tail.tail.tail
          refine AtF.only (i := 13) (by kernel_rfl) rfl rfl ?_
          intro K hK
          go_simp
          refine (newOk_any Wn Hn a' xs.length c' xs _ ys.length c5 ys _ HG.out (hM.intsR (.there (.there (.there .here)))) (hM.intsR .here) hys).mono ?_
          rintro e w6 ⟨W, H, t, b1, n1, d1, xs2, b2, n2, d2, fs, b3, n3, d3, ws, rfl, hi, hm⟩
          have HI := Lib.hid (hi rfl)
          clear hi
          replace hM := hM.join hm
          clear hm
          dsimp only [List.cons_append, List.nil_append] at hM
          try dsimp only
          refine hK.out _ _ (hM.tail.tail.tail.tail) ?_
          clear hK K hS
          have hS := hM.tail.tail.tail.tail
          refine AtF.taked (i := 14) (v := ?_) (some 11) rfl rfl (by kernel_rfl) (by kernel_rfl) (by kernel_rfl) (anc_path [] _ _ (by kernel_rfl) (by kernel_rfl)) (fun _ _ _ h => h) (Or.inl ⟨by kernel_rfl, ?_⟩) hS rfl ?_
          rotate_left
          · (intro wS hSw; (try dsimp only at hSw); go_simp; (try rw [if_neg (by omega)]); try with_reducible rfl)
          simp only [Act.put, List.setIfInBounds_toArray, List.set_cons_zero, List.set_cons_succ]
          refine AtF.taked (i := 15) (v := ?_) (some 26) rfl rfl (by kernel_rfl) (by kernel_rfl) (by kernel_rfl) (anc_path [] _ _ (by kernel_rfl) (by kernel_rfl)) (fun _ _ _ h => h) (Or.inl ⟨by kernel_rfl, ?_⟩) hS rfl ?_
          rotate_left
          · (intro wS hSw; (try dsimp only at hSw); go_simp; (try rw [if_neg (by omega)]); try with_reducible rfl)
          simp only [Act.put, List.setIfInBounds_toArray, List.set_cons_zero, List.set_cons_succ]
          refine AtF.taked (i := 16) (v := ?_) (some 27) rfl rfl (by kernel_rfl) (by kernel_rfl) (by kernel_rfl) (anc_path [] _ _ (by kernel_rfl) (by kernel_rfl)) (fun _ _ _ h => h) (Or.inl ⟨by kernel_rfl, ?_⟩) hS rfl ?_
          rotate_left
          · (intro wS hSw; (try dsimp only at hSw); go_simp; (try rw [if_neg (by omega)]); try with_reducible rfl)
          simp only [Act.put, List.setIfInBounds_toArray, List.set_cons_zero, List.set_cons_succ]
          refine AtF.only (i := 18) (by kernel_rfl) rfl rfl ?_
          intro K hK
          have kk2 := (hM.row (.there (.there .here))).cell
          have ff2 := (hM.row (.there (.there .here))).free
          have ll2 := (hM.row (.there (.there .here))).lt
          have kk5 := (hM.row (.there (.there (.there (.there (.there .here)))))).cell
          have ff5 := (hM.row (.there (.there (.there (.there (.there .here)))))).free
          have ll5 := (hM.row (.there (.there (.there (.there (.there .here)))))).lt
          go_simp
          clear kk2 ff2 ll2 kk5 ff5 ll5
          refine hK.out _ _ (by apply Mem.tail; apply Mem.tail; apply Mem.tail; apply Mem.tail; (repeat' (first | with_reducible exact hM | with_reducible exact hMp | with_reducible apply Mem.drew | with_reducible apply Mem.drewN | with_reducible apply Mem.alloc | with_reducible apply Mem.set | with_reducible exact Sto.row | ((with_reducible refine Sto.rowEq2 ?_ ?_); omega; rfl) | ((with_reducible refine Sto.rowEq ?_); omega) | with_reducible apply Sto.int | with_reducible apply Sto.there | with_reducible assumption | (unfold I64; omega) | (with_reducible (have hMx := Mem.undrew hM; exact hMx)) | (with_reducible (have hMx := Mem.undrew hMp; exact hMx))))) ?_
          clear hK K hS
          apply Mem.atF
          · (repeat' (first | with_reducible exact hM | with_reducible exact hMp | with_reducible apply Mem.drew | with_reducible apply Mem.drewN | with_reducible apply Mem.alloc | with_reducible apply Mem.set | with_reducible exact Sto.row | ((with_reducible refine Sto.rowEq2 ?_ ?_); omega; rfl) | ((with_reducible refine Sto.rowEq ?_); omega) | with_reducible apply Sto.int | with_reducible apply Sto.there | with_reducible assumption | (unfold I64; omega) | (with_reducible (have hMx := Mem.undrew hM; exact hMx)) | (with_reducible (have hMx := Mem.undrew hMp; exact hMx))))
          clear hM
          intro hM
          (try simp only [World.size_alloc, World.size_setCell, World.heap_drewN, heapDrew, Nat.add_assoc, Nat.reduceAdd, List.setIfInBounds_toArray, List.set_cons_zero, List.set_cons_succ, List.cons_append, List.nil_append] at hM)
          have hS := hM.tail.tail.tail.tail
          refine AtF.last (by kernel_rfl) rfl (by kernel_rfl) ?_
          intro K hK
          clear hS
          go_simp
          refine hK.out _ _ ?_
          clear hK K
          go_wp2_with fail
          go_meet
          refine ⟨_, W, H, t, b1, n1, d1, xs2, b2, n2, d2, fs, b3, n3, d3, ws, rfl, HI, ?_⟩
          apply Mem.pick (is := [2, 0, 3, 6, 7])
          · (repeat' (first | with_reducible exact hM | with_reducible exact hMp | with_reducible apply Mem.drew | with_reducible apply Mem.drewN | with_reducible apply Mem.alloc | with_reducible apply Mem.set | with_reducible exact Sto.row | ((with_reducible refine Sto.rowEq2 ?_ ?_); omega; rfl) | ((with_reducible refine Sto.rowEq ?_); omega) | with_reducible apply Sto.int | with_reducible apply Sto.there | with_reducible assumption | (unfold I64; omega) | (with_reducible (have hMx := Mem.undrew hM; exact hMx)) | (with_reducible (have hMx := Mem.undrew hMp; exact hMx))))
          · decide
          · rfl
        · skip
          intro K hK
          go_simp
          refine (pick_any (xs.length : Int) HC.out hM (.there .here) (by omega)).mono ?_
          rintro e w4 ⟨r2, hr, -, rfl, hm⟩
          have i2 := pick_lt hr (by omega)
          clear hM hr
          have hM := hm
          clear hm
          try dsimp only at hM
          try dsimp only
          refine hK.out _ _ (hM.tail.tail) ?_
          clear hK K hS
          have hS := hM.tail.tail
          refine AtF.only (i := 6) (by kernel_rfl) rfl rfl ?_
          intro K hK
          go_simp
          refine hK.out _ _ (by apply Mem.tail; apply Mem.tail; apply Mem.tail; (repeat' (first | with_reducible exact hM | with_reducible exact hMp | with_reducible apply Mem.drew | with_reducible apply Mem.drewN | with_reducible apply Mem.alloc | with_reducible apply Mem.set | with_reducible exact Sto.row | ((with_reducible refine Sto.rowEq2 ?_ ?_); omega; rfl) | ((with_reducible refine Sto.rowEq ?_); omega) | with_reducible apply Sto.int | with_reducible apply Sto.there | with_reducible assumption | (unfold I64; omega) | (with_reducible (have hMx := Mem.undrew hM; exact hMx)) | (with_reducible (have hMx := Mem.undrew hMp; exact hMx))))) ?_
          clear hK K hS
          have hMp := hM
          apply Mem.atF
          · (repeat' (first | with_reducible exact hM | with_reducible exact hMp | with_reducible apply Mem.drew | with_reducible apply Mem.drewN | with_reducible apply Mem.alloc | with_reducible apply Mem.set | with_reducible exact Sto.row | ((with_reducible refine Sto.rowEq2 ?_ ?_); omega; rfl) | ((with_reducible refine Sto.rowEq ?_); omega) | with_reducible apply Sto.int | with_reducible apply Sto.there | with_reducible assumption | (unfold I64; omega) | (with_reducible (have hMx := Mem.undrew hM; exact hMx)) | (with_reducible (have hMx := Mem.undrew hMp; exact hMx))))
          clear hM
          intro hM
          (try simp only [World.size_alloc, World.size_setCell, World.heap_drewN, heapDrew, Nat.add_assoc, Nat.reduceAdd, List.setIfInBounds_toArray, List.set_cons_zero, List.set_cons_succ, List.cons_append, List.nil_append] at hM)
          have hS := hM.tail.tail.tail
          refine AtF.only (i := 12) (by kernel_rfl) rfl rfl ?_
          intro K hK
          go_simp
          refine (l1PutS_any _ r1 r2 xs.length (by omega) (by omega) (by omega) .here hM).mono ?_
          rintro e w5 ⟨g5, c5, ys, hys, rfl, hm⟩
          clear hM
          have hM := hm
          clear hm
          try dsimp only at hM
          try dsimp only
          refine hK.out _ _ (hM.tail.tail.tail) ?_
          clear hK K hS
          have hS := hM.tail.tail.tail
          refine AtF.only (i := 13) (by kernel_rfl) rfl rfl ?_
          intro K hK
          go_simp
          refine (newOk_any Wn Hn a' xs.length c' xs _ ys.length c5 ys _ HG.out (hM.intsR (.there (.there (.there .here)))) (hM.intsR .here) hys).mono ?_
          rintro e w6 ⟨W, H, t, b1, n1, d1, xs2, b2, n2, d2, fs, b3, n3, d3, ws, rfl, hi, hm⟩
          have HI := Lib.hid (hi rfl)
          clear hi
          replace hM := hM.join hm
          clear hm
          dsimp only [List.cons_append, List.nil_append] at hM
          try dsimp only
          refine hK.out _ _ (hM.tail.tail.tail.tail) ?_
          clear hK K hS
          have hS := hM.tail.tail.tail.tail
          refine AtF.taked (i := 14) (v := ?_) (some 11) rfl rfl (by kernel_rfl) (by kernel_rfl) (by kernel_rfl) (anc_path [] _ _ (by kernel_rfl) (by kernel_rfl)) (fun _ _ _ h => h) (Or.inl ⟨by kernel_rfl, ?_⟩) hS rfl ?_
          rotate_left
          · (intro wS hSw; (try dsimp only at hSw); go_simp; (try rw [if_neg (by omega)]); try with_reducible rfl)
          simp only [Act.put, List.setIfInBounds_toArray, List.set_cons_zero, List.set_cons_succ]
          refine AtF.taked (i := 15) (v := ?_) (some 26) rfl rfl (by kernel_rfl) (by kernel_rfl) (by kernel_rfl) (anc_path [] _ _ (by kernel_rfl) (by kernel_rfl)) (fun _ _ _ h => h) (Or.inl ⟨by kernel_rfl, ?_⟩) hS rfl ?_
          rotate_left
          · (intro wS hSw; (try dsimp only at hSw); go_simp; (try rw [if_neg (by omega)]); try with_reducible rfl)
          simp only [Act.put, List.setIfInBounds_toArray, List.set_cons_zero, List.set_cons_succ]
          refine AtF.taked (i := 16) (v := ?_) (some 27) rfl rfl (by kernel_rfl) (by kernel_rfl) (by kernel_rfl) (anc_path [] _ _ (by kernel_rfl) (by kernel_rfl)) (fun _ _ _ h => h) (Or.inl ⟨by kernel_rfl, ?_⟩) hS rfl ?_
          rotate_left
          · (intro wS hSw; (try dsimp only at hSw); go_simp; (try rw [if_neg (by omega)]); try with_reducible rfl)
          simp only [Act.put, List.setIfInBounds_toArray, List.set_cons_zero, List.set_cons_succ]
          refine AtF.only (i := 18) (by kernel_rfl) rfl rfl ?_
          intro K hK
          have kk2 := (hM.row (.there (.there .here))).cell
          have ff2 := (hM.row (.there (.there .here))).free
          have ll2 := (hM.row (.there (.there .here))).lt
          have kk5 := (hM.row (.there (.there (.there (.there (.there .here)))))).cell
          have ff5 := (hM.row (.there (.there (.there (.there (.there .here)))))).free
          have ll5 := (hM.row (.there (.there (.there (.there (.there .here)))))).lt
          go_simp
          clear kk2 ff2 ll2 kk5 ff5 ll5
          refine hK.out _ _ (by apply Mem.tail; apply Mem.tail; apply Mem.tail; apply Mem.tail; (repeat' (first | with_reducible exact hM | with_reducible exact hMp | with_reducible apply Mem.drew | with_reducible apply Mem.drewN | with_reducible apply Mem.alloc | with_reducible apply Mem.set | with_reducible exact Sto.row | ((with_reducible refine Sto.rowEq2 ?_ ?_); omega; rfl) | ((with_reducible refine Sto.rowEq ?_); omega) | with_reducible apply Sto.int | with_reducible apply Sto.there | with_reducible assumption | (unfold I64; omega) | (with_reducible (have hMx := Mem.undrew hM; exact hMx)) | (with_reducible (have hMx := Mem.undrew hMp; exact hMx))))) ?_
          clear hK K hS
          apply Mem.atF
          · (repeat' (first | with_reducible exact hM | with_reducible exact hMp | with_reducible apply Mem.drew | with_reducible apply Mem.drewN | with_reducible apply Mem.alloc | with_reducible apply Mem.set | with_reducible exact Sto.row | ((with_reducible refine Sto.rowEq2 ?_ ?_); omega; rfl) | ((with_reducible refine Sto.rowEq ?_); omega) | with_reducible apply Sto.int | with_reducible apply Sto.there | with_reducible assumption | (unfold I64; omega) | (with_reducible (have hMx := Mem.undrew hM; exact hMx)) | (with_reducible (have hMx := Mem.undrew hMp; exact hMx))))
          clear hM
          intro hM
          (try simp only [World.size_alloc, World.size_setCell, World.heap_drewN, heapDrew, Nat.add_assoc, Nat.reduceAdd, List.setIfInBounds_toArray, List.set_cons_zero, List.set_cons_succ, List.cons_append, List.nil_append] at hM)
          have hS := hM.tail.tail.tail.tail
          refine AtF.last (by kernel_rfl) rfl (by kernel_rfl) ?_
          intro K hK
          clear hS
          go_simp
          refine hK.out _ _ ?_
          clear hK K
          go_wp2_with fail
          go_meet
          refine ⟨_, W, H, t, b1, n1, d1, xs2, b2, n2, d2, fs, b3, n3, d3, ws, rfl, HI, ?_⟩
          apply Mem.pick (is := [2, 0, 3, 6, 7])
          · (repeat' (first | with_reducible exact hM | with_reducible exact hMp | with_reducible apply Mem.drew | with_reducible apply Mem.drewN | with_reducible apply Mem.alloc | with_reducible apply Mem.set | with_reducible exact Sto.row | ((with_reducible refine Sto.rowEq2 ?_ ?_); omega; rfl) | ((with_reducible refine Sto.rowEq ?_); omega) | with_reducible apply Sto.int | with_reducible apply Sto.there | with_reducible assumption | (unfold I64; omega) | (with_reducible (have hMx := Mem.undrew hM; exact hMx)) | (with_reducible (have hMx := Mem.undrew hMp; exact hMx))))
          · decide
          · rfl
    · skip
      intro K hK
      go_simp
      refine hK.out _ _ (by apply Mem.tail; apply Mem.tail; (repeat' (first | with_reducible exact hM | with_reducible exact hMp | with_reducible apply Mem.drew | with_reducible apply Mem.drewN | with_reducible apply Mem.alloc | with_reducible apply Mem.set | with_reducible exact Sto.row | ((with_reducible refine Sto.rowEq2 ?_ ?_); omega; rfl) | ((with_reducible refine Sto.rowEq ?_); omega) | with_reducible apply Sto.int | with_reducible apply Sto.there | with_reducible assumption | (unfold I64; omega) | (with_reducible (have hMx := Mem.undrew hM; exact hMx)) | (with_reducible (have hMx := Mem.undrew hMp; exact hMx))))) ?_
      clear hK K hS
      have hMp := hM
      apply Mem.atF
      · (repeat' (first | with_reducible exact hM | with_reducible exact hMp | with_reducible apply Mem.drew | with_reducible apply Mem.drewN | with_reducible apply Mem.alloc | with_reducible apply Mem.set | with_reducible exact Sto.row | ((with_reducible refine Sto.rowEq2 ?_ ?_); omega; rfl) | ((with_reducible refine Sto.rowEq ?_); omega) | with_reducible apply Sto.int | with_reducible apply Sto.there | with_reducible assumption | (unfold I64; omega) | (with_reducible (have hMx := Mem.undrew hM; exact hMx)) | (with_reducible (have hMx := Mem.undrew hMp; exact hMx))))
      clear hM
      intro hM
      (try simp only [World.size_alloc, World.size_setCell, World.heap_drewN, heapDrew, Nat.add_assoc, Nat.reduceAdd, List.setIfInBounds_toArray, List.set_cons_zero, List.set_cons_succ, List.cons_append, List.nil_append] at hM)
      have hS := hM.tail.tail
      refine AtF.only (i := 5) (by kernel_rfl) rfl rfl ?_
      intro K hK
      go_simp
      refine (pick_any (xs.length : Int) HC.out hM (.there .here) (by omega)).mono ?_
      rintro e w3 ⟨r1, hr, -, rfl, hm⟩
      have i1 := pick_lt hr (by omega)
      clear hM hr
      have hM := hm
      clear hm
      try dsimp only at hM
      try dsimp only
      refine hK.out _ _ (hM.tail.tail) ?_
      clear hK K hS
      have hS := hM.tail.tail
      refine AtF.two (i := 6) (j := 11) (by kernel_rfl) rfl rfl rfl rfl ?_ ?_
      · skip
        intro K hK
        go_simp
        refine hK.out _ _ (by apply Mem.tail; apply Mem.tail; apply Mem.tail; (repeat' (first | with_reducible exact hM | with_reducible exact hMp | with_reducible apply Mem.drew | with_reducible apply Mem.drewN | with_reducible apply Mem.alloc | with_reducible apply Mem.set | with_reducible exact Sto.row | ((with_reducible refine Sto.rowEq2 ?_ ?_); omega; rfl) | ((with_reducible refine Sto.rowEq ?_); omega) | with_reducible apply Sto.int | with_reducible apply Sto.there | with_reducible assumption | (unfold I64; omega) | (with_reducible (have hMx := Mem.undrew hM; exact hMx)) | (with_reducible (have hMx := Mem.undrew hMp; exact hMx))))) ?_
        clear hK K hS
        have hMp := hM
        apply Mem.atF
        · (repeat' (first | with_reducible exact hM | with_reducible exact hMp | with_reducible apply Mem.drew | with_reducible apply Mem.drewN | with_reducible apply Mem.alloc | with_reducible apply Mem.set | with_reducible exact Sto.row | ((with_reducible refine Sto.rowEq2 ?_ ?_); omega; rfl) | ((with_reducible refine Sto.rowEq ?_); omega) | with_reducible apply Sto.int | with_reducible apply Sto.there | with_reducible assumption | (unfold I64; omega) | (with_reducible (have hMx := Mem.undrew hM; exact hMx)) | (with_reducible (have hMx := Mem.undrew hMp; exact hMx))))
        clear hM
        intro hM
        (try simp only [World.size_alloc, World.size_setCell, World.heap_drewN, heapDrew, Nat.add_assoc, Nat.reduceAdd, List.setIfInBounds_toArray, List.set_cons_zero, List.set_cons_succ, List.cons_append, List.nil_append] at hM)
        have hS := hM.tail.tail.tail
        refine AtF.only (i := 11) (by kernel_rfl) rfl rfl ?_
        intro K hK
        go_simp
        refine (pick_any (xs.length : Int) HC.out hM (.there (.there .here)) (by omega)).mono ?_
        rintro e w4 ⟨r2, hr, -, rfl, hm⟩
        have i2 := pick_lt hr (by omega)
        clear hM hr
        have hM := hm
        clear hm
        try dsimp only at hM
        try dsimp only
        refine hK.out _ _ (hM.tail.tail.tail) ?_
        clear hK K hS
        have hS := hM.tail.tail.tail
        refine AtF.only (i := 12) (by kernel_rfl) rfl rfl ?_
        intro K hK
        go_simp
        refine (l1PutS_any _ r1 r2 xs.length (by omega) (by omega) (by omega) .here hM).mono ?_
        rintro e w5 ⟨g5, c5, ys, hys, rfl, hm⟩
        clear hM
        have hM := hm
        clear hm
        try dsimp only at hM
        try dsimp only
        refine hK.out _ _ (hM.tail.tail.tail) ?_
        clear hK K hS
        have hS := hM.tail.tail.tail
        refine AtF.only (i := 13) (by kernel_rfl) rfl rfl ?_
        intro K hK
        go_simp
        refine (newOk_any Wn Hn a' xs.length c' xs _ ys.length c5 ys _ HG.out (hM.intsR (.there (.there (.there .here)))) (hM.intsR .here) hys).mono ?_
        rintro e w6 ⟨W, H, t, b1, n1, d1, xs2, b2, n2, d2, fs, b3, n3, d3, ws, rfl, hi, hm⟩
        have HI := Lib.hid (hi rfl)
        clear hi
        replace hM := hM.join hm
        clear hm
        dsimp only [List.cons_append, List.nil_append] at hM
        try dsimp only
        refine hK.out _ _ (hM.tail.tail.tail.tail) ?_
        clear hK K hS
        have hS := hM.tail.tail.tail.tail
        refine AtF.taked (i := 14) (v := ?_) (some 11) rfl rfl (by kernel_rfl) (by kernel_rfl) (by kernel_rfl) (anc_path [] _ _ (by kernel_rfl) (by kernel_rfl)) (fun _ _ _ h => h) (Or.inl ⟨by kernel_rfl, ?_⟩) hS rfl ?_
        rotate_left
        · (intro wS hSw; (try dsimp only at hSw); go_simp; (try rw [if_neg (by omega)]); try with_reducible rfl)
        simp only [Act.put, List.setIfInBounds_toArray, List.set_cons_zero, List.set_cons_succ]
        refine AtF.taked (i := 15) (v := ?_) (some 26) rfl rfl (by kernel_rfl) (by kernel_rfl) (by kernel_rfl) (anc_path [] _ _ (by kernel_rfl) (by kernel_rfl)) (fun _ _ _ h => h) (Or.inl ⟨by kernel_rfl, ?_⟩) hS rfl ?_
        rotate_left
        · (intro wS hSw; (try dsimp only at hSw); go_simp; (try rw [if_neg (by omega)]); try with_reducible rfl)
        simp only [Act.put, List.setIfInBounds_toArray, List.set_cons_zero, List.set_cons_succ]
        refine AtF.taked (i := 16) (v := ?_) (some 27) rfl rfl (by kernel_rfl) (by kernel_rfl) (by kernel_rfl) (anc_path [] _ _ (by kernel_rfl) (by kernel_rfl)) (fun _ _ _ h => h) (Or.inl ⟨by kernel_rfl, ?_⟩) hS rfl ?_
        rotate_left
        · (intro wS hSw; (try dsimp only at hSw); go_simp; (try rw [if_neg (by omega)]); try with_reducible rfl)
        simp only [Act.put, List.setIfInBounds_toArray, List.set_cons_zero, List.set_cons_succ]
        refine AtF.only (i := 18) (by kernel_rfl) rfl rfl ?_
        intro K hK
        have kk2 := (hM.row (.there (.there .here))).cell
        have ff2 := (hM.row (.there (.there .here))).free
        have ll2 := (hM.row (.there (.there .here))).lt
        have kk5 := (hM.row (.there (.there (.there (.there (.there .here)))))).cell
        have ff5 := (hM.row (.there (.there (.there (.there (.there .here)))))).free
        have ll5 := (hM.row (.there (.there (.there (.there (.there .here)))))).lt
        go_simp
        clear kk2 ff2 ll2 kk5 ff5 ll5
        refine hK.out _ _ (by apply Mem.tail; apply Mem.tail; apply Mem.tail; apply Mem.tail; (repeat' (first | with_reducible exact hM | with_reducible exact hMp | with_reducible apply Mem.drew | with_reducible apply Mem.drewN | with_reducible apply Mem.alloc | with_reducible apply Mem.set | with_reducible exact Sto.row | ((with_reducible refine Sto.rowEq2 ?_ ?_); omega; rfl) | ((with_reducible refine Sto.rowEq ?_); omega) | with_reducible apply Sto.int | with_reducible apply Sto.there | with_reducible assumption | (unfold I64; omega) | (with_reducible (have hMx := Mem.undrew hM; exact hMx)) | (with_reducible (have hMx := Mem.undrew hMp; exact hMx))))) ?_
        clear hK K hS
        apply Mem.atF
        · (repeat' (first | with_reducible exact hM | with_reducible exact hMp | with_reducible apply Mem.drew | with_reducible apply Mem.drewN | with_reducible apply Mem.alloc | with_reducible apply Mem.set | with_reducible exact Sto.row | ((with_reducible refine Sto.rowEq2 ?_ ?_); omega; rfl) | ((with_reducible refine Sto.rowEq ?_); omega) | with_reducible apply Sto.int | with_reducible apply Sto.there | with_reducible assumption | (unfold I64; omega) | (with_reducible (have hMx := Mem.undrew hM; exact hMx)) | (with_reducible (have hMx := Mem.undrew hMp; exact hMx))))
        clear hM
        intro hM
        (try simp only [World.size_alloc, World.size_setCell, World.heap_drewN, heapDrew, Nat.add_assoc, Nat.reduceAdd, List.setIfInBounds_toArray, List.set_cons_zero, List.set_cons_succ, List.cons_append, List.nil_append] at hM)
        have hS := hM.tail.tail.tail.tail
        refine AtF.last (by kernel_rfl) rfl (by kernel_rfl) ?_
        intro K hK
        clear hS
        go_simp
        refine hK.out _ _ ?_
        clear hK K
        go_wp2_with fail
        go_meet
        refine ⟨_, W, H, t, b1, n1, d1, xs2, b2, n2, d2, fs, b3, n3, d3, ws, rfl, HI, ?_⟩
        apply Mem.pick (is := [2, 0, 3, 6, 7])
        · (repeat' (first | with_reducible exact hM | with_reducible exact hMp | with_reducible apply Mem.drew | with_reducible apply Mem.drewN | with_reducible apply Mem.alloc | with_reducible apply Mem.set | with_reducible exact Sto.row | ((with_reducible refine Sto.rowEq2 ?_ ?_); omega; rfl) | ((with_reducible refine Sto.rowEq ?_); omega) | with_reducible apply Sto.int | with_reducible apply Sto.there | with_reducible assumption | (unfold I64; omega) | (with_reducible (have hMx := Mem.undrew hM; exact hMx)) | (with_reducible (have hMx := Mem.undrew hMp; exact hMx))))
        · decide
        · rfl
      · skip
        intro K hK
        go_simp
        refine (pick_any (xs.length : Int) HC.out hM (.there .here) (by omega)).mono ?_
        rintro e w4 ⟨r2, hr, -, rfl, hm⟩
        have i2 := pick_lt hr (by omega)
        clear hM hr
        have hM := hm
        clear hm
        try dsimp only at hM
        try dsimp only
        refine hK.out _ _ (hM.tail.tail) ?_
        clear hK K hS
        have hS := hM.tail.tail
        refine AtF.only (i := 6) (by kernel_rfl) rfl rfl ?_
        intro K hK
        go_simp
        refine hK.out _ _ (by apply Mem.tail; apply Mem.tail; apply Mem.tail; (repeat' (first | with_reducible exact hM | with_reducible exact hMp | with_reducible apply Mem.drew | with_reducible apply Mem.drewN | with_reducible apply Mem.alloc | with_reducible apply Mem.set | with_reducible exact Sto.row | ((with_reducible refine Sto.rowEq2 ?_ ?_); omega; rfl) | ((with_reducible refine Sto.rowEq ?_); omega) | with_reducible apply Sto.int | with_reducible apply Sto.there | with_reducible assumption | (unfold I64; omega) | (with_reducible (have hMx := Mem.undrew hM; exact hMx)) | (with_reducible (have hMx := Mem.undrew hMp; exact hMx))))) ?_
        clear hK K hS
        have hMp := hM
        apply Mem.atF
        · (repeat' (first | with_reducible exact hM | with_reducible exact hMp | with_reducible apply Mem.drew | with_reducible apply Mem.drewN | with_reducible apply Mem.alloc | with_reducible apply Mem.set | with_reducible exact Sto.row | ((with_reducible refine Sto.rowEq2 ?_ ?_); omega; rfl) | ((with_reducible refine Sto.rowEq ?_); omega) | with_reducible apply Sto.int | with_reducible apply Sto.there | with_reducible assumption | (unfold I64; omega) | (with_reducible (have hMx := Mem.undrew hM; exact hMx)) | (with_reducible (have hMx := Mem.undrew hMp; exact hMx))))
        clear hM
        intro hM
        (try simp only [World.size_alloc, World.size_setCell, World.heap_drewN, heapDrew, Nat.add_assoc, Nat.reduceAdd, List.setIfInBounds_toArray, List.set_cons_zero, List.set_cons_succ, List.cons_append, List.nil_append] at hM)
        have hS := hM.tail.tail.tail
        refine AtF.only (i := 12) (by kernel_rfl) rfl rfl ?_
        intro K hK
        go_simp
        refine (l1PutS_any _ r1 r2 xs.length (by omega) (by omega) (by omega) .here hM).mono ?_
        rintro e w5 ⟨g5, c5, ys, hys, rfl, hm⟩
        clear hM
        have hM := hm
        clear hm
        try dsimp only at hM
        try dsimp only
        refine hK.out _ _ (hM.tail.tail.tail) ?_
        clear hK K hS
        have hS := hM.tail.tail.tail
        refine AtF.only (i := 13) (by kernel_rfl) rfl rfl ?_
        intro K hK
        go_simp
        refine (newOk_any Wn Hn a' xs.length c' xs _ ys.length c5 ys _ HG.out (hM.intsR (.there (.there (.there .here)))) (hM.intsR .here) hys).mono ?_
        rintro e w6 ⟨W, H, t, b1, n1, d1, xs2, b2, n2, d2, fs, b3, n3, d3, ws, rfl, hi, hm⟩
        have HI := Lib.hid (hi rfl)
        clear hi
        replace hM := hM.join hm
        clear hm
        dsimp only [List.cons_append, List.nil_append] at hM
        try dsimp only
        refine hK.out _ _ (hM.tail.tail.tail.tail) ?_
        clear hK K hS
        have hS := hM.tail.tail.tail.tail
        refine AtF.taked (i := 14) (v := ?_) (some 11) rfl rfl (by kernel_rfl) (by kernel_rfl) (by kernel_rfl) (anc_path [] _ _ (by kernel_rfl) (by kernel_rfl)) (fun _ _ _ h => h) (Or.inl ⟨by kernel_rfl, ?_⟩) hS rfl ?_
        rotate_left
        · (intro wS hSw; (try dsimp only at hSw); go_simp; (try rw [if_neg (by omega)]); try with_reducible rfl)
        simp only [Act.put, List.setIfInBounds_toArray, List.set_cons_zero, List.set_cons_succ]
        refine AtF.taked (i := 15) (v := ?_) (some 26) rfl rfl (by kernel_rfl) (by kernel_rfl) (by kernel_rfl) (anc_path [] _ _ (by kernel_rfl) (by kernel_rfl)) (fun _ _ _ h => h) (Or.inl ⟨by kernel_rfl, ?_⟩) hS rfl ?_
        rotate_left
        · (intro wS hSw; (try dsimp only at hSw); go_simp; (try rw [if_neg (by omega)]); try with_reducible rfl)
        simp only [Act.put, List.setIfInBounds_toArray, List.set_cons_zero, List.set_cons_succ]
        refine AtF.taked (i := 16) (v := ?_) (some 27) rfl rfl (by kernel_rfl) (by kernel_rfl) (by kernel_rfl) (anc_path [] _ _ (by kernel_rfl) (by kernel_rfl)) (fun _ _ _ h => h) (Or.inl ⟨by kernel_rfl, ?_⟩) hS rfl ?_
        rotate_left
        · (intro wS hSw; (try dsimp only at hSw); go_simp; (try rw [if_neg (by omega)]); try with_reducible rfl)
        simp only [Act.put, List.setIfInBounds_toArray, List.set_cons_zero, List.set_cons_succ]
        refine AtF.only (i := 18) (by kernel_rfl) rfl rfl ?_
        intro K hK
        have kk2 := (hM.row (.there (.there .here))).cell
        have ff2 := (hM.row (.there (.there .here))).free
        have ll2 := (hM.row (.there (.there .here))).lt
        have kk5 := (hM.row (.there (.there (.there (.there (.there .here)))))).cell
        have ff5 := (hM.row (.there (.there (.there (.there (.there .here)))))).free
        have ll5 := (hM.row (.there (.there (.there (.there (.there .here)))))).lt
        go_simp
        clear kk2 ff2 ll2 kk5 ff5 ll5
        refine hK.out _ _ (by apply Mem.tail; apply Mem.tail; apply Mem.tail; apply Mem.tail; (repeat' (first | with_reducible exact hM | with_reducible exact hMp | with_reducible apply Mem.drew | with_reducible apply Mem.drewN | with_reducible apply Mem.alloc | with_reducible apply Mem.set | with_reducible exact Sto.row | ((with_reducible refine Sto.rowEq2 ?_ ?_); omega; rfl) | ((with_reducible refine Sto.rowEq ?_); omega) | with_reducible apply Sto.int | with_reducible apply Sto.there | with_reducible assumption | (unfold I64; omega) | (with_reducible (have hMx := Mem.undrew hM; exact hMx)) | (with_reducible (have hMx := Mem.undrew hMp; exact hMx))))) ?_
        clear hK K hS
        apply Mem.atF
        · (repeat' (first | with_reducible exact hM | with_reducible exact hMp | with_reducible apply Mem.drew | with_reducible apply Mem.drewN | with_reducible apply Mem.alloc | with_reducible apply Mem.set | with_reducible exact Sto.row | ((with_reducible refine Sto.rowEq2 ?_ ?_); omega; rfl) | ((with_reducible refine Sto.rowEq ?_); omega) | with_reducible apply Sto.int | with_reducible apply Sto.there | with_reducible assumption | (unfold I64; omega) | (with_reducible (have hMx := Mem.undrew hM; exact hMx)) | (with_reducible (have hMx := Mem.undrew hMp; exact hMx))))
        clear hM
        intro hM
        (try simp only [World.size_alloc, World.size_setCell, World.heap_drewN, heapDrew, Nat.add_assoc, Nat.reduceAdd, List.setIfInBounds_toArray, List.set_cons_zero, List.set_cons_succ, List.cons_append, List.nil_append] at hM)
        have hS := hM.tail.tail.tail.tail
        refine AtF.last (by kernel_rfl) rfl (by kernel_rfl) ?_
        intro K hK
        clear hS
        go_simp
        refine hK.out _ _ ?_
        clear hK K
        go_wp2_with fail
        go_meet
        refine ⟨_, W, H, t, b1, n1, d1, xs2, b2, n2, d2, fs, b3, n3, d3, ws, rfl, HI, ?_⟩
        apply Mem.pick (is := [2, 0, 3, 6, 7])
        · (repeat' (first | with_reducible exact hM | with_reducible exact hMp | with_reducible apply Mem.drew | with_reducible apply Mem.drewN | with_reducible apply Mem.alloc | with_reducible apply Mem.set | with_reducible exact Sto.row | ((with_reducible refine Sto.rowEq2 ?_ ?_); omega; rfl) | ((with_reducible refine Sto.rowEq ?_); omega) | with_reducible apply Sto.int | with_reducible apply Sto.there | with_reducible assumption | (unfold I64; omega) | (with_reducible (have hMx := Mem.undrew hM; exact hMx)) | (with_reducible (have hMx := Mem.undrew hMp; exact hMx))))
        · decide
        · rfl
  case rest =>
    clear hM HG
    obtain ⟨b4, W, H, t, a1, n1, c1, xs, a2, n2, c2, fs, a3, n3, c3, ws, rfl, HI, hM⟩ := hcut
    go_wp2_with fail
    apply Mem.atA
    · (repeat' (first | with_reducible exact hM | with_reducible exact hMp | with_reducible apply Mem.drew | with_reducible apply Mem.drewN | with_reducible apply Mem.alloc | with_reducible apply Mem.set | with_reducible exact Sto.row | ((with_reducible refine Sto.rowEq2 ?_ ?_); omega; rfl) | ((with_reducible refine Sto.rowEq ?_); omega) | with_reducible apply Sto.int | with_reducible apply Sto.there | with_reducible assumption | (unfold I64; omega) | (with_reducible (have hMx := Mem.undrew hM; exact hMx)) | (with_reducible (have hMx := Mem.undrew hMp; exact hMx))))
    clear hM
    intro wst hM
    (try simp only [World.size_alloc, World.size_setCell, World.heap_drewN, heapDrew, Nat.add_assoc, Nat.reduceAdd, List.setIfInBounds_toArray, List.set_cons_zero, List.set_cons_succ, List.cons_append, List.nil_append] at hM)
    (first | refine (pick_any 10 HC.out hM (.there (.there .here)) (by omega)).mono ?_)
    rintro e wc3 ⟨r, hr, hr2, rfl, hm⟩
    clear hM
    have hM := hm
    clear hm
    try dsimp only at hM
    have hr10 := pick_lt hr (by omega)
    have hk9 : r ≤ 9 := by omega
    clear hr hr2 hr10
    go_wp2_with fail
    go_loopw [6] (fun s6 wr => ∃ (k A2 : Nat) (W H t : Int) (a1 : Option Addr) (n1 c1 : Nat) (xs : List Int) (a2 : Option Addr) (n2 c2 : Nat) (fs : List Int) (a3 : Option Addr) (n3 c3 : Nat) (ws : List Int), s6 = .int .i64 k ∧ k ≤ 9 ∧ A2 + 12 * k ≤ A + 180 ∧ Hid (incB W H xs fs ws t = true) ∧ Mem w0.heap.size w0 wr [rowE b4 46 #[.int .i64 W, .int .i64 H, .slice a1 n1 c1, .slice a2 n2 c2, .slice a3 n3 c3, .int .i64 t], packE [intE a1 n1 c1 xs, intE a2 n2 c2 fs, intE a3 n3 c3 ws], curE g ac nc cc A2, rowE w.heap.size 46 #[.int .i64 0, .int .i64 0, .slice none 0 0, .slice none 0 0, .slice none 0 0, .int .i64 0], packE R]) (fun s6 _ => (intOf s6).toNat)
    case atStart => exact ⟨r, A + 66, W, H, t, a1, n1, c1, xs, a2, n2, c2, fs, a3, n3, c3, ws, rfl, hk9, by omega, HI, hM⟩
    case round =>
      clear hM HI hk9
      obtain ⟨k, A2, W, H, t, a1, n1, c1, xs, a2, n2, c2, fs, a3, n3, c3, ws, rfl, hk9, hA2, HI, hM⟩ := hrel
      by_cases h0 : k = 0
      · subst h0
        replace hM := Mem.unpackAt [_] hM
        dsimp only [List.cons_append, List.nil_append] at hM
        obtain rfl : xs.length = n1 := (hM.intsR (.there .here)).len
        obtain rfl : fs.length = n2 := (hM.intsR (.there (.there .here))).len
        obtain rfl : ws.length = n3 := (hM.intsR (.there (.there (.there .here)))).len
        obtain ⟨Wn, Hn, -, -, e1, e2, e3, e4, -⟩ := incB_facts HI.out
        rw [← e1] at e3 e4
        have e5 : xs.length ≤ 25 := by omega
        have e6 : 0 < ws.length ∧ ws.length ≤ 25 := by omega
        clear e1 e2 hk9 HI
        go_wp2_with fail
        apply Mem.atA
        · (repeat' (first | with_reducible exact hM | with_reducible exact hMp | with_reducible apply Mem.drew | with_reducible apply Mem.drewN | with_reducible apply Mem.alloc | with_reducible apply Mem.set | with_reducible exact Sto.row | ((with_reducible refine Sto.rowEq2 ?_ ?_); omega; rfl) | ((with_reducible refine Sto.rowEq ?_); omega) | with_reducible apply Sto.int | with_reducible apply Sto.there | with_reducible assumption | (unfold I64; omega) | (with_reducible (have hMx := Mem.undrew hM; exact hMx)) | (with_reducible (have hMx := Mem.undrew hMp; exact hMx))))
        clear hM
        intro wst hM
        (try simp only [World.size_alloc, World.size_setCell, World.heap_drewN, heapDrew, Nat.add_assoc, Nat.reduceAdd, List.setIfInBounds_toArray, List.set_cons_zero, List.set_cons_succ, List.cons_append, List.nil_append] at hM)
        (first | refine (pick_any 24 HC.out hM (.there (.there (.there (.there .here)))) (by omega)).mono ?_)
        rintro e wc4 ⟨r, hr, hr2, rfl, hm⟩
        clear hM
        have hM := hm
        clear hm
        try dsimp only at hM
        clear hr hr2
        by_cases q0 : r = 0
        · subst q0
          obtain ⟨gg, rfl, -⟩ := (hM.ints (.there (.there .here))).head (by omega)
          obtain ⟨k0, f0, l0⟩ := hM.row .here
          go_upto_region 11 with fail
          clear k0 f0 l0
          apply Mem.atWpA
          · (repeat' (first | with_reducible exact hM | with_reducible exact hMp | with_reducible apply Mem.drew | with_reducible apply Mem.drewN | with_reducible apply Mem.alloc | with_reducible apply Mem.set | with_reducible exact Sto.row | ((with_reducible refine Sto.rowEq2 ?_ ?_); omega; rfl) | ((with_reducible refine Sto.rowEq ?_); omega) | with_reducible apply Sto.int | with_reducible apply Sto.there | with_reducible assumption | (unfold I64; omega) | (with_reducible (have hMx := Mem.undrew hM; exact hMx)) | (with_reducible (have hMx := Mem.undrew hMp; exact hMx))))
          clear hM
          intro wst hM
          (try simp only [World.size_alloc, World.size_setCell, World.heap_drewN, heapDrew, Nat.add_assoc, Nat.reduceAdd, List.setIfInBounds_toArray, List.set_cons_zero, List.set_cons_succ, List.cons_append, List.nil_append] at hM)
          replace hM := hM.pick (is := [4, 2, 0, 1, 3, 5, 6]) (by decide) rfl
          dsimp only [List.filterMap_cons, List.filterMap_nil, List.getElem?_cons_zero, List.getElem?_cons_succ] at hM
          refine AtF.startA hM.tail.tail hM 11 (by kernel_rfl) ?_
          clear hM
          intro wd hM
          have hS := hM.tail.tail
          refine AtF.taked (i := 0) (v := ?_) (some 48) rfl rfl (by kernel_rfl) (by kernel_rfl) (by kernel_rfl) (anc_path [] _ _ (by kernel_rfl) (by kernel_rfl)) (fun _ _ _ h => h) (Or.inl ⟨by kernel_rfl, ?_⟩) hS rfl ?_
          rotate_left
          · (intro wS hSw; (try dsimp only at hSw); go_simp; (try rw [if_neg (by omega)]); try with_reducible rfl)
          simp only [Act.put, List.setIfInBounds_toArray, List.set_cons_zero, List.set_cons_succ]
          refine AtF.taked (i := 1) (v := ?_) (some 49) rfl rfl (by kernel_rfl) (by kernel_rfl) (by kernel_rfl) (anc_path [] _ _ (by kernel_rfl) (by kernel_rfl)) (fun _ _ _ h => h) (Or.inl ⟨by kernel_rfl, ?_⟩) hS rfl ?_
          rotate_left
          · (intro wS hSw; (try dsimp only at hSw); have kr0 := (Mem.row hSw .here).cell; go_simp; (try rw [if_neg (by omega)]); try with_reducible rfl)
          simp only [Act.put, List.setIfInBounds_toArray, List.set_cons_zero, List.set_cons_succ]
          refine AtF.taked (i := 2) (v := ?_) (some 50) rfl rfl (by kernel_rfl) (by kernel_rfl) (by kernel_rfl) (anc_path [] _ _ (by kernel_rfl) (by kernel_rfl)) (fun _ _ _ h => h) (Or.inl ⟨by kernel_rfl, ?_⟩) hS rfl ?_
          rotate_left
          · (intro wS hSw; (try dsimp only at hSw); go_simp; (try rw [if_neg (by omega)]); try with_reducible rfl)
          simp only [Act.put, List.setIfInBounds_toArray, List.set_cons_zero, List.set_cons_succ]
          refine AtF.taked (i := 3) (v := ?_) (some 51) rfl rfl (by kernel_rfl) (by kernel_rfl) (by kernel_rfl) (anc_path [] _ _ (by kernel_rfl) (by kernel_rfl)) (fun _ _ _ h => h) (Or.inl ⟨by kernel_rfl, ?_⟩) hS rfl ?_
          rotate_left
          · (intro wS hSw; (try dsimp only at hSw); go_simp; (try rw [if_neg (by omega)]); try with_reducible rfl)
          simp only [Act.put, List.setIfInBounds_toArray, List.set_cons_zero, List.set_cons_succ]
          refine AtF.taked (i := 4) (v := ?_) (some 52) rfl rfl (by kernel_rfl) (by kernel_rfl) (by kernel_rfl) (anc_path [] _ _ (by kernel_rfl) (by kernel_rfl)) (fun _ _ _ h => h) (Or.inl ⟨by kernel_rfl, ?_⟩) hS rfl ?_
          rotate_left
          · (intro wS hSw; (try dsimp only at hSw); have kr0 := (Mem.row hSw .here).cell; go_simp; (try rw [if_neg (by omega)]); try with_reducible rfl)
          simp only [Act.put, List.setIfInBounds_toArray, List.set_cons_zero, List.set_cons_succ]
          refine AtF.taked (i := 5) (v := ?_) (some 53) rfl rfl (by kernel_rfl) (by kernel_rfl) (by kernel_rfl) (anc_path [] _ _ (by kernel_rfl) (by kernel_rfl)) (fun _ _ _ h => h) (Or.inl ⟨by kernel_rfl, ?_⟩) hS rfl ?_
          rotate_left
          · (intro wS hSw; (try dsimp only at hSw); go_simp; (try rw [if_neg (by omega)]); try with_reducible rfl)
          simp only [Act.put, List.setIfInBounds_toArray, List.set_cons_zero, List.set_cons_succ]
          refine AtF.taked (i := 7) (v := ?_) (some 55) rfl rfl (by kernel_rfl) (by kernel_rfl) (by kernel_rfl) (anc_path [] _ _ (by kernel_rfl) (by kernel_rfl)) (fun _ _ _ h => h) (Or.inl ⟨by kernel_rfl, ?_⟩) hS rfl ?_
          rotate_left
          · (intro wS hSw; (try dsimp only at hSw); go_simp; (try rw [if_neg (by omega)]); try with_reducible rfl)
          simp only [Act.put, List.setIfInBounds_toArray, List.set_cons_zero, List.set_cons_succ]
          refine AtF.two (i := 6) (j := 8) (by kernel_rfl) rfl rfl rfl rfl ?_ ?_
          · skip
            intro K hK
            go_simp
            refine (pick_any (fs.length : Int) HC.out hM .here (by omega)).mono ?_
            rintro e w3 ⟨r2, hr, -, rfl, hm⟩
            have i1 := pick_lt hr (by omega)
            have i0 : (0 : Int) ≤ (r2 : Int) := by omega
            have i2 : r2 < fs.length := by omega
            clear hM hr
            have hM := hm
            clear hm
            try dsimp only at hM
            try dsimp only
            refine hK.out _ _ (hM.tail.tail) ?_
            clear hK K hS
            have hS := hM.tail.tail
            refine AtF.only (i := 8) (by kernel_rfl) rfl rfl ?_
            intro K hK
            go_simp
            refine hK.out _ _ (by apply Mem.tail; apply Mem.tail; apply Mem.tail; (repeat' (first | with_reducible exact hM | with_reducible exact hMp | with_reducible apply Mem.drew | with_reducible apply Mem.drewN | with_reducible apply Mem.alloc | with_reducible apply Mem.set | with_reducible exact Sto.row | ((with_reducible refine Sto.rowEq2 ?_ ?_); omega; rfl) | ((with_reducible refine Sto.rowEq ?_); omega) | with_reducible apply Sto.int | with_reducible apply Sto.there | with_reducible assumption | (unfold I64; omega) | (with_reducible (have hMx := Mem.undrew hM; exact hMx)) | (with_reducible (have hMx := Mem.undrew hMp; exact hMx))))) ?_
            clear hK K hS
            have hMp := hM
            apply Mem.atF
            · (repeat' (first | with_reducible exact hM | with_reducible exact hMp | with_reducible apply Mem.drew | with_reducible apply Mem.drewN | with_reducible apply Mem.alloc | with_reducible apply Mem.set | with_reducible exact Sto.row | ((with_reducible refine Sto.rowEq2 ?_ ?_); omega; rfl) | ((with_reducible refine Sto.rowEq ?_); omega) | with_reducible apply Sto.int | with_reducible apply Sto.there | with_reducible assumption | (unfold I64; omega) | (with_reducible (have hMx := Mem.undrew hM; exact hMx)) | (with_reducible (have hMx := Mem.undrew hMp; exact hMx))))
            clear hM
            intro hM
            (try simp only [World.size_alloc, World.size_setCell, World.heap_drewN, heapDrew, Nat.add_assoc, Nat.reduceAdd, List.setIfInBounds_toArray, List.set_cons_zero, List.set_cons_succ, List.cons_append, List.nil_append] at hM)
            have hS := hM.tail.tail.tail
            refine AtF.only (i := 9) (by kernel_rfl) rfl rfl ?_
            intro K hK
            go_simp
            refine (among_any [-2, 20, 21, 1] HC.out hM (.there .here) (fun _ => .here) rfl (by decide) (by decide) (by omega) (by decide)).mono ?_
            rintro e w4 ⟨x, hx, rfl, hm⟩
            obtain ⟨x0, x1⟩ := amb (-2) 21 hx (by decide)
            clear hM hx
            have hM := hm
            clear hm
            try dsimp only at hM
            try dsimp only
            refine hK.out _ _ (hM.tail.tail.tail) ?_
            clear hK K hS
            have hS := hM.tail.tail.tail
            refine AtF.taked (i := 10) (v := ?_) (some 58) rfl rfl (by kernel_rfl) (by kernel_rfl) (by kernel_rfl) (anc_path [] _ _ (by kernel_rfl) (by kernel_rfl)) (fun _ _ _ h => h) (Or.inl ⟨by kernel_rfl, ?_⟩) hS rfl ?_
            rotate_left
            · (intro wS hSw; (try dsimp only at hSw); have kr0 := (Mem.row hSw .here).cell; go_simp; (try rw [if_neg (by omega)]); try with_reducible rfl)
            simp only [Act.put, List.setIfInBounds_toArray, List.set_cons_zero, List.set_cons_succ]
            refine AtF.last (by kernel_rfl) rfl (by kernel_rfl) ?_
            intro K hK
            clear hS
            have kk0 := (hM.row .here).cell
            have ff0 := (hM.row .here).free
            have ll0 := (hM.row .here).lt
            have kk3 := (hM.row (.there (.there (.there .here)))).cell
            have ff3 := (hM.row (.there (.there (.there .here)))).free
            have ll3 := (hM.row (.there (.there (.there .here)))).lt
            have hce := (hM.ints (.there (.there .here))).cellAt (k := r2) i2
            have hfe := (hM.ints (.there (.there .here))).freeAt r2
            go_simp
            clear kk0 ff0 ll0 kk3 ff3 ll3
            refine hK.out _ _ ?_
            clear hK K
            apply Mem.atEx
            · (repeat' (first | with_reducible exact hM | with_reducible exact hMp | with_reducible apply Mem.drew | with_reducible apply Mem.drewN | with_reducible apply Mem.alloc | with_reducible apply Mem.set | with_reducible exact Sto.row | ((with_reducible refine Sto.rowEq2 ?_ ?_); omega; rfl) | ((with_reducible refine Sto.rowEq ?_); omega) | with_reducible apply Sto.int | with_reducible apply Sto.there | with_reducible assumption | (unfold I64; omega) | (with_reducible (have hMx := Mem.undrew hM; exact hMx)) | (with_reducible (have hMx := Mem.undrew hMp; exact hMx))))
            clear hM
            intro wst hM
            (try simp only [World.size_alloc, World.size_setCell, World.heap_drewN, heapDrew, Nat.add_assoc, Nat.reduceAdd, List.setIfInBounds_toArray, List.set_cons_zero, List.set_cons_succ, List.cons_append, List.nil_append] at hM)
            obtain ⟨ys, hys⟩ : ∃ ys, fs.set r2 x = ys := ⟨_, rfl⟩
            have hyl : fs.length = ys.length := by rw [← hys, List.length_set]
            obtain ⟨a9, ha9⟩ : ∃ a9, (some ⟨gg, 0, none⟩ : Option Addr) = a9 := ⟨_, rfl⟩
            rw [hys, hyl, ha9] at hM
            clear hys ha9 hce hfe i0 i1 i2 x0 x1
            replace hM := hM.pick (is := [6, 4, 2, 5, 1, 7, 3]) (by decide) rfl
            dsimp only [List.filterMap_cons, List.filterMap_nil, List.getElem?_cons_zero, List.getElem?_cons_succ] at hM
            obtain ⟨k0, f0, l0⟩ := hM.row .here
            obtain ⟨k6, f6, l6⟩ := hM.row (.there (.there (.there (.there (.there (.there .here))))))
            go_wp2
            refine bodyPost_ret (v := .agg #[.int .i64 W, .int .i64 H, .slice a1 xs.length c1, .slice a9 ys.length c2, .slice a3 ws.length c3, .int .i64 t]) (by simp [results, Try.results94, go_sem, k0, k6]) rfl ⟨W, H, a1, c1, xs, a9, c2, ys, a3, c3, ws, t, e5, ⟨by omega, by omega⟩, rfl, ?_⟩
            apply Mem.curMore (hA := show A2 + 2 + 2 + 2 ≤ A + 300 by omega) (p := .there (.there (.there (HP.out.again _))))
            apply HR.out.out33
            apply Mem.pick (is := [1, 2, 3, 4, 5])
            · (repeat' (first | with_reducible exact hM | with_reducible exact hMp | with_reducible apply Mem.drew | with_reducible apply Mem.drewN | with_reducible apply Mem.alloc | with_reducible apply Mem.set | with_reducible exact Sto.row | ((with_reducible refine Sto.rowEq2 ?_ ?_); omega; rfl) | ((with_reducible refine Sto.rowEq ?_); omega) | with_reducible apply Sto.int | with_reducible apply Sto.there | with_reducible assumption | (unfold I64; omega) | (with_reducible (have hMx := Mem.undrew hM; exact hMx)) | (with_reducible (have hMx := Mem.undrew hMp; exact hMx))))
            · decide
            · rfl
          · skip
            intro K hK
            go_simp
            refine hK.out _ _ (by apply Mem.tail; apply Mem.tail; apply Mem.tail; (repeat' (first | with_reducible exact hM | with_reducible exact hMp | with_reducible apply Mem.drew | with_reducible apply Mem.drewN | with_reducible apply Mem.alloc | with_reducible apply Mem.set | with_reducible exact Sto.row | ((with_reducible refine Sto.rowEq2 ?_ ?_); omega; rfl) | ((with_reducible refine Sto.rowEq ?_); omega) | with_reducible apply Sto.int | with_reducible apply Sto.there | with_reducible assumption | (unfold I64; omega) | (with_reducible (have hMx := Mem.undrew hM; exact hMx)) | (with_reducible (have hMx := Mem.undrew hMp; exact hMx))))) ?_
            clear hK K hS
            have hMp := hM
            apply Mem.atF
            · (repeat' (first | with_reducible exact hM | with_reducible exact hMp | with_reducible apply Mem.drew | with_reducible apply Mem.drewN | with_reducible apply Mem.alloc | with_reducible apply Mem.set | with_reducible exact Sto.row | ((with_reducible refine Sto.rowEq2 ?_ ?_); omega; rfl) | ((with_reducible refine Sto.rowEq ?_); omega) | with_reducible apply Sto.int | with_reducible apply Sto.there | with_reducible assumption | (unfold I64; omega) | (with_reducible (have hMx := Mem.undrew hM; exact hMx)) | (with_reducible (have hMx := Mem.undrew hMp; exact hMx))))
            clear hM
            intro hM
            (try simp only [World.size_alloc, World.size_setCell, World.heap_drewN, heapDrew, Nat.add_assoc, Nat.reduceAdd, List.setIfInBounds_toArray, List.set_cons_zero, List.set_cons_succ, List.cons_append, List.nil_append] at hM)
            have hS := hM.tail.tail.tail
            refine AtF.only (i := 6) (by kernel_rfl) rfl rfl ?_
            intro K hK
            go_simp
            refine (pick_any (fs.length : Int) HC.out hM (.there .here) (by omega)).mono ?_
            rintro e w3 ⟨r2, hr, -, rfl, hm⟩
            have i1 := pick_lt hr (by omega)
            have i0 : (0 : Int) ≤ (r2 : Int) := by omega
            have i2 : r2 < fs.length := by omega
            clear hM hr
            have hM := hm
            clear hm
            try dsimp only at hM
            try dsimp only
            refine hK.out _ _ (hM.tail.tail.tail) ?_
            clear hK K hS
            have hS := hM.tail.tail.tail
            refine AtF.only (i := 9) (by kernel_rfl) rfl rfl ?_
            intro K hK
            go_simp
            refine (among_any [-2, 20, 21, 1] HC.out hM (.there .here) (fun _ => .here) rfl (by decide) (by decide) (by omega) (by decide)).mono ?_
            rintro e w4 ⟨x, hx, rfl, hm⟩
            obtain ⟨x0, x1⟩ := amb (-2) 21 hx (by decide)
            clear hM hx
            have hM := hm
            clear hm
            try dsimp only at hM
            try dsimp only
            refine hK.out _ _ (hM.tail.tail.tail) ?_
            clear hK K hS
            have hS := hM.tail.tail.tail
            refine AtF.taked (i := 10) (v := ?_) (some 58) rfl rfl (by kernel_rfl) (by kernel_rfl) (by kernel_rfl) (anc_path [] _ _ (by kernel_rfl) (by kernel_rfl)) (fun _ _ _ h => h) (Or.inl ⟨by kernel_rfl, ?_⟩) hS rfl ?_
            rotate_left
            · (intro wS hSw; (try dsimp only at hSw); have kr0 := (Mem.row hSw .here).cell; go_simp; (try rw [if_neg (by omega)]); try with_reducible rfl)
            simp only [Act.put, List.setIfInBounds_toArray, List.set_cons_zero, List.set_cons_succ]
            refine AtF.last (by kernel_rfl) rfl (by kernel_rfl) ?_
            intro K hK
            clear hS
            have kk0 := (hM.row .here).cell
            have ff0 := (hM.row .here).free
            have ll0 := (hM.row .here).lt
            have kk3 := (hM.row (.there (.there (.there .here)))).cell
            have ff3 := (hM.row (.there (.there (.there .here)))).free
            have ll3 := (hM.row (.there (.there (.there .here)))).lt
            have hce := (hM.ints (.there (.there .here))).cellAt (k := r2) i2
            have hfe := (hM.ints (.there (.there .here))).freeAt r2
            go_simp
            clear kk0 ff0 ll0 kk3 ff3 ll3
            refine hK.out _ _ ?_
            clear hK K
            apply Mem.atEx
            · (repeat' (first | with_reducible exact hM | with_reducible exact hMp | with_reducible apply Mem.drew | with_reducible apply Mem.drewN | with_reducible apply Mem.alloc | with_reducible apply Mem.set | with_reducible exact Sto.row | ((with_reducible refine Sto.rowEq2 ?_ ?_); omega; rfl) | ((with_reducible refine Sto.rowEq ?_); omega) | with_reducible apply Sto.int | with_reducible apply Sto.there | with_reducible assumption | (unfold I64; omega) | (with_reducible (have hMx := Mem.undrew hM; exact hMx)) | (with_reducible (have hMx := Mem.undrew hMp; exact hMx))))
            clear hM
            intro wst hM
            (try simp only [World.size_alloc, World.size_setCell, World.heap_drewN, heapDrew, Nat.add_assoc, Nat.reduceAdd, List.setIfInBounds_toArray, List.set_cons_zero, List.set_cons_succ, List.cons_append, List.nil_append] at hM)
            obtain ⟨ys, hys⟩ : ∃ ys, fs.set r2 x = ys := ⟨_, rfl⟩
            have hyl : fs.length = ys.length := by rw [← hys, List.length_set]
            obtain ⟨a9, ha9⟩ : ∃ a9, (some ⟨gg, 0, none⟩ : Option Addr) = a9 := ⟨_, rfl⟩
            rw [hys, hyl, ha9] at hM
            clear hys ha9 hce hfe i0 i1 i2 x0 x1
            replace hM := hM.pick (is := [6, 4, 2, 5, 1, 7, 3]) (by decide) rfl
            dsimp only [List.filterMap_cons, List.filterMap_nil, List.getElem?_cons_zero, List.getElem?_cons_succ] at hM
            obtain ⟨k0, f0, l0⟩ := hM.row .here
            obtain ⟨k6, f6, l6⟩ := hM.row (.there (.there (.there (.there (.there (.there .here))))))
            go_wp2
            refine bodyPost_ret (v := .agg #[.int .i64 W, .int .i64 H, .slice a1 xs.length c1, .slice a9 ys.length c2, .slice a3 ws.length c3, .int .i64 t]) (by simp [results, Try.results94, go_sem, k0, k6]) rfl ⟨W, H, a1, c1, xs, a9, c2, ys, a3, c3, ws, t, e5, ⟨by omega, by omega⟩, rfl, ?_⟩
            apply Mem.curMore (hA := show A2 + 2 + 2 + 2 ≤ A + 300 by omega) (p := .there (.there (.there (HP.out.again _))))
            apply HR.out.out33
            apply Mem.pick (is := [1, 2, 3, 4, 5])
            · (repeat' (first | with_reducible exact hM | with_reducible exact hMp | with_reducible apply Mem.drew | with_reducible apply Mem.drewN | with_reducible apply Mem.alloc | with_reducible apply Mem.set | with_reducible exact Sto.row | ((with_reducible refine Sto.rowEq2 ?_ ?_); omega; rfl) | ((with_reducible refine Sto.rowEq ?_); omega) | with_reducible apply Sto.int | with_reducible apply Sto.there | with_reducible assumption | (unfold I64; omega) | (with_reducible (have hMx := Mem.undrew hM; exact hMx)) | (with_reducible (have hMx := Mem.undrew hMp; exact hMx))))
            · decide
            · rfl
        by_cases q1 : r = 1
        · subst q1
          obtain ⟨gg, rfl, -⟩ := (hM.ints (.there (.there (.there .here)))).head (by omega)
          obtain ⟨k0, f0, l0⟩ := hM.row .here
          go_upto_region 13 with fail
          clear k0 f0 l0
          apply Mem.atWpA
          · (repeat' (first | with_reducible exact hM | with_reducible exact hMp | with_reducible apply Mem.drew | with_reducible apply Mem.drewN | with_reducible apply Mem.alloc | with_reducible apply Mem.set | with_reducible exact Sto.row | ((with_reducible refine Sto.rowEq2 ?_ ?_); omega; rfl) | ((with_reducible refine Sto.rowEq ?_); omega) | with_reducible apply Sto.int | with_reducible apply Sto.there | with_reducible assumption | (unfold I64; omega) | (with_reducible (have hMx := Mem.undrew hM; exact hMx)) | (with_reducible (have hMx := Mem.undrew hMp; exact hMx))))
          clear hM
          intro wst hM
          (try simp only [World.size_alloc, World.size_setCell, World.heap_drewN, heapDrew, Nat.add_assoc, Nat.reduceAdd, List.setIfInBounds_toArray, List.set_cons_zero, List.set_cons_succ, List.cons_append, List.nil_append] at hM)
          replace hM := hM.pick (is := [4, 3, 0, 1, 2, 5, 6]) (by decide) rfl
          dsimp only [List.filterMap_cons, List.filterMap_nil, List.getElem?_cons_zero, List.getElem?_cons_succ] at hM
          refine AtF.startA hM.tail.tail hM 11 (by kernel_rfl) ?_
          clear hM
          intro wd hM
          have hS := hM.tail.tail
          refine AtF.taked (i := 0) (v := ?_) (some 61) rfl rfl (by kernel_rfl) (by kernel_rfl) (by kernel_rfl) (anc_path [] _ _ (by kernel_rfl) (by kernel_rfl)) (fun _ _ _ h => h) (Or.inl ⟨by kernel_rfl, ?_⟩) hS rfl ?_
          rotate_left
          · (intro wS hSw; (try dsimp only at hSw); go_simp; (try rw [if_neg (by omega)]); try with_reducible rfl)
          simp only [Act.put, List.setIfInBounds_toArray, List.set_cons_zero, List.set_cons_succ]
          refine AtF.taked (i := 1) (v := ?_) (some 62) rfl rfl (by kernel_rfl) (by kernel_rfl) (by kernel_rfl) (anc_path [] _ _ (by kernel_rfl) (by kernel_rfl)) (fun _ _ _ h => h) (Or.inl ⟨by kernel_rfl, ?_⟩) hS rfl ?_
          rotate_left
          · (intro wS hSw; (try dsimp only at hSw); have kr0 := (Mem.row hSw .here).cell; go_simp; (try rw [if_neg (by omega)]); try with_reducible rfl)
          simp only [Act.put, List.setIfInBounds_toArray, List.set_cons_zero, List.set_cons_succ]
          refine AtF.taked (i := 2) (v := ?_) (some 63) rfl rfl (by kernel_rfl) (by kernel_rfl) (by kernel_rfl) (anc_path [] _ _ (by kernel_rfl) (by kernel_rfl)) (fun _ _ _ h => h) (Or.inl ⟨by kernel_rfl, ?_⟩) hS rfl ?_
          rotate_left
          · (intro wS hSw; (try dsimp only at hSw); go_simp; (try rw [if_neg (by omega)]); try with_reducible rfl)
          simp only [Act.put, List.setIfInBounds_toArray, List.set_cons_zero, List.set_cons_succ]
          refine AtF.taked (i := 3) (v := ?_) (some 64) rfl rfl (by kernel_rfl) (by kernel_rfl) (by kernel_rfl) (anc_path [] _ _ (by kernel_rfl) (by kernel_rfl)) (fun _ _ _ h => h) (Or.inl ⟨by kernel_rfl, ?_⟩) hS rfl ?_
          rotate_left
          · (intro wS hSw; (try dsimp only at hSw); go_simp; (try rw [if_neg (by omega)]); try with_reducible rfl)
          simp only [Act.put, List.setIfInBounds_toArray, List.set_cons_zero, List.set_cons_succ]
          refine AtF.taked (i := 4) (v := ?_) (some 65) rfl rfl (by kernel_rfl) (by kernel_rfl) (by kernel_rfl) (anc_path [] _ _ (by kernel_rfl) (by kernel_rfl)) (fun _ _ _ h => h) (Or.inl ⟨by kernel_rfl, ?_⟩) hS rfl ?_
          rotate_left
          · (intro wS hSw; (try dsimp only at hSw); have kr0 := (Mem.row hSw .here).cell; go_simp; (try rw [if_neg (by omega)]); try with_reducible rfl)
          simp only [Act.put, List.setIfInBounds_toArray, List.set_cons_zero, List.set_cons_succ]
          refine AtF.taked (i := 5) (v := ?_) (some 66) rfl rfl (by kernel_rfl) (by kernel_rfl) (by kernel_rfl) (anc_path [] _ _ (by kernel_rfl) (by kernel_rfl)) (fun _ _ _ h => h) (Or.inl ⟨by kernel_rfl, ?_⟩) hS rfl ?_
          rotate_left
          · (intro wS hSw; (try dsimp only at hSw); go_simp; (try rw [if_neg (by omega)]); try with_reducible rfl)
          simp only [Act.put, List.setIfInBounds_toArray, List.set_cons_zero, List.set_cons_succ]
          refine AtF.taked (i := 7) (v := ?_) (some 68) rfl rfl (by kernel_rfl) (by kernel_rfl) (by kernel_rfl) (anc_path [] _ _ (by kernel_rfl) (by kernel_rfl)) (fun _ _ _ h => h) (Or.inl ⟨by kernel_rfl, ?_⟩) hS rfl ?_
          rotate_left
          · (intro wS hSw; (try dsimp only at hSw); go_simp; (try rw [if_neg (by omega)]); try with_reducible rfl)
          simp only [Act.put, List.setIfInBounds_toArray, List.set_cons_zero, List.set_cons_succ]
          refine AtF.two (i := 6) (j := 8) (by kernel_rfl) rfl rfl rfl rfl ?_ ?_
          · skip
            intro K hK
            go_simp
            refine (pick_any (ws.length : Int) HC.out hM .here (by omega)).mono ?_
            rintro e w3 ⟨r2, hr, -, rfl, hm⟩
            have i1 := pick_lt hr (by omega)
            have i0 : (0 : Int) ≤ (r2 : Int) := by omega
            have i2 : r2 < ws.length := by omega
            clear hM hr
            have hM := hm
            clear hm
            try dsimp only at hM
            try dsimp only
            refine hK.out _ _ (hM.tail.tail) ?_
            clear hK K hS
            have hS := hM.tail.tail
            refine AtF.only (i := 8) (by kernel_rfl) rfl rfl ?_
            intro K hK
            go_simp
            refine hK.out _ _ (by apply Mem.tail; apply Mem.tail; apply Mem.tail; (repeat' (first | with_reducible exact hM | with_reducible exact hMp | with_reducible apply Mem.drew | with_reducible apply Mem.drewN | with_reducible apply Mem.alloc | with_reducible apply Mem.set | with_reducible exact Sto.row | ((with_reducible refine Sto.rowEq2 ?_ ?_); omega; rfl) | ((with_reducible refine Sto.rowEq ?_); omega) | with_reducible apply Sto.int | with_reducible apply Sto.there | with_reducible assumption | (unfold I64; omega) | (with_reducible (have hMx := Mem.undrew hM; exact hMx)) | (with_reducible (have hMx := Mem.undrew hMp; exact hMx))))) ?_
            clear hK K hS
            have hMp := hM
            apply Mem.atF
            · (repeat' (first | with_reducible exact hM | with_reducible exact hMp | with_reducible apply Mem.drew | with_reducible apply Mem.drewN | with_reducible apply Mem.alloc | with_reducible apply Mem.set | with_reducible exact Sto.row | ((with_reducible refine Sto.rowEq2 ?_ ?_); omega; rfl) | ((with_reducible refine Sto.rowEq ?_); omega) | with_reducible apply Sto.int | with_reducible apply Sto.there | with_reducible assumption | (unfold I64; omega) | (with_reducible (have hMx := Mem.undrew hM; exact hMx)) | (with_reducible (have hMx := Mem.undrew hMp; exact hMx))))
            clear hM
            intro hM
            (try simp only [World.size_alloc, World.size_setCell, World.heap_drewN, heapDrew, Nat.add_assoc, Nat.reduceAdd, List.setIfInBounds_toArray, List.set_cons_zero, List.set_cons_succ, List.cons_append, List.nil_append] at hM)
            have hS := hM.tail.tail.tail
            refine AtF.only (i := 9) (by kernel_rfl) rfl rfl ?_
            intro K hK
            go_simp
            refine (among_any [-1, 5, 6] HC.out hM (.there .here) (fun _ => .here) rfl (by decide) (by decide) (by omega) (by decide)).mono ?_
            rintro e w4 ⟨x, hx, rfl, hm⟩
            obtain ⟨x0, x1⟩ := amb (-2) 21 hx (by decide)
            clear hM hx
            have hM := hm
            clear hm
            try dsimp only at hM
            try dsimp only
            refine hK.out _ _ (hM.tail.tail.tail) ?_
            clear hK K hS
            have hS := hM.tail.tail.tail
            refine AtF.taked (i := 10) (v := ?_) (some 71) rfl rfl (by kernel_rfl) (by kernel_rfl) (by kernel_rfl) (anc_path [] _ _ (by kernel_rfl) (by kernel_rfl)) (fun _ _ _ h => h) (Or.inl ⟨by kernel_rfl, ?_⟩) hS rfl ?_
            rotate_left
            · (intro wS hSw; (try dsimp only at hSw); have kr0 := (Mem.row hSw .here).cell; go_simp; (try rw [if_neg (by omega)]); try with_reducible rfl)
            simp only [Act.put, List.setIfInBounds_toArray, List.set_cons_zero, List.set_cons_succ]
            refine AtF.last (by kernel_rfl) rfl (by kernel_rfl) ?_
            intro K hK
            clear hS
            have kk0 := (hM.row .here).cell
            have ff0 := (hM.row .here).free
            have ll0 := (hM.row .here).lt
            have kk3 := (hM.row (.there (.there (.there .here)))).cell
            have ff3 := (hM.row (.there (.there (.there .here)))).free
            have ll3 := (hM.row (.there (.there (.there .here)))).lt
            have hce := (hM.ints (.there (.there .here))).cellAt (k := r2) i2
            have hfe := (hM.ints (.there (.there .here))).freeAt r2
            go_simp
            clear kk0 ff0 ll0 kk3 ff3 ll3
            refine hK.out _ _ ?_
            clear hK K
            apply Mem.atEx
            · (repeat' (first | with_reducible exact hM | with_reducible exact hMp | with_reducible apply Mem.drew | with_reducible apply Mem.drewN | with_reducible apply Mem.alloc | with_reducible apply Mem.set | with_reducible exact Sto.row | ((with_reducible refine Sto.rowEq2 ?_ ?_); omega; rfl) | ((with_reducible refine Sto.rowEq ?_); omega) | with_reducible apply Sto.int | with_reducible apply Sto.there | with_reducible assumption | (unfold I64; omega) | (with_reducible (have hMx := Mem.undrew hM; exact hMx)) | (with_reducible (have hMx := Mem.undrew hMp; exact hMx))))
            clear hM
            intro wst hM
            (try simp only [World.size_alloc, World.size_setCell, World.heap_drewN, heapDrew, Nat.add_assoc, Nat.reduceAdd, List.setIfInBounds_toArray, List.set_cons_zero, List.set_cons_succ, List.cons_append, List.nil_append] at hM)
            obtain ⟨ys, hys⟩ : ∃ ys, ws.set r2 x = ys := ⟨_, rfl⟩
            have hyl : ws.length = ys.length := by rw [← hys, List.length_set]
            obtain ⟨a9, ha9⟩ : ∃ a9, (some ⟨gg, 0, none⟩ : Option Addr) = a9 := ⟨_, rfl⟩
            rw [hys, hyl, ha9] at hM
            clear hys ha9 hce hfe i0 i1 i2 x0 x1
            replace hM := hM.pick (is := [6, 4, 5, 2, 1, 7, 3]) (by decide) rfl
            dsimp only [List.filterMap_cons, List.filterMap_nil, List.getElem?_cons_zero, List.getElem?_cons_succ] at hM
            obtain ⟨k0, f0, l0⟩ := hM.row .here
            obtain ⟨k6, f6, l6⟩ := hM.row (.there (.there (.there (.there (.there (.there .here))))))
            go_wp2
            refine bodyPost_ret (v := .agg #[.int .i64 W, .int .i64 H, .slice a1 xs.length c1, .slice a2 fs.length c2, .slice a9 ys.length c3, .int .i64 t]) (by simp [results, Try.results94, go_sem, k0, k6]) rfl ⟨W, H, a1, c1, xs, a2, c2, fs, a9, c3, ys, t, e5, ⟨by omega, by omega⟩, rfl, ?_⟩
            apply Mem.curMore (hA := show A2 + 2 + 2 + 2 ≤ A + 300 by omega) (p := .there (.there (.there (HP.out.again _))))
            apply HR.out.out33
            apply Mem.pick (is := [1, 2, 3, 4, 5])
            · (repeat' (first | with_reducible exact hM | with_reducible exact hMp | with_reducible apply Mem.drew | with_reducible apply Mem.drewN | with_reducible apply Mem.alloc | with_reducible apply Mem.set | with_reducible exact Sto.row | ((with_reducible refine Sto.rowEq2 ?_ ?_); omega; rfl) | ((with_reducible refine Sto.rowEq ?_); omega) | with_reducible apply Sto.int | with_reducible apply Sto.there | with_reducible assumption | (unfold I64; omega) | (with_reducible (have hMx := Mem.undrew hM; exact hMx)) | (with_reducible (have hMx := Mem.undrew hMp; exact hMx))))
            · decide
            · rfl
          · skip
            intro K hK
            go_simp
            refine hK.out _ _ (by apply Mem.tail; apply Mem.tail; apply Mem.tail; (repeat' (first | with_reducible exact hM | with_reducible exact hMp | with_reducible apply Mem.drew | with_reducible apply Mem.drewN | with_reducible apply Mem.alloc | with_reducible apply Mem.set | with_reducible exact Sto.row | ((with_reducible refine Sto.rowEq2 ?_ ?_); omega; rfl) | ((with_reducible refine Sto.rowEq ?_); omega) | with_reducible apply Sto.int | with_reducible apply Sto.there | with_reducible assumption | (unfold I64; omega) | (with_reducible (have hMx := Mem.undrew hM; exact hMx)) | (with_reducible (have hMx := Mem.undrew hMp; exact hMx))))) ?_
            clear hK K hS
            have hMp := hM
            apply Mem.atF
            · (repeat' (first | with_reducible exact hM | with_reducible exact hMp | with_reducible apply Mem.drew | with_reducible apply Mem.drewN | with_reducible apply Mem.alloc | with_reducible apply Mem.set | with_reducible exact Sto.row | ((with_reducible refine Sto.rowEq2 ?_ ?_); omega; rfl) | ((with_reducible refine Sto.rowEq ?_); omega) | with_reducible apply Sto.int | with_reducible apply Sto.there | with_reducible assumption | (unfold I64; omega) | (with_reducible (have hMx := Mem.undrew hM; exact hMx)) | (with_reducible (have hMx := Mem.undrew hMp; exact hMx))))
            clear hM
            intro hM
            (try simp only [World.size_alloc, World.size_setCell, World.heap_drewN, heapDrew, Nat.add_assoc, Nat.reduceAdd, List.setIfInBounds_toArray, List.set_cons_zero, List.set_cons_succ, List.cons_append, List.nil_append] at hM)
            have hS := hM.tail.tail.tail
            refine AtF.only (i := 6) (by kernel_rfl) rfl rfl ?_
            intro K hK
            go_simp
            refine (pick_any (ws.length : Int) HC.out hM (.there .here) (by omega)).mono ?_
            rintro e w3 ⟨r2, hr, -, rfl, hm⟩
            have i1 := pick_lt hr (by omega)
            have i0 : (0 : Int) ≤ (r2 : Int) := by omega
            have i2 : r2 < ws.length := by omega
            clear hM hr
            have hM := hm
            clear hm
            try dsimp only at hM
            try dsimp only
            refine hK.out _ _ (hM.tail.tail.tail) ?_
            clear hK K hS
            have hS := hM.tail.tail.tail
            refine AtF.only (i := 9) (by kernel_rfl) rfl rfl ?_
            intro K hK
            go_simp
            refine (among_any [-1, 5, 6] HC.out hM (.there .here) (fun _ => .here) rfl (by decide) (by decide) (by omega) (by decide)).mono ?_
            rintro e w4 ⟨x, hx, rfl, hm⟩
            obtain ⟨x0, x1⟩ := amb (-2) 21 hx (by decide)
            clear hM hx
            have hM := hm
            clear hm
            try dsimp only at hM
            try dsimp only
            refine hK.out _ _ (hM.tail.tail.tail) ?_
            clear hK K hS
            have hS := hM.tail.tail.tail
            refine AtF.taked (i := 10) (v := ?_) (some 71) rfl rfl (by kernel_rfl) (by kernel_rfl) (by kernel_rfl) (anc_path [] _ _ (by kernel_rfl) (by kernel_rfl)) (fun _ _ _ h => h) (Or.inl ⟨by kernel_rfl, ?_⟩) hS rfl ?_
            rotate_left
            · (intro wS hSw; (try dsimp only at hSw); have kr0 := (Mem.row hSw .here).cell; go_simp; (try rw [if_neg (by omega)]); try with_reducible rfl)
            simp only [Act.put, List.setIfInBounds_toArray, List.set_cons_zero, List.set_cons_succ]
            refine AtF.last (by kernel_rfl) rfl (by kernel_rfl) ?_
            intro K hK
            clear hS
            have kk0 := (hM.row .here).cell
            have ff0 := (hM.row .here).free
            have ll0 := (hM.row .here).lt
            have kk3 := (hM.row (.there (.there (.there .here)))).cell
            have ff3 := (hM.row (.there (.there (.there .here)))).free
            have ll3 := (hM.row (.there (.there (.there .here)))).lt
            have hce := (hM.ints (.there (.there .here))).cellAt (k := r2) i2
            have hfe := (hM.ints (.there (.there .here))).freeAt r2
            go_simp
            clear kk0 ff0 ll0 kk3 ff3 ll3
            refine hK.out _ _ ?_
            clear hK K
            apply Mem.atEx
            · (repeat' (first | with_reducible exact hM | with_reducible exact hMp | with_reducible apply Mem.drew | with_reducible apply Mem.drewN | with_reducible apply Mem.alloc | with_reducible apply Mem.set | with_reducible exact Sto.row | ((with_reducible refine Sto.rowEq2 ?_ ?_); omega; rfl) | ((with_reducible refine Sto.rowEq ?_); omega) | with_reducible apply Sto.int | with_reducible apply Sto.there | with_reducible assumption | (unfold I64; omega) | (with_reducible (have hMx := Mem.undrew hM; exact hMx)) | (with_reducible (have hMx := Mem.undrew hMp; exact hMx))))
            clear hM
            intro wst hM
            (try simp only [World.size_alloc, World.size_setCell, World.heap_drewN, heapDrew, Nat.add_assoc, Nat.reduceAdd, List.setIfInBounds_toArray, List.set_cons_zero, List.set_cons_succ, List.cons_append, List.nil_append] at hM)
            obtain ⟨ys, hys⟩ : ∃ ys, ws.set r2 x = ys := ⟨_, rfl⟩
            have hyl : ws.length = ys.length := by rw [← hys, List.length_set]
            obtain ⟨a9, ha9⟩ : ∃ a9, (some ⟨gg, 0, none⟩ : Option Addr) = a9 := ⟨_, rfl⟩
            rw [hys, hyl, ha9] at hM
            clear hys ha9 hce hfe i0 i1 i2 x0 x1
            replace hM := hM.pick (is := [6, 4, 5, 2, 1, 7, 3]) (by decide) rfl
            dsimp only [List.filterMap_cons, List.filterMap_nil, List.getElem?_cons_zero, List.getElem?_cons_succ] at hM
            obtain ⟨k0, f0, l0⟩ := hM.row .here
            obtain ⟨k6, f6, l6⟩ := hM.row (.there (.there (.there (.there (.there (.there .here))))))
            go_wp2
            refine bodyPost_ret (v := .agg #[.int .i64 W, .int .i64 H, .slice a1 xs.length c1, .slice a2 fs.length c2, .slice a9 ys.length c3, .int .i64 t]) (by simp [results, Try.results94, go_sem, k0, k6]) rfl ⟨W, H, a1, c1, xs, a2, c2, fs, a9, c3, ys, t, e5, ⟨by omega, by omega⟩, rfl, ?_⟩
            apply Mem.curMore (hA := show A2 + 2 + 2 + 2 ≤ A + 300 by omega) (p := .there (.there (.there (HP.out.again _))))
            apply HR.out.out33
            apply Mem.pick (is := [1, 2, 3, 4, 5])
            · (repeat' (first | with_reducible exact hM | with_reducible exact hMp | with_reducible apply Mem.drew | with_reducible apply Mem.drewN | with_reducible apply Mem.alloc | with_reducible apply Mem.set | with_reducible exact Sto.row | ((with_reducible refine Sto.rowEq2 ?_ ?_); omega; rfl) | ((with_reducible refine Sto.rowEq ?_); omega) | with_reducible apply Sto.int | with_reducible apply Sto.there | with_reducible assumption | (unfold I64; omega) | (with_reducible (have hMx := Mem.undrew hM; exact hMx)) | (with_reducible (have hMx := Mem.undrew hMp; exact hMx))))
            · decide
            · rfl
        by_cases q2 : r = 2
        · subst q2
          go_wp2_with fail
          apply Mem.atA
          · (repeat' (first | with_reducible exact hM | with_reducible exact hMp | with_reducible apply Mem.drew | with_reducible apply Mem.drewN | with_reducible apply Mem.alloc | with_reducible apply Mem.set | with_reducible exact Sto.row | ((with_reducible refine Sto.rowEq2 ?_ ?_); omega; rfl) | ((with_reducible refine Sto.rowEq ?_); omega) | with_reducible apply Sto.int | with_reducible apply Sto.there | with_reducible assumption | (unfold I64; omega) | (with_reducible (have hMx := Mem.undrew hM; exact hMx)) | (with_reducible (have hMx := Mem.undrew hMp; exact hMx))))
          clear hM
          intro wst hM
          (try simp only [World.size_alloc, World.size_setCell, World.heap_drewN, heapDrew, Nat.add_assoc, Nat.reduceAdd, List.setIfInBounds_toArray, List.set_cons_zero, List.set_cons_succ, List.cons_append, List.nil_append] at hM)
          (first | refine (among_any [-1, 9999, 10000, 9990] HC.out hM (.there (.there (.there (.there (.there .here))))) (fun _ => .here) rfl (by decide) (by decide) (by omega) (by decide)).mono ?_)
          rintro e wc5 ⟨x, hx, rfl, hm⟩
          clear hM
          have hM := hm
          clear hm
          try dsimp only at hM
          clear hx q0 q1
          obtain ⟨k1, f1, l1⟩ := hM.row (.there .here)
          go_upto_region 18 with fail
          clear k1 f1 l1
          apply Mem.atWpA
          · (repeat' (first | with_reducible exact hM | with_reducible exact hMp | with_reducible apply Mem.drew | with_reducible apply Mem.drewN | with_reducible apply Mem.alloc | with_reducible apply Mem.set | with_reducible exact Sto.row | ((with_reducible refine Sto.rowEq2 ?_ ?_); omega; rfl) | ((with_reducible refine Sto.rowEq ?_); omega) | with_reducible apply Sto.int | with_reducible apply Sto.there | with_reducible assumption | (unfold I64; omega) | (with_reducible (have hMx := Mem.undrew hM; exact hMx)) | (with_reducible (have hMx := Mem.undrew hMp; exact hMx))))
          clear hM
          intro wst hM
          (try simp only [World.size_alloc, World.size_setCell, World.heap_drewN, heapDrew, Nat.add_assoc, Nat.reduceAdd, List.setIfInBounds_toArray, List.set_cons_zero, List.set_cons_succ, List.cons_append, List.nil_append] at hM)
          replace hM := hM.pick (is := [6, 2, 3, 4, 5, 7, 1]) (by decide) rfl
          dsimp only [List.filterMap_cons, List.filterMap_nil, List.getElem?_cons_zero, List.getElem?_cons_succ] at hM
          obtain ⟨k0, f0, l0⟩ := hM.row .here
          obtain ⟨k6, f6, l6⟩ := hM.row (.there (.there (.there (.there (.there (.there .here))))))
          go_wp2
          refine bodyPost_ret (v := .agg #[.int .i64 W, .int .i64 H, .slice a1 xs.length c1, .slice a2 fs.length c2, .slice a3 ws.length c3, .int .i64 x]) (by simp [results, Try.results94, go_sem, k0, k6]) rfl ⟨W, H, a1, c1, xs, a2, c2, fs, a3, c3, ws, x, e5, ⟨e3, by omega⟩, rfl, ?_⟩
          apply Mem.curMore (hA := show A2 + 2 + 2 ≤ A + 300 by omega) (p := .there (.there (.there (HP.out.again _))))
          apply HR.out.out33
          apply Mem.pick (is := [1, 2, 3, 4, 5])
          · (repeat' (first | with_reducible exact hM | with_reducible exact hMp | with_reducible apply Mem.drew | with_reducible apply Mem.drewN | with_reducible apply Mem.alloc | with_reducible apply Mem.set | with_reducible exact Sto.row | ((with_reducible refine Sto.rowEq2 ?_ ?_); omega; rfl) | ((with_reducible refine Sto.rowEq ?_); omega) | with_reducible apply Sto.int | with_reducible apply Sto.there | with_reducible assumption | (unfold I64; omega) | (with_reducible (have hMx := Mem.undrew hM; exact hMx)) | (with_reducible (have hMx := Mem.undrew hMp; exact hMx))))
          · decide
          · rfl
        by_cases q3 : r = 3
        · subst q3
          clear q0 q1 q2
          obtain ⟨k0, f0, l0⟩ := hM.row .here
          go_wp2_with (at_builtin; apply Mem.atL; (focus ((repeat' (first | with_reducible exact hM | with_reducible exact hMp | with_reducible apply Mem.drew | with_reducible apply Mem.drewN | with_reducible apply Mem.alloc | with_reducible apply Mem.set | with_reducible exact Sto.row | ((with_reducible refine Sto.rowEq2 ?_ ?_); omega; rfl) | ((with_reducible refine Sto.rowEq ?_); omega) | with_reducible apply Sto.int | with_reducible apply Sto.there | with_reducible assumption | (unfold I64; omega) | (with_reducible (have hMx := Mem.undrew hM; exact hMx)) | (with_reducible (have hMx := Mem.undrew hMp; exact hMx)))); done)); clear hM k0 f0 l0; intro hM; refine wpList_pushI hM (fun _ => .there (.there .here)) (by unfold I64; omega) (by omega) rfl _ _ _ Try.underlying24 rfl rfl rfl ?_)
          intro a6 c6 w6 hM
          obtain ⟨k0, f0, l0⟩ := hM.row .here
          go_upto_region 18 with fail
          clear k0 f0 l0
          apply Mem.atWpA
          · (repeat' (first | with_reducible exact hM | with_reducible exact hMp | with_reducible apply Mem.drew | with_reducible apply Mem.drewN | with_reducible apply Mem.alloc | with_reducible apply Mem.set | with_reducible exact Sto.row | ((with_reducible refine Sto.rowEq2 ?_ ?_); omega; rfl) | ((with_reducible refine Sto.rowEq ?_); omega) | with_reducible apply Sto.int | with_reducible apply Sto.there | with_reducible assumption | (unfold I64; omega) | (with_reducible (have hMx := Mem.undrew hM; exact hMx)) | (with_reducible (have hMx := Mem.undrew hMp; exact hMx))))
          clear hM
          intro wst hM
          (try simp only [World.size_alloc, World.size_setCell, World.heap_drewN, heapDrew, Nat.add_assoc, Nat.reduceAdd, List.setIfInBounds_toArray, List.set_cons_zero, List.set_cons_succ, List.cons_append, List.nil_append] at hM)
          replace hM := hM.pick (is := [5, 1, 2, 3, 4, 6, 0]) (by decide) rfl
          dsimp only [List.filterMap_cons, List.filterMap_nil, List.getElem?_cons_zero, List.getElem?_cons_succ] at hM
          obtain ⟨k0, f0, l0⟩ := hM.row .here
          obtain ⟨k6, f6, l6⟩ := hM.row (.there (.there (.there (.there (.there (.there .here))))))
          go_wp2
          refine bodyPost_ret (v := .agg #[.int .i64 W, .int .i64 H, .slice a1 xs.length c1, .slice a6 (fs.length + 1) c6, .slice a3 ws.length c3, .int .i64 t]) (by simp [results, Try.results94, go_sem, k0, k6]) rfl ⟨W, H, a1, c1, xs, a6, c6, fs ++ [0], a3, c3, ws, t, e5, ⟨by rw [List.length_append]; simp, by rw [List.length_append]; simp; omega⟩, by simp, ?_⟩
          rw [List.length_append, List.length_singleton]
          apply Mem.curMore (hA := show A2 + 2 ≤ A + 300 by omega) (p := .there (.there (.there (HP.out.again _))))
          apply HR.out.out33
          apply Mem.pick (is := [1, 2, 3, 4, 5])
          · (repeat' (first | with_reducible exact hM | with_reducible exact hMp | with_reducible apply Mem.drew | with_reducible apply Mem.drewN | with_reducible apply Mem.alloc | with_reducible apply Mem.set | with_reducible exact Sto.row | ((with_reducible refine Sto.rowEq2 ?_ ?_); omega; rfl) | ((with_reducible refine Sto.rowEq ?_); omega) | with_reducible apply Sto.int | with_reducible apply Sto.there | with_reducible assumption | (unfold I64; omega) | (with_reducible (have hMx := Mem.undrew hM; exact hMx)) | (with_reducible (have hMx := Mem.undrew hMp; exact hMx))))
          · decide
          · rfl
        have q0' : ¬ (r : Int) = 0 := by omega
        have q1' : ¬ (r : Int) = 1 := by omega
        have q2' : ¬ (r : Int) = 2 := by omega
        have q3' : ¬ (r : Int) = 3 := by omega
        clear q0 q1 q2 q3
        replace hM := hM.pick (is := [5, 1, 2, 3, 4, 6, 0]) (by decide) rfl
        dsimp only [List.filterMap_cons, List.filterMap_nil, List.getElem?_cons_zero, List.getElem?_cons_succ] at hM
        obtain ⟨k0, f0, l0⟩ := hM.row .here
        obtain ⟨k6, f6, l6⟩ := hM.row (.there (.there (.there (.there (.there (.there .here))))))
        go_wp2
        refine bodyPost_ret (v := .agg #[.int .i64 W, .int .i64 H, .slice a1 xs.length c1, .slice a2 fs.length c2, .slice a3 ws.length c3, .int .i64 t]) (by simp [results, Try.results94, go_sem, k0, k6]) rfl ⟨W, H, a1, c1, xs, a2, c2, fs, a3, c3, ws, t, e5, ⟨e3, by omega⟩, rfl, ?_⟩
        apply Mem.curMore (hA := show A2 + 2 ≤ A + 300 by omega) (p := .there (.there (.there (HP.out.again _))))
        apply HR.out.out33
        apply Mem.pick (is := [1, 2, 3, 4, 5])
        · (repeat' (first | with_reducible exact hM | with_reducible exact hMp | with_reducible apply Mem.drew | with_reducible apply Mem.drewN | with_reducible apply Mem.alloc | with_reducible apply Mem.set | with_reducible exact Sto.row | ((with_reducible refine Sto.rowEq2 ?_ ?_); omega; rfl) | ((with_reducible refine Sto.rowEq ?_); omega) | with_reducible apply Sto.int | with_reducible apply Sto.there | with_reducible assumption | (unfold I64; omega) | (with_reducible (have hMx := Mem.undrew hM; exact hMx)) | (with_reducible (have hMx := Mem.undrew hMp; exact hMx))))
        · decide
        · rfl
      obtain ⟨m, rfl⟩ : ∃ m, k = m + 1 := ⟨k - 1, by omega⟩
      replace hM := Mem.unpackAt [_] hM
      dsimp only [List.cons_append, List.nil_append] at hM
      have hn2 : n2 ≤ 25 := by
        obtain ⟨Wn, Hn, -, -, e1, e2, e3, e4, -⟩ := incB_facts HI.out
        rw [← (hM.intsR (.there (.there .here))).len]
        omega
      go_upto_region 6 with fail
      apply Mem.atWpA
      · (repeat' (first | with_reducible exact hM | with_reducible exact hMp | with_reducible apply Mem.drew | with_reducible apply Mem.drewN | with_reducible apply Mem.alloc | with_reducible apply Mem.set | with_reducible exact Sto.row | ((with_reducible refine Sto.rowEq2 ?_ ?_); omega; rfl) | ((with_reducible refine Sto.rowEq ?_); omega) | with_reducible apply Sto.int | with_reducible apply Sto.there | with_reducible assumption | (unfold I64; omega) | (with_reducible (have hMx := Mem.undrew hM; exact hMx)) | (with_reducible (have hMx := Mem.undrew hMp; exact hMx))))
      clear hM
      intro wst hM
      (try simp only [World.size_alloc, World.size_setCell, World.heap_drewN, heapDrew, Nat.add_assoc, Nat.reduceAdd, List.setIfInBounds_toArray, List.set_cons_zero, List.set_cons_succ, List.cons_append, List.nil_append] at hM)
      go_cut [7, 8] (fun s7 s8 wx => ∃ (b7 : Nat) (ok : Bool) (V U s : Int) (b1 : Option Addr) (m1 d1 : Nat) (ys : List Int) (b2 : Option Addr) (m2 d2 : Nat) (es : List Int) (b3 : Option Addr) (m3 d3 : Nat) (vs : List Int), s7 = .pointer (some ⟨b7, 0, none⟩) ∧ s8 = .bool ok ∧ Hid (ok = true → incB V U ys es vs s = true) ∧ Mem w0.heap.size w0 wx [rowE b7 46 #[.int .i64 V, .int .i64 U, .slice b1 m1 d1, .slice b2 m2 d2, .slice b3 m3 d3, .int .i64 s], packE [intE b1 m1 d1 ys, intE b2 m2 d2 es, intE b3 m3 d3 vs], rowE b4 46 #[.int .i64 W, .int .i64 H, .slice a1 n1 c1, .slice a2 n2 c2, .slice a3 n3 c3, .int .i64 t], packE [intE a1 n1 c1 xs, intE a2 n2 c2 fs, intE a3 n3 c3 ws], curE g ac nc cc (A2 + 8), rowE w.heap.size 46 #[.int .i64 0, .int .i64 0, .slice none 0 0, .slice none 0 0, .slice none 0 0, .int .i64 0], packE R])
      case first =>
        replace hM := hM.pick (is := [4, 0, 1, 2, 3, 5, 6]) (by decide) rfl
        dsimp only [List.filterMap_cons, List.filterMap_nil, List.getElem?_cons_zero, List.getElem?_cons_succ] at hM
        refine AtF.startA hM.tail hM 10 (by kernel_rfl) ?_
        clear hM
        intro wd hM
        have hS := hM.tail
        refine AtF.taked (i := 0) (v := ?_) (some 35) rfl rfl (by kernel_rfl) (by kernel_rfl) (by kernel_rfl) (anc_path [] _ _ (by kernel_rfl) (by kernel_rfl)) (fun _ _ _ h => h) (Or.inl ⟨by kernel_rfl, ?_⟩) hS rfl ?_
        rotate_left
        · (intro wS hSw; (try dsimp only at hSw); have kr0 := (Mem.row hSw .here).cell; go_simp; (try rw [if_neg (by omega)]); try with_reducible rfl)
        simp only [Act.put, List.setIfInBounds_toArray, List.set_cons_zero, List.set_cons_succ]
        refine AtF.taked (i := 1) (v := ?_) (some 36) rfl rfl (by kernel_rfl) (by kernel_rfl) (by kernel_rfl) (anc_path [] _ _ (by kernel_rfl) (by kernel_rfl)) (fun _ _ _ h => h) (Or.inl ⟨by kernel_rfl, ?_⟩) hS rfl ?_
        rotate_left
        · (intro wS hSw; (try dsimp only at hSw); go_simp; (try rw [if_neg (by omega)]); try with_reducible rfl)
        simp only [Act.put, List.setIfInBounds_toArray, List.set_cons_zero, List.set_cons_succ]
        refine AtF.taked (i := 2) (v := ?_) (some 37) rfl rfl (by kernel_rfl) (by kernel_rfl) (by kernel_rfl) (anc_path [] _ _ (by kernel_rfl) (by kernel_rfl)) (fun _ _ _ h => h) (Or.inl ⟨by kernel_rfl, ?_⟩) hS rfl ?_
        rotate_left
        · (intro wS hSw; (try dsimp only at hSw); have kr0 := (Mem.row hSw .here).cell; go_simp; (try rw [if_neg (by omega)]); try with_reducible rfl)
        simp only [Act.put, List.setIfInBounds_toArray, List.set_cons_zero, List.set_cons_succ]
        refine AtF.two (i := 3) (j := 8) (by kernel_rfl) rfl rfl rfl rfl ?_ ?_
        · skip
          intro K hK
          go_simp
          refine (action_any W H a1 n1 c1 a2 n2 c2 a3 n3 c3 t (by omega) HC.out hM .here (by omega)).mono ?_
          rintro e w3 ⟨v, -, rfl, hm⟩
          clear hM
          have hM := hm
          clear hm
          try dsimp only at hM
          try dsimp only
          refine hK.out _ _ (hM.tail) ?_
          clear hK K hS
          have hS := hM.tail
          refine AtF.two (i := 4) (j := 8) (by kernel_rfl) rfl rfl rfl rfl ?_ ?_
          · skip
            intro K hK
            go_simp
            refine (actOk_any W H a1 n1 c1 xs a2 n2 c2 fs a3 n3 c3 ws t v.kd v.cell _ (hM.intsR (.there (.there .here))) (hM.intsR (.there (.there (.there .here)))) (hM.intsR (.there (.there (.there (.there .here)))))).mono ?_
            rintro e w6 ⟨ok, V, U, s, b1, m1, d1, ys, b2, m2, d2, es, b3, m3, d3, vs, rfl, hi, hm⟩
            have HI2 := Lib.hid hi
            clear hi
            replace hM := hM.join hm
            clear hm
            dsimp only [List.cons_append, List.nil_append] at hM
            try dsimp only
            refine hK.out _ _ (hM.tail.tail) ?_
            clear hK K hS
            have hS := hM.tail.tail
            refine AtF.taked (i := 5) (v := ?_) (some 34) rfl rfl (by kernel_rfl) (by kernel_rfl) (by kernel_rfl) (anc_path [] _ _ (by kernel_rfl) (by kernel_rfl)) (fun _ _ _ h => h) (Or.inl ⟨by kernel_rfl, ?_⟩) hS rfl ?_
            rotate_left
            · (intro wS hSw; (try dsimp only at hSw); go_simp; (try rw [if_neg (by omega)]); try with_reducible rfl)
            simp only [Act.put, List.setIfInBounds_toArray, List.set_cons_zero, List.set_cons_succ]
            refine AtF.taked (i := 6) (v := ?_) (some 40) rfl rfl (by kernel_rfl) (by kernel_rfl) (by kernel_rfl) (anc_path [] _ _ (by kernel_rfl) (by kernel_rfl)) (fun _ _ _ h => h) (Or.inl ⟨by kernel_rfl, ?_⟩) hS rfl ?_
            rotate_left
            · (intro wS hSw; (try dsimp only at hSw); go_simp; (try rw [if_neg (by omega)]); try with_reducible rfl)
            simp only [Act.put, List.setIfInBounds_toArray, List.set_cons_zero, List.set_cons_succ]
            refine AtF.taked (i := 7) (v := ?_) (some 41) rfl rfl (by kernel_rfl) (by kernel_rfl) (by kernel_rfl) (anc_path [] _ _ (by kernel_rfl) (by kernel_rfl)) (fun _ _ _ h => h) (Or.inl ⟨by kernel_rfl, ?_⟩) hS rfl ?_
            rotate_left
            · (intro wS hSw; (try dsimp only at hSw); go_simp; (try rw [if_neg (by omega)]); try with_reducible rfl)
            simp only [Act.put, List.setIfInBounds_toArray, List.set_cons_zero, List.set_cons_succ]
            refine AtF.only (i := 8) (by kernel_rfl) rfl rfl ?_
            intro K hK
            go_simp
            refine hK.out _ _ (by apply Mem.tail; apply Mem.tail; apply Mem.tail; (repeat' (first | with_reducible exact hM | with_reducible exact hMp | with_reducible apply Mem.drew | with_reducible apply Mem.drewN | with_reducible apply Mem.alloc | with_reducible apply Mem.set | with_reducible exact Sto.row | ((with_reducible refine Sto.rowEq2 ?_ ?_); omega; rfl) | ((with_reducible refine Sto.rowEq ?_); omega) | with_reducible apply Sto.int | with_reducible apply Sto.there | with_reducible assumption | (unfold I64; omega) | (with_reducible (have hMx := Mem.undrew hM; exact hMx)) | (with_reducible (have hMx := Mem.undrew hMp; exact hMx))))) ?_
            clear hK K hS
            have hMp := hM
            apply Mem.atF
            · (repeat' (first | with_reducible exact hM | with_reducible exact hMp | with_reducible apply Mem.drew | with_reducible apply Mem.drewN | with_reducible apply Mem.alloc | with_reducible apply Mem.set | with_reducible exact Sto.row | ((with_reducible refine Sto.rowEq2 ?_ ?_); omega; rfl) | ((with_reducible refine Sto.rowEq ?_); omega) | with_reducible apply Sto.int | with_reducible apply Sto.there | with_reducible assumption | (unfold I64; omega) | (with_reducible (have hMx := Mem.undrew hM; exact hMx)) | (with_reducible (have hMx := Mem.undrew hMp; exact hMx))))
            clear hM
            intro hM
            (try simp only [World.size_alloc, World.size_setCell, World.heap_drewN, heapDrew, Nat.add_assoc, Nat.reduceAdd, List.setIfInBounds_toArray, List.set_cons_zero, List.set_cons_succ, List.cons_append, List.nil_append] at hM)
            have hS := hM.tail.tail.tail
            refine AtF.only (i := 9) (by kernel_rfl) rfl rfl ?_
            intro K hK
            have kk0 := (hM.row .here).cell
            have ff0 := (hM.row .here).free
            have ll0 := (hM.row .here).lt
            have kk3 := (hM.row (.there (.there (.there .here)))).cell
            have ff3 := (hM.row (.there (.there (.there .here)))).free
            have ll3 := (hM.row (.there (.there (.there .here)))).lt
            go_simp
            clear kk0 ff0 ll0 kk3 ff3 ll3
            refine hK.out _ _ (by apply Mem.tail; apply Mem.tail; apply Mem.tail; (repeat' (first | with_reducible exact hM | with_reducible exact hMp | with_reducible apply Mem.drew | with_reducible apply Mem.drewN | with_reducible apply Mem.alloc | with_reducible apply Mem.set | with_reducible exact Sto.row | ((with_reducible refine Sto.rowEq2 ?_ ?_); omega; rfl) | ((with_reducible refine Sto.rowEq ?_); omega) | with_reducible apply Sto.int | with_reducible apply Sto.there | with_reducible assumption | (unfold I64; omega) | (with_reducible (have hMx := Mem.undrew hM; exact hMx)) | (with_reducible (have hMx := Mem.undrew hMp; exact hMx))))) ?_
            clear hK K hS
            apply Mem.atF
            · (repeat' (first | with_reducible exact hM | with_reducible exact hMp | with_reducible apply Mem.drew | with_reducible apply Mem.drewN | with_reducible apply Mem.alloc | with_reducible apply Mem.set | with_reducible exact Sto.row | ((with_reducible refine Sto.rowEq2 ?_ ?_); omega; rfl) | ((with_reducible refine Sto.rowEq ?_); omega) | with_reducible apply Sto.int | with_reducible apply Sto.there | with_reducible assumption | (unfold I64; omega) | (with_reducible (have hMx := Mem.undrew hM; exact hMx)) | (with_reducible (have hMx := Mem.undrew hMp; exact hMx))))
            clear hM
            intro hM
            (try simp only [World.size_alloc, World.size_setCell, World.heap_drewN, heapDrew, Nat.add_assoc, Nat.reduceAdd, List.setIfInBounds_toArray, List.set_cons_zero, List.set_cons_succ, List.cons_append, List.nil_append] at hM)
            have hS := hM.tail.tail.tail
            refine AtF.last (by kernel_rfl) rfl (by kernel_rfl) ?_
            intro K hK
            clear hS
            go_simp
            refine hK.out _ _ ?_
            clear hK K
            go_wp2_with fail
            go_meet
            refine ⟨_, ok, V, U, s, b1, m1, d1, ys, b2, m2, d2, es, b3, m3, d3, vs, rfl, rfl, HI2, ?_⟩
            apply Mem.packAt [_, _, _]
            dsimp only [List.cons_append, List.nil_append]
            apply Mem.pick (is := [0, 1, 3, 4, 5, 6, 2, 7, 8])
            · (repeat' (first | with_reducible exact hM | with_reducible exact hMp | with_reducible apply Mem.drew | with_reducible apply Mem.drewN | with_reducible apply Mem.alloc | with_reducible apply Mem.set | with_reducible exact Sto.row | ((with_reducible refine Sto.rowEq2 ?_ ?_); omega; rfl) | ((with_reducible refine Sto.rowEq ?_); omega) | with_reducible apply Sto.int | with_reducible apply Sto.there | with_reducible assumption | (unfold I64; omega) | (with_reducible (have hMx := Mem.undrew hM; exact hMx)) | (with_reducible (have hMx := Mem.undrew hMp; exact hMx))))
            · decide
            · rfl
          · skip
            intro K hK
            go_simp
            refine hK.out _ _ (by apply Mem.tail; apply Mem.tail; (repeat' (first | with_reducible exact hM | with_reducible exact hMp | with_reducible apply Mem.drew | with_reducible apply Mem.drewN | with_reducible apply Mem.alloc | with_reducible apply Mem.set | with_reducible exact Sto.row | ((with_reducible refine Sto.rowEq2 ?_ ?_); omega; rfl) | ((with_reducible refine Sto.rowEq ?_); omega) | with_reducible apply Sto.int | with_reducible apply Sto.there | with_reducible assumption | (unfold I64; omega) | (with_reducible (have hMx := Mem.undrew hM; exact hMx)) | (with_reducible (have hMx := Mem.undrew hMp; exact hMx))))) ?_
            clear hK K hS
            have hMp := hM
            apply Mem.atF
            · (repeat' (first | with_reducible exact hM | with_reducible exact hMp | with_reducible apply Mem.drew | with_reducible apply Mem.drewN | with_reducible apply Mem.alloc | with_reducible apply Mem.set | with_reducible exact Sto.row | ((with_reducible refine Sto.rowEq2 ?_ ?_); omega; rfl) | ((with_reducible refine Sto.rowEq ?_); omega) | with_reducible apply Sto.int | with_reducible apply Sto.there | with_reducible assumption | (unfold I64; omega) | (with_reducible (have hMx := Mem.undrew hM; exact hMx)) | (with_reducible (have hMx := Mem.undrew hMp; exact hMx))))
            clear hM
            intro hM
            (try simp only [World.size_alloc, World.size_setCell, World.heap_drewN, heapDrew, Nat.add_assoc, Nat.reduceAdd, List.setIfInBounds_toArray, List.set_cons_zero, List.set_cons_succ, List.cons_append, List.nil_append] at hM)
            have hS := hM.tail.tail
            refine AtF.only (i := 4) (by kernel_rfl) rfl rfl ?_
            intro K hK
            go_simp
            refine (actOk_any W H a1 n1 c1 xs a2 n2 c2 fs a3 n3 c3 ws t v.kd v.cell _ (hM.intsR (.there (.there (.there .here)))) (hM.intsR (.there (.there (.there (.there .here))))) (hM.intsR (.there (.there (.there (.there (.there .here))))))).mono ?_
            rintro e w6 ⟨ok, V, U, s, b1, m1, d1, ys, b2, m2, d2, es, b3, m3, d3, vs, rfl, hi, hm⟩
            have HI2 := Lib.hid hi
            clear hi
            replace hM := hM.join hm
            clear hm
            dsimp only [List.cons_append, List.nil_append] at hM
            try dsimp only
            refine hK.out _ _ (hM.tail.tail.tail) ?_
            clear hK K hS
            have hS := hM.tail.tail.tail
            refine AtF.taked (i := 5) (v := ?_) (some 34) rfl rfl (by kernel_rfl) (by kernel_rfl) (by kernel_rfl) (anc_path [] _ _ (by kernel_rfl) (by kernel_rfl)) (fun _ _ _ h => h) (Or.inl ⟨by kernel_rfl, ?_⟩) hS rfl ?_
            rotate_left
            · (intro wS hSw; (try dsimp only at hSw); go_simp; (try rw [if_neg (by omega)]); try with_reducible rfl)
            simp only [Act.put, List.setIfInBounds_toArray, List.set_cons_zero, List.set_cons_succ]
            refine AtF.taked (i := 6) (v := ?_) (some 40) rfl rfl (by kernel_rfl) (by kernel_rfl) (by kernel_rfl) (anc_path [] _ _ (by kernel_rfl) (by kernel_rfl)) (fun _ _ _ h => h) (Or.inl ⟨by kernel_rfl, ?_⟩) hS rfl ?_
            rotate_left
            · (intro wS hSw; (try dsimp only at hSw); go_simp; (try rw [if_neg (by omega)]); try with_reducible rfl)
            simp only [Act.put, List.setIfInBounds_toArray, List.set_cons_zero, List.set_cons_succ]
            refine AtF.taked (i := 7) (v := ?_) (some 41) rfl rfl (by kernel_rfl) (by kernel_rfl) (by kernel_rfl) (anc_path [] _ _ (by kernel_rfl) (by kernel_rfl)) (fun _ _ _ h => h) (Or.inl ⟨by kernel_rfl, ?_⟩) hS rfl ?_
            rotate_left
            · (intro wS hSw; (try dsimp only at hSw); go_simp; (try rw [if_neg (by omega)]); try with_reducible rfl)
            simp only [Act.put, List.setIfInBounds_toArray, List.set_cons_zero, List.set_cons_succ]
            refine AtF.only (i := 9) (by kernel_rfl) rfl rfl ?_
            intro K hK
            have kk1 := (hM.row (.there .here)).cell
            have ff1 := (hM.row (.there .here)).free
            have ll1 := (hM.row (.there .here)).lt
            have kk3 := (hM.row (.there (.there (.there .here)))).cell
            have ff3 := (hM.row (.there (.there (.there .here)))).free
            have ll3 := (hM.row (.there (.there (.there .here)))).lt
            go_simp
            clear kk1 ff1 ll1 kk3 ff3 ll3
            refine hK.out _ _ (by apply Mem.tail; apply Mem.tail; apply Mem.tail; (repeat' (first | with_reducible exact hM | with_reducible exact hMp | with_reducible apply Mem.drew | with_reducible apply Mem.drewN | with_reducible apply Mem.alloc | with_reducible apply Mem.set | with_reducible exact Sto.row | ((with_reducible refine Sto.rowEq2 ?_ ?_); omega; rfl) | ((with_reducible refine Sto.rowEq ?_); omega) | with_reducible apply Sto.int | with_reducible apply Sto.there | with_reducible assumption | (unfold I64; omega) | (with_reducible (have hMx := Mem.undrew hM; exact hMx)) | (with_reducible (have hMx := Mem.undrew hMp; exact hMx))))) ?_
            clear hK K hS
            apply Mem.atF
            · (repeat' (first | with_reducible exact hM | with_reducible exact hMp | with_reducible apply Mem.drew | with_reducible apply Mem.drewN | with_reducible apply Mem.alloc | with_reducible apply Mem.set | with_reducible exact Sto.row | ((with_reducible refine Sto.rowEq2 ?_ ?_); omega; rfl) | ((with_reducible refine Sto.rowEq ?_); omega) | with_reducible apply Sto.int | with_reducible apply Sto.there | with_reducible assumption | (unfold I64; omega) | (with_reducible (have hMx := Mem.undrew hM; exact hMx)) | (with_reducible (have hMx := Mem.undrew hMp; exact hMx))))
            clear hM
            intro hM
            (try simp only [World.size_alloc, World.size_setCell, World.heap_drewN, heapDrew, Nat.add_assoc, Nat.reduceAdd, List.setIfInBounds_toArray, List.set_cons_zero, List.set_cons_succ, List.cons_append, List.nil_append] at hM)
            have hS := hM.tail.tail.tail
            refine AtF.last (by kernel_rfl) rfl (by kernel_rfl) ?_
            intro K hK
            clear hS
            go_simp
            refine hK.out _ _ ?_
            clear hK K
            go_wp2_with fail
            go_meet
            refine ⟨_, ok, V, U, s, b1, m1, d1, ys, b2, m2, d2, es, b3, m3, d3, vs, rfl, rfl, HI2, ?_⟩
            apply Mem.packAt [_, _, _]
            dsimp only [List.cons_append, List.nil_append]
            apply Mem.pick (is := [1, 0, 3, 4, 5, 6, 2, 7, 8])
            · (repeat' (first | with_reducible exact hM | with_reducible exact hMp | with_reducible apply Mem.drew | with_reducible apply Mem.drewN | with_reducible apply Mem.alloc | with_reducible apply Mem.set | with_reducible exact Sto.row | ((with_reducible refine Sto.rowEq2 ?_ ?_); omega; rfl) | ((with_reducible refine Sto.rowEq ?_); omega) | with_reducible apply Sto.int | with_reducible apply Sto.there | with_reducible assumption | (unfold I64; omega) | (with_reducible (have hMx := Mem.undrew hM; exact hMx)) | (with_reducible (have hMx := Mem.undrew hMp; exact hMx))))
            · decide
            · rfl
        · skip
          intro K hK
          go_simp
          refine hK.out _ _ (by apply Mem.tail; apply Mem.tail; (repeat' (first | with_reducible exact hM | with_reducible exact hMp | with_reducible apply Mem.drew | with_reducible apply Mem.drewN | with_reducible apply Mem.alloc | with_reducible apply Mem.set | with_reducible exact Sto.row | ((with_reducible refine Sto.rowEq2 ?_ ?_); omega; rfl) | ((with_reducible refine Sto.rowEq ?_); omega) | with_reducible apply Sto.int | with_reducible apply Sto.there | with_reducible assumption | (unfold I64; omega) | (with_reducible (have hMx := Mem.undrew hM; exact hMx)) | (with_reducible (have hMx := Mem.undrew hMp; exact hMx))))) ?_
          clear hK K hS
          have hMp := hM
          apply Mem.atF
          · (repeat' (first | with_reducible exact hM | with_reducible exact hMp | with_reducible apply Mem.drew | with_reducible apply Mem.drewN | with_reducible apply Mem.alloc | with_reducible apply Mem.set | with_reducible exact Sto.row | ((with_reducible refine Sto.rowEq2 ?_ ?_); omega; rfl) | ((with_reducible refine Sto.rowEq ?_); omega) | with_reducible apply Sto.int | with_reducible apply Sto.there | with_reducible assumption | (unfold I64; omega) | (with_reducible (have hMx := Mem.undrew hM; exact hMx)) | (with_reducible (have hMx := Mem.undrew hMp; exact hMx))))
          clear hM
          intro hM
          (try simp only [World.size_alloc, World.size_setCell, World.heap_drewN, heapDrew, Nat.add_assoc, Nat.reduceAdd, List.setIfInBounds_toArray, List.set_cons_zero, List.set_cons_succ, List.cons_append, List.nil_append] at hM)
          have hS := hM.tail.tail
          refine AtF.only (i := 3) (by kernel_rfl) rfl rfl ?_
          intro K hK
          go_simp
          refine (action_any W H a1 n1 c1 a2 n2 c2 a3 n3 c3 t (by omega) HC.out hM (.there .here) (by omega)).mono ?_
          rintro e w3 ⟨v, -, rfl, hm⟩
          clear hM
          have hM := hm
          clear hm
          try dsimp only at hM
          try dsimp only
          refine hK.out _ _ (hM.tail.tail) ?_
          clear hK K hS
          have hS := hM.tail.tail
          refine AtF.only (i := 4) (by kernel_rfl) rfl rfl ?_
          intro K hK
          go_simp
          refine (actOk_any W H a1 n1 c1 xs a2 n2 c2 fs a3 n3 c3 ws t v.kd v.cell _ (hM.intsR (.there (.there (.there .here)))) (hM.intsR (.there (.there (.there (.there .here))))) (hM.intsR (.there (.there (.there (.there (.there .here))))))).mono ?_
          rintro e w6 ⟨ok, V, U, s, b1, m1, d1, ys, b2, m2, d2, es, b3, m3, d3, vs, rfl, hi, hm⟩
          have HI2 := Lib.hid hi
          clear hi
          replace hM := hM.join hm
          clear hm
          dsimp only [List.cons_append, List.nil_append] at hM
          try dsimp only
          refine hK.out _ _ (hM.tail.tail.tail) ?_
          clear hK K hS
          have hS := hM.tail.tail.tail
          refine AtF.taked (i := 5) (v := ?_) (some 34) rfl rfl (by kernel_rfl) (by kernel_rfl) (by kernel_rfl) (anc_path [] _ _ (by kernel_rfl) (by kernel_rfl)) (fun _ _ _ h => h) (Or.inl ⟨by kernel_rfl, ?_⟩) hS rfl ?_
          rotate_left
          · (intro wS hSw; (try dsimp only at hSw); go_simp; (try rw [if_neg (by omega)]); try with_reducible rfl)
          simp only [Act.put, List.setIfInBounds_toArray, List.set_cons_zero, List.set_cons_succ]
          refine AtF.taked (i := 6) (v := ?_) (some 40) rfl rfl (by kernel_rfl) (by kernel_rfl) (by kernel_rfl) (anc_path [] _ _ (by kernel_rfl) (by kernel_rfl)) (fun _ _ _ h => h) (Or.inl ⟨by kernel_rfl, ?_⟩) hS rfl ?_
          rotate_left
          · (intro wS hSw; (try dsimp only at hSw); go_simp; (try rw [if_neg (by omega)]); try with_reducible rfl)
          simp only [Act.put, List.setIfInBounds_toArray, List.set_cons_zero, List.set_cons_succ]
          refine AtF.taked (i := 7) (v := ?_) (some 41) rfl rfl (by kernel_rfl) (by kernel_rfl) (by kernel_rfl) (anc_path [] _ _ (by kernel_rfl) (by kernel_rfl)) (fun _ _ _ h => h) (Or.inl ⟨by kernel_rfl, ?_⟩) hS rfl ?_
          rotate_left
          · (intro wS hSw; (try dsimp only at hSw); go_simp; (try rw [if_neg (by omega)]); try with_reducible rfl)
          simp only [Act.put, List.setIfInBounds_toArray, List.set_cons_zero, List.set_cons_succ]
          refine AtF.only (i := 9) (by kernel_rfl) rfl rfl ?_
          intro K hK
          have kk1 := (hM.row (.there .here)).cell
          have ff1 := (hM.row (.there .here)).free
          have ll1 := (hM.row (.there .here)).lt
          have kk3 := (hM.row (.there (.there (.there .here)))).cell
          have ff3 := (hM.row (.there (.there (.there .here)))).free
          have ll3 := (hM.row (.there (.there (.there .here)))).lt
          go_simp
          clear kk1 ff1 ll1 kk3 ff3 ll3
          refine hK.out _ _ (by apply Mem.tail; apply Mem.tail; apply Mem.tail; (repeat' (first | with_reducible exact hM | with_reducible exact hMp | with_reducible apply Mem.drew | with_reducible apply Mem.drewN | with_reducible apply Mem.alloc | with_reducible apply Mem.set | with_reducible exact Sto.row | ((with_reducible refine Sto.rowEq2 ?_ ?_); omega; rfl) | ((with_reducible refine Sto.rowEq ?_); omega) | with_reducible apply Sto.int | with_reducible apply Sto.there | with_reducible assumption | (unfold I64; omega) | (with_reducible (have hMx := Mem.undrew hM; exact hMx)) | (with_reducible (have hMx := Mem.undrew hMp; exact hMx))))) ?_
          clear hK K hS
          apply Mem.atF
          · (repeat' (first | with_reducible exact hM | with_reducible exact hMp | with_reducible apply Mem.drew | with_reducible apply Mem.drewN | with_reducible apply Mem.alloc | with_reducible apply Mem.set | with_reducible exact Sto.row | ((with_reducible refine Sto.rowEq2 ?_ ?_); omega; rfl) | ((with_reducible refine Sto.rowEq ?_); omega) | with_reducible apply Sto.int | with_reducible apply Sto.there | with_reducible assumption | (unfold I64; omega) | (with_reducible (have hMx := Mem.undrew hM; exact hMx)) | (with_reducible (have hMx := Mem.undrew hMp; exact hMx))))
          clear hM
          intro hM
          (try simp only [World.size_alloc, World.size_setCell, World.heap_drewN, heapDrew, Nat.add_assoc, Nat.reduceAdd, List.setIfInBounds_toArray, List.set_cons_zero, List.set_cons_succ, List.cons_append, List.nil_append] at hM)
          have hS := hM.tail.tail.tail
          refine AtF.last (by kernel_rfl) rfl (by kernel_rfl) ?_
          intro K hK
          clear hS
          go_simp
          refine hK.out _ _ ?_
          clear hK K
          go_wp2_with fail
          go_meet
          refine ⟨_, ok, V, U, s, b1, m1, d1, ys, b2, m2, d2, es, b3, m3, d3, vs, rfl, rfl, HI2, ?_⟩
          apply Mem.packAt [_, _, _]
          dsimp only [List.cons_append, List.nil_append]
          apply Mem.pick (is := [1, 0, 3, 4, 5, 6, 2, 7, 8])
          · (repeat' (first | with_reducible exact hM | with_reducible exact hMp | with_reducible apply Mem.drew | with_reducible apply Mem.drewN | with_reducible apply Mem.alloc | with_reducible apply Mem.set | with_reducible exact Sto.row | ((with_reducible refine Sto.rowEq2 ?_ ?_); omega; rfl) | ((with_reducible refine Sto.rowEq ?_); omega) | with_reducible apply Sto.int | with_reducible apply Sto.there | with_reducible assumption | (unfold I64; omega) | (with_reducible (have hMx := Mem.undrew hM; exact hMx)) | (with_reducible (have hMx := Mem.undrew hMp; exact hMx))))
          · decide
          · rfl
      case rest =>
        clear hM
        obtain ⟨b7, ok, V, U, s, b1, m1, d1, ys, b2, m2, d2, es, b3, m3, d3, vs, rfl, rfl, HI2, hM⟩ := hcut
        obtain ⟨k0, f0, l0⟩ := hM.row .here
        obtain ⟨k2, f2, l2⟩ := hM.row (.there (.there .here))
        cases ok
        · go_wp2
          go_roundw
          case rel => exact ⟨m, A2 + 8, W, H, t, a1, n1, c1, xs, a2, n2, c2, fs, a3, n3, c3, ws, by go_num, by omega, by omega, HI, hM.tail.tail⟩
          case measure => simp [intOf]
        · go_wp2
          go_roundw
          case rel =>
            refine ⟨m, A2 + 8, V, U, s, b1, m1, d1, ys, b2, m2, d2, es, b3, m3, d3, vs, by go_num, by omega, by omega, Lib.hid (HI2.out rfl), ?_⟩
            apply Mem.pick (is := [2, 1, 4, 5, 6])
            · (repeat' (first | with_reducible exact hM | with_reducible exact hMp | with_reducible apply Mem.drew | with_reducible apply Mem.drewN | with_reducible apply Mem.alloc | with_reducible apply Mem.set | with_reducible exact Sto.row | ((with_reducible refine Sto.rowEq2 ?_ ?_); omega; rfl) | ((with_reducible refine Sto.rowEq ?_); omega) | with_reducible apply Sto.int | with_reducible apply Sto.there | with_reducible assumption | (unfold I64; omega) | (with_reducible (have hMx := Mem.undrew hM; exact hMx)) | (with_reducible (have hMx := Mem.undrew hMp; exact hMx))))
            · decide
            · rfl
          case measure => simp [intOf]
end Go.Proofs.Ytkohfegajcmdbaa
