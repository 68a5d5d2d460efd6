/-
  The law FnTerrains, walked.
-/
import Derived.Test.YtpoabdmapbdmfaaDoorTTerC
import Derived.Test.YtpoabdmapbdmfaaDoorTTerD
import Derived.Test.YtpoabdmapbdmfaaDoorTLawV
import Derived.Test.YtpoabdmapbdmfaaDoorTOpCode
import Derived.Test.YtpoabdmapbdmfaaDoorTMir2
import Derived.Test.YtpoabdmapbdmfaaDoorTMir3
import Derived.Test.YtpoabdmapbdmfaaDoorTNbr
import Derived.Deep.DeepCutAuto
import Derived.Deep.CutBlock
/-
  The law FnTerrains, walked.
-/
namespace Go.Proofs.YtpoabdmapbdmfaaDoor
set_option linter.unusedSimpArgs false
set_option linter.unusedVariables false
open Go.RowKit

theorem text_fit {W H : Int} {xs : List Int} (h : goodB 20 W H xs = true) : parseB (textR W H xs) = true ∧ parW (textR W H xs) = W ∧ parH (textR W H xs) = H ∧ parL (textR W H xs) = xs := by
  obtain ⟨Wn, Hn, rfl, rfl, p1, p2, p3, p4, hl, h25, hx⟩ := goodB_true h
  have e : textR (Wn : Int) Hn xs = textB Wn xs := by rw [textR, h, Int.toNat_natCast]; rfl
  obtain ⟨h1, h2, h3, h4, -⟩ := text_back h
  rw [e]
  obtain ⟨e1, e2, e3⟩ := par_yes h4
  exact ⟨h4, by rw [e1, h1], by rw [e2, h2], by rw [e3, h3]⟩
theorem textR_len {W H : Int} {xs : List Int} : (textR W H xs).length ≤ 30 := by
  unfold textR
  cases h : goodB 20 W H xs
  · exact Nat.zero_le _
  · obtain ⟨Wn, Hn, rfl, rfl, p1, p2, p3, p4, hl, h25, hx⟩ := goodB_true h
    rw [Int.toNat_natCast]
    exact (text_back h).2.2.2.2
theorem par_fit {s : Bs} (h : parseB s = true) : goodB 20 (parW s) (parH s) (parL s) = true ∧ textR (parW s) (parH s) (parL s) = s := by
  obtain ⟨h1, h2, -⟩ := parse_good h
  obtain ⟨e1, e2, e3⟩ := par_yes h
  rw [e1, e2, e3]
  exact ⟨h1, by rw [textR, h1, Int.toNat_natCast]; exact h2⟩

set_option maxRecDepth 100000 in
set_option maxHeartbeats 16000000 in
theorem FnTerrains_walk (a : Option Addr) (n cc : Nat) (l : List UInt8) (w : World) (ht : Mx w) (hI : n ≤ maxLen ∧ (n ≤ 65536 → Rd FByt w a n cc l)) :
    Calls Tryd.prog 4 #[.slice a n cc] w fun e w' => e = .returned (.bool true) ∧ Below w.heap.size w w' := by
  have hM := Mem.start w
  have HT := Lib.hid ht; clear ht
  have HI := Lib.hid hI.2
  clear hI
  have S3 := bsA_list
  go_enter Tryd.func4, Tryd.ntmps4
  go_wp2_with fail
  apply Mem.atA
  · (repeat' (first | with_reducible exact hM | with_reducible exact hMp | with_reducible apply Mem.drew | with_reducible apply Mem.drewN | with_reducible apply Mem.alloc | with_reducible apply Mem.set | with_reducible exact Sto.row | ((with_reducible refine Sto.rowEq2 ?_ ?_); omega; rfl) | ((with_reducible refine Sto.rowEq ?_); omega) | with_reducible apply Sto.int | with_reducible apply Sto.there | with_reducible assumption | (unfold I64; omega) | (with_reducible (have hMx := Mem.undrew hM; exact hMx)) | (with_reducible (have hMx := Mem.undrew hMp; exact hMx))))
  clear hM
  intro wst hM
  (try simp only [World.size_alloc, World.size_setCell, World.heap_drewN, heapDrew, Nat.add_assoc, Nat.reduceAdd, List.setIfInBounds_toArray, List.set_cons_zero, List.set_cons_succ, List.cons_append, List.nil_append] at hM)
  (first | refine (vBig_any a n cc _).mono ?_)
  rintro e wc1 ⟨rfl, hb⟩
  replace hM := hM.ext hb
  clear hb
  by_cases hb : 65536 < n
  · go_wp2
    go_ret
    exact ⟨rfl, (by apply Mem.below; (repeat' (first | with_reducible exact hM | with_reducible exact hMp | with_reducible apply Mem.drew | with_reducible apply Mem.drewN | with_reducible apply Mem.alloc | with_reducible apply Mem.set | with_reducible exact Sto.row | ((with_reducible refine Sto.rowEq2 ?_ ?_); omega; rfl) | ((with_reducible refine Sto.rowEq ?_); omega) | with_reducible apply Sto.int | with_reducible apply Sto.there | with_reducible assumption | (unfold I64; omega) | (with_reducible (have hMx := Mem.undrew hM; exact hMx)) | (with_reducible (have hMx := Mem.undrew hMp; exact hMx)))))⟩
  have HC := Lib.hid (HI.out (by omega))
  clear HI
  go_wp2_with fail
  apply Mem.atA
  · (repeat' (first | with_reducible exact hM | with_reducible exact hMp | with_reducible apply Mem.drew | with_reducible apply Mem.drewN | with_reducible apply Mem.alloc | with_reducible apply Mem.set | with_reducible exact Sto.row | ((with_reducible refine Sto.rowEq2 ?_ ?_); omega; rfl) | ((with_reducible refine Sto.rowEq ?_); omega) | with_reducible apply Sto.int | with_reducible apply Sto.there | with_reducible assumption | (unfold I64; omega) | (with_reducible (have hMx := Mem.undrew hM; exact hMx)) | (with_reducible (have hMx := Mem.undrew hMp; exact hMx))))
  clear hM
  intro wst hM
  (try simp only [World.size_alloc, World.size_setCell, World.heap_drewN, heapDrew, Nat.add_assoc, Nat.reduceAdd, List.setIfInBounds_toArray, List.set_cons_zero, List.set_cons_succ, List.cons_append, List.nil_append] at hM)
  (first | refine (drawTer_text (HC.out.ext hM.below)).mono ?_)
  rintro e w1 ⟨W, H, a1, c1, xs, hS, rfl, hm⟩
  replace hM := hM.join hm
  clear hm
  (try simp only [World.size_alloc, World.size_setCell, World.heap_drewN, heapDrew, Nat.add_assoc, Nat.reduceAdd, List.setIfInBounds_toArray, List.set_cons_zero, List.set_cons_succ, List.cons_append, List.nil_append] at hM)
  clear hS
  obtain ⟨g, hg⟩ : ∃ g, goodB 20 W H xs = g := ⟨_, rfl⟩
  obtain ⟨t, ht⟩ : ∃ t, textR W H xs = t := ⟨_, rfl⟩
  have htl : t.length ≤ 30 := by rw [← ht]; exact textR_len
  have hfit := fun h : goodB 20 W H xs = true => text_fit h
  rw [hg, ht] at hfit
  obtain ⟨q, hq⟩ : ∃ b, parseB t = b := ⟨_, rfl⟩
  obtain ⟨W2, hW2⟩ : ∃ b, parW t = b := ⟨_, rfl⟩
  obtain ⟨H2, hH2⟩ : ∃ b, parH t = b := ⟨_, rfl⟩
  obtain ⟨x2, hx2⟩ : ∃ b, parL t = b := ⟨_, rfl⟩
  rw [hq, hW2, hH2, hx2] at hfit
  have HG := Lib.hid hg; have HTX := Lib.hid ht; have HF := Lib.hid hfit
  have HQ := Lib.hid hq; have HW2 := Lib.hid hW2; have HH2 := Lib.hid hH2; have HX2 := Lib.hid hx2
  clear hg ht hfit hq hW2 hH2 hx2
  have hgg : (g != g) = false := by cases g <;> rfl
  have htt : (t != t) = false := by simp
  go_upto_region 4 with fail
  apply Mem.atWpA
  · (repeat' (first | with_reducible exact hM | with_reducible exact hMp | with_reducible apply Mem.drew | with_reducible apply Mem.drewN | with_reducible apply Mem.alloc | with_reducible apply Mem.set | with_reducible exact Sto.row | ((with_reducible refine Sto.rowEq2 ?_ ?_); omega; rfl) | ((with_reducible refine Sto.rowEq ?_); omega) | with_reducible apply Sto.int | with_reducible apply Sto.there | with_reducible assumption | (unfold I64; omega) | (with_reducible (have hMx := Mem.undrew hM; exact hMx)) | (with_reducible (have hMx := Mem.undrew hMp; exact hMx))))
  clear hM
  intro wst hM
  (try simp only [World.size_alloc, World.size_setCell, World.heap_drewN, heapDrew, Nat.add_assoc, Nat.reduceAdd, List.setIfInBounds_toArray, List.set_cons_zero, List.set_cons_succ, List.cons_append, List.nil_append] at hM)
  obtain ⟨k0, f0, l0⟩ := hM.row .here
  go_wp2_with fail
  clear k0 f0 l0
  apply Mem.atA
  · (repeat' (first | with_reducible exact hM | with_reducible exact hMp | with_reducible apply Mem.drew | with_reducible apply Mem.drewN | with_reducible apply Mem.alloc | with_reducible apply Mem.set | with_reducible exact Sto.row | ((with_reducible refine Sto.rowEq2 ?_ ?_); omega; rfl) | ((with_reducible refine Sto.rowEq ?_); omega) | with_reducible apply Sto.int | with_reducible apply Sto.there | with_reducible assumption | (unfold I64; omega) | (with_reducible (have hMx := Mem.undrew hM; exact hMx)) | (with_reducible (have hMx := Mem.undrew hMp; exact hMx))))
  clear hM
  intro wst hM
  (try simp only [World.size_alloc, World.size_setCell, World.heap_drewN, heapDrew, Nat.add_assoc, Nat.reduceAdd, List.setIfInBounds_toArray, List.set_cons_zero, List.set_cons_succ, List.cons_append, List.nil_append] at hM)
  (first | refine (implText_any W H a1 xs.length c1 xs _ (hM.intsR (.there .here))).mono ?_)
  rw [HG.out]
  rw [HTX.out]
  rintro e wc3 ⟨rfl, hb⟩
  replace hM := hM.ext hb
  clear hb
  go_wp2_with fail
  apply Mem.atA
  · (repeat' (first | with_reducible exact hM | with_reducible exact hMp | with_reducible apply Mem.drew | with_reducible apply Mem.drewN | with_reducible apply Mem.alloc | with_reducible apply Mem.set | with_reducible exact Sto.row | ((with_reducible refine Sto.rowEq2 ?_ ?_); omega; rfl) | ((with_reducible refine Sto.rowEq ?_); omega) | with_reducible apply Sto.int | with_reducible apply Sto.there | with_reducible assumption | (unfold I64; omega) | (with_reducible (have hMx := Mem.undrew hM; exact hMx)) | (with_reducible (have hMx := Mem.undrew hMp; exact hMx))))
  clear hM
  intro wst hM
  (try simp only [World.size_alloc, World.size_setCell, World.heap_drewN, heapDrew, Nat.add_assoc, Nat.reduceAdd, List.setIfInBounds_toArray, List.set_cons_zero, List.set_cons_succ, List.cons_append, List.nil_append] at hM)
  (first | refine (implParse_any t _ (HT.out.ext hM.below) (by omega)).mono ?_)
  rw [HQ.out]
  rw [HW2.out]
  rw [HH2.out]
  rw [HX2.out]
  rintro e w2 ⟨a2, c2, rfl, hm⟩
  replace hM := hM.join hm
  clear hm
  (try simp only [World.size_alloc, World.size_setCell, World.heap_drewN, heapDrew, Nat.add_assoc, Nat.reduceAdd, List.setIfInBounds_toArray, List.set_cons_zero, List.set_cons_succ, List.cons_append, List.nil_append] at hM)
  try dsimp only [List.cons_append, List.nil_append] at hM
  go_upto_region 6 with fail
  apply Mem.atWpA
  · (repeat' (first | with_reducible exact hM | with_reducible exact hMp | with_reducible apply Mem.drew | with_reducible apply Mem.drewN | with_reducible apply Mem.alloc | with_reducible apply Mem.set | with_reducible exact Sto.row | ((with_reducible refine Sto.rowEq2 ?_ ?_); omega; rfl) | ((with_reducible refine Sto.rowEq ?_); omega) | with_reducible apply Sto.int | with_reducible apply Sto.there | with_reducible assumption | (unfold I64; omega) | (with_reducible (have hMx := Mem.undrew hM; exact hMx)) | (with_reducible (have hMx := Mem.undrew hMp; exact hMx))))
  clear hM
  intro wst hM
  (try simp only [World.size_alloc, World.size_setCell, World.heap_drewN, heapDrew, Nat.add_assoc, Nat.reduceAdd, List.setIfInBounds_toArray, List.set_cons_zero, List.set_cons_succ, List.cons_append, List.nil_append] at hM)
  obtain ⟨k2, f2, l2⟩ := hM.row (.there (.there .here))
  go_wp2_with fail
  clear k2 f2 l2
  apply Mem.atA
  · (repeat' (first | with_reducible exact hM | with_reducible exact hMp | with_reducible apply Mem.drew | with_reducible apply Mem.drewN | with_reducible apply Mem.alloc | with_reducible apply Mem.set | with_reducible exact Sto.row | ((with_reducible refine Sto.rowEq2 ?_ ?_); omega; rfl) | ((with_reducible refine Sto.rowEq ?_); omega) | with_reducible apply Sto.int | with_reducible apply Sto.there | with_reducible assumption | (unfold I64; omega) | (with_reducible (have hMx := Mem.undrew hM; exact hMx)) | (with_reducible (have hMx := Mem.undrew hMp; exact hMx))))
  clear hM
  intro wst hM
  (try simp only [World.size_alloc, World.size_setCell, World.heap_drewN, heapDrew, Nat.add_assoc, Nat.reduceAdd, List.setIfInBounds_toArray, List.set_cons_zero, List.set_cons_succ, List.cons_append, List.nil_append] at hM)
  (first | refine (specText_any W H a1 xs.length c1 xs _ (hM.intsR (.there (.there (.there .here))))).mono ?_)
  rw [HG.out]
  rw [HTX.out]
  rintro e wc5 ⟨rfl, hb⟩
  replace hM := hM.ext hb
  clear hb
  go_upto_region 7 with fail
  apply Mem.atWpA
  · (repeat' (first | with_reducible exact hM | with_reducible exact hMp | with_reducible apply Mem.drew | with_reducible apply Mem.drewN | with_reducible apply Mem.alloc | with_reducible apply Mem.set | with_reducible exact Sto.row | ((with_reducible refine Sto.rowEq2 ?_ ?_); omega; rfl) | ((with_reducible refine Sto.rowEq ?_); omega) | with_reducible apply Sto.int | with_reducible apply Sto.there | with_reducible assumption | (unfold I64; omega) | (with_reducible (have hMx := Mem.undrew hM; exact hMx)) | (with_reducible (have hMx := Mem.undrew hMp; exact hMx))))
  clear hM
  intro wst hM
  (try simp only [World.size_alloc, World.size_setCell, World.heap_drewN, heapDrew, Nat.add_assoc, Nat.reduceAdd, List.setIfInBounds_toArray, List.set_cons_zero, List.set_cons_succ, List.cons_append, List.nil_append] at hM)
  go_cut [91] (fun s wx => s = .bool false ∧ Mem w.heap.size w wx [])
  case first => as_aux_lemma =>
    obtain ⟨k2, f2, l2⟩ := hM.row (.there (.there .here))
    go_wp2_with fail
    clear k2 f2 l2
    apply Mem.atA
    · (repeat' (first | with_reducible exact hM | with_reducible exact hMp | with_reducible apply Mem.drew | with_reducible apply Mem.drewN | with_reducible apply Mem.alloc | with_reducible apply Mem.set | with_reducible exact Sto.row | ((with_reducible refine Sto.rowEq2 ?_ ?_); omega; rfl) | ((with_reducible refine Sto.rowEq ?_); omega) | with_reducible apply Sto.int | with_reducible apply Sto.there | with_reducible assumption | (unfold I64; omega) | (with_reducible (have hMx := Mem.undrew hM; exact hMx)) | (with_reducible (have hMx := Mem.undrew hMp; exact hMx))))
    clear hM
    intro wst hM
    (try simp only [World.size_alloc, World.size_setCell, World.heap_drewN, heapDrew, Nat.add_assoc, Nat.reduceAdd, List.setIfInBounds_toArray, List.set_cons_zero, List.set_cons_succ, List.cons_append, List.nil_append] at hM)
    (first | refine (IsTerrain_any W H a1 xs.length c1 xs _ (hM.intsR (.there (.there (.there .here))))).mono ?_)
    rw [HG.out]
    rintro e wc6 ⟨rfl, hb⟩
    replace hM := hM.ext hb
    clear hb
    cases g
    · go_wp2_with fail
      go_meet
      exact ⟨rfl, hM.sub (by simp)⟩
    · obtain ⟨e0, e1, e2, e3⟩ := HF.out rfl
      subst e0 e1 e2 e3
      obtain ⟨k0, f0, l0⟩ := hM.row .here
      obtain ⟨k2, f2, l2⟩ := hM.row (.there (.there .here))
      go_wp2_with fail
      clear k0 f0 l0 k2 f2 l2
      apply Mem.atA
      · (repeat' (first | with_reducible exact hM | with_reducible exact hMp | with_reducible apply Mem.drew | with_reducible apply Mem.drewN | with_reducible apply Mem.alloc | with_reducible apply Mem.set | with_reducible exact Sto.row | ((with_reducible refine Sto.rowEq2 ?_ ?_); omega; rfl) | ((with_reducible refine Sto.rowEq ?_); omega) | with_reducible apply Sto.int | with_reducible apply Sto.there | with_reducible assumption | (unfold I64; omega) | (with_reducible (have hMx := Mem.undrew hM; exact hMx)) | (with_reducible (have hMx := Mem.undrew hMp; exact hMx))))
      clear hM
      intro wst hM
      (try simp only [World.size_alloc, World.size_setCell, World.heap_drewN, heapDrew, Nat.add_assoc, Nat.reduceAdd, List.setIfInBounds_toArray, List.set_cons_zero, List.set_cons_succ, List.cons_append, List.nil_append] at hM)
      (first | refine (vTerrain_same W2 H2 _ _ _ x2 _ _ _ _ (hM.intsR (.there .here)) (hM.intsR (.there (.there (.there .here))))).mono ?_)
      rintro e wc7 ⟨rfl, hb⟩
      replace hM := hM.ext hb
      clear hb
      go_wp2_with fail
      go_meet
      exact ⟨rfl, hM.sub (by simp)⟩
  case rest => as_aux_lemma =>
    clear hM HF HQ HW2 HH2 HX2 HTX hgg htt HG htl
    obtain ⟨rfl, hM⟩ := hcut
    go_wp2_with fail
    apply Mem.atA
    · (repeat' (first | with_reducible exact hM | with_reducible exact hMp | with_reducible apply Mem.drew | with_reducible apply Mem.drewN | with_reducible apply Mem.alloc | with_reducible apply Mem.set | with_reducible exact Sto.row | ((with_reducible refine Sto.rowEq2 ?_ ?_); omega; rfl) | ((with_reducible refine Sto.rowEq ?_); omega) | with_reducible apply Sto.int | with_reducible apply Sto.there | with_reducible assumption | (unfold I64; omega) | (with_reducible (have hMx := Mem.undrew hM; exact hMx)) | (with_reducible (have hMx := Mem.undrew hMp; exact hMx))))
    clear hM
    intro wst hM
    (try simp only [World.size_alloc, World.size_setCell, World.heap_drewN, heapDrew, Nat.add_assoc, Nat.reduceAdd, List.setIfInBounds_toArray, List.set_cons_zero, List.set_cons_succ, List.cons_append, List.nil_append] at hM)
    (first | refine (drawTer_parse (HC.out.ext hM.below)).mono ?_)
    rintro e w3 ⟨s, hs, rfl, hm⟩
    replace hM := hM.join hm
    clear hm
    (try simp only [World.size_alloc, World.size_setCell, World.heap_drewN, heapDrew, Nat.add_assoc, Nat.reduceAdd, List.setIfInBounds_toArray, List.set_cons_zero, List.set_cons_succ, List.cons_append, List.nil_append] at hM)
    have hpf := fun h : parseB s = true => par_fit h
    obtain ⟨q, hq⟩ : ∃ b, parseB s = b := ⟨_, rfl⟩
    obtain ⟨W2, hW2⟩ : ∃ b, parW s = b := ⟨_, rfl⟩
    obtain ⟨H2, hH2⟩ : ∃ b, parH s = b := ⟨_, rfl⟩
    obtain ⟨x2, hx2⟩ : ∃ b, parL s = b := ⟨_, rfl⟩
    rw [hq, hW2, hH2, hx2] at hpf
    have HQ := Lib.hid hq; have HW2 := Lib.hid hW2; have HH2 := Lib.hid hH2; have HX2 := Lib.hid hx2; have HPF := Lib.hid hpf
    clear hq hW2 hH2 hx2 hpf
    obtain ⟨g, hg⟩ : ∃ g, goodB 20 W2 H2 x2 = g := ⟨_, rfl⟩
    obtain ⟨t, ht⟩ : ∃ t, textR W2 H2 x2 = t := ⟨_, rfl⟩
    rw [hg, ht] at HPF
    have HG := Lib.hid hg; have HTX := Lib.hid ht
    clear hg ht
    have hqq : (q != q) = false := by cases q <;> rfl
    have hss : (s != s) = false := by simp
    go_wp2_with fail
    apply Mem.atA
    · (repeat' (first | with_reducible exact hM | with_reducible exact hMp | with_reducible apply Mem.drew | with_reducible apply Mem.drewN | with_reducible apply Mem.alloc | with_reducible apply Mem.set | with_reducible exact Sto.row | ((with_reducible refine Sto.rowEq2 ?_ ?_); omega; rfl) | ((with_reducible refine Sto.rowEq ?_); omega) | with_reducible apply Sto.int | with_reducible apply Sto.there | with_reducible assumption | (unfold I64; omega) | (with_reducible (have hMx := Mem.undrew hM; exact hMx)) | (with_reducible (have hMx := Mem.undrew hMp; exact hMx))))
    clear hM
    intro wst hM
    (try simp only [World.size_alloc, World.size_setCell, World.heap_drewN, heapDrew, Nat.add_assoc, Nat.reduceAdd, List.setIfInBounds_toArray, List.set_cons_zero, List.set_cons_succ, List.cons_append, List.nil_append] at hM)
    (first | refine (implParse_any s _ (HT.out.ext hM.below) (by omega)).mono ?_)
    rw [HQ.out]
    rw [HW2.out]
    rw [HH2.out]
    rw [HX2.out]
    rintro e w4 ⟨a2, c2, rfl, hm⟩
    replace hM := hM.join hm
    clear hm
    (try simp only [World.size_alloc, World.size_setCell, World.heap_drewN, heapDrew, Nat.add_assoc, Nat.reduceAdd, List.setIfInBounds_toArray, List.set_cons_zero, List.set_cons_succ, List.cons_append, List.nil_append] at hM)
    try dsimp only [List.cons_append, List.nil_append] at hM
    go_upto_region 11 with fail
    apply Mem.atWpA
    · (repeat' (first | with_reducible exact hM | with_reducible exact hMp | with_reducible apply Mem.drew | with_reducible apply Mem.drewN | with_reducible apply Mem.alloc | with_reducible apply Mem.set | with_reducible exact Sto.row | ((with_reducible refine Sto.rowEq2 ?_ ?_); omega; rfl) | ((with_reducible refine Sto.rowEq ?_); omega) | with_reducible apply Sto.int | with_reducible apply Sto.there | with_reducible assumption | (unfold I64; omega) | (with_reducible (have hMx := Mem.undrew hM; exact hMx)) | (with_reducible (have hMx := Mem.undrew hMp; exact hMx))))
    clear hM
    intro wst hM
    (try simp only [World.size_alloc, World.size_setCell, World.heap_drewN, heapDrew, Nat.add_assoc, Nat.reduceAdd, List.setIfInBounds_toArray, List.set_cons_zero, List.set_cons_succ, List.cons_append, List.nil_append] at hM)
    obtain ⟨k0, f0, l0⟩ := hM.row .here
    go_wp2_with fail
    clear k0 f0 l0
    apply Mem.atA
    · (repeat' (first | with_reducible exact hM | with_reducible exact hMp | with_reducible apply Mem.drew | with_reducible apply Mem.drewN | with_reducible apply Mem.alloc | with_reducible apply Mem.set | with_reducible exact Sto.row | ((with_reducible refine Sto.rowEq2 ?_ ?_); omega; rfl) | ((with_reducible refine Sto.rowEq ?_); omega) | with_reducible apply Sto.int | with_reducible apply Sto.there | with_reducible assumption | (unfold I64; omega) | (with_reducible (have hMx := Mem.undrew hM; exact hMx)) | (with_reducible (have hMx := Mem.undrew hMp; exact hMx))))
    clear hM
    intro wst hM
    (try simp only [World.size_alloc, World.size_setCell, World.heap_drewN, heapDrew, Nat.add_assoc, Nat.reduceAdd, List.setIfInBounds_toArray, List.set_cons_zero, List.set_cons_succ, List.cons_append, List.nil_append] at hM)
    (first | refine (implText_any W2 H2 a2 x2.length c2 x2 _ (hM.intsR (.there .here))).mono ?_)
    rw [HG.out]
    rw [HTX.out]
    rintro e wc10 ⟨rfl, hb⟩
    replace hM := hM.ext hb
    clear hb
    go_wp2_with fail
    apply Mem.atA
    · (repeat' (first | with_reducible exact hM | with_reducible exact hMp | with_reducible apply Mem.drew | with_reducible apply Mem.drewN | with_reducible apply Mem.alloc | with_reducible apply Mem.set | with_reducible exact Sto.row | ((with_reducible refine Sto.rowEq2 ?_ ?_); omega; rfl) | ((with_reducible refine Sto.rowEq ?_); omega) | with_reducible apply Sto.int | with_reducible apply Sto.there | with_reducible assumption | (unfold I64; omega) | (with_reducible (have hMx := Mem.undrew hM; exact hMx)) | (with_reducible (have hMx := Mem.undrew hMp; exact hMx))))
    clear hM
    intro wst hM
    (try simp only [World.size_alloc, World.size_setCell, World.heap_drewN, heapDrew, Nat.add_assoc, Nat.reduceAdd, List.setIfInBounds_toArray, List.set_cons_zero, List.set_cons_succ, List.cons_append, List.nil_append] at hM)
    (first | refine (specParse_any s _ (by omega)).mono ?_)
    rw [HQ.out]
    rw [HW2.out]
    rw [HH2.out]
    rw [HX2.out]
    rintro e w5 ⟨a3, c3, rfl, hm⟩
    replace hM := hM.join hm
    clear hm
    (try simp only [World.size_alloc, World.size_setCell, World.heap_drewN, heapDrew, Nat.add_assoc, Nat.reduceAdd, List.setIfInBounds_toArray, List.set_cons_zero, List.set_cons_succ, List.cons_append, List.nil_append] at hM)
    try dsimp only [List.cons_append, List.nil_append] at hM
    go_upto_region 13 with fail
    apply Mem.atWpA
    · (repeat' (first | with_reducible exact hM | with_reducible exact hMp | with_reducible apply Mem.drew | with_reducible apply Mem.drewN | with_reducible apply Mem.alloc | with_reducible apply Mem.set | with_reducible exact Sto.row | ((with_reducible refine Sto.rowEq2 ?_ ?_); omega; rfl) | ((with_reducible refine Sto.rowEq ?_); omega) | with_reducible apply Sto.int | with_reducible apply Sto.there | with_reducible assumption | (unfold I64; omega) | (with_reducible (have hMx := Mem.undrew hM; exact hMx)) | (with_reducible (have hMx := Mem.undrew hMp; exact hMx))))
    clear hM
    intro wst hM
    (try simp only [World.size_alloc, World.size_setCell, World.heap_drewN, heapDrew, Nat.add_assoc, Nat.reduceAdd, List.setIfInBounds_toArray, List.set_cons_zero, List.set_cons_succ, List.cons_append, List.nil_append] at hM)
    go_cut [129] (fun s wx => s = .bool false ∧ Mem w.heap.size w wx [])
    case first => as_aux_lemma =>
      obtain ⟨k0, f0, l0⟩ := hM.row .here
      obtain ⟨k2, f2, l2⟩ := hM.row (.there (.there .here))
      go_wp2_with fail
      clear k0 f0 l0 k2 f2 l2
      apply Mem.atA
      · (repeat' (first | with_reducible exact hM | with_reducible exact hMp | with_reducible apply Mem.drew | with_reducible apply Mem.drewN | with_reducible apply Mem.alloc | with_reducible apply Mem.set | with_reducible exact Sto.row | ((with_reducible refine Sto.rowEq2 ?_ ?_); omega; rfl) | ((with_reducible refine Sto.rowEq ?_); omega) | with_reducible apply Sto.int | with_reducible apply Sto.there | with_reducible assumption | (unfold I64; omega) | (with_reducible (have hMx := Mem.undrew hM; exact hMx)) | (with_reducible (have hMx := Mem.undrew hMp; exact hMx))))
      clear hM
      intro wst hM
      (try simp only [World.size_alloc, World.size_setCell, World.heap_drewN, heapDrew, Nat.add_assoc, Nat.reduceAdd, List.setIfInBounds_toArray, List.set_cons_zero, List.set_cons_succ, List.cons_append, List.nil_append] at hM)
      (first | refine (vTerrain_same W2 H2 _ _ _ x2 _ _ _ _ (hM.intsR (.there (.there (.there .here)))) (hM.intsR (.there .here))).mono ?_)
      rintro e wc12 ⟨rfl, hb⟩
      replace hM := hM.ext hb
      clear hb
      cases q
      · go_wp2_with fail
        go_meet
        exact ⟨rfl, hM.sub (by simp)⟩
      · obtain ⟨e0, e1⟩ := HPF.out rfl
        subst e0 e1
        go_wp2_with fail
        go_meet
        exact ⟨rfl, hM.sub (by simp)⟩
    case rest => as_aux_lemma =>
      clear hM HPF HQ HW2 HH2 HX2 HTX hqq hss HG hs
      obtain ⟨rfl, hM⟩ := hcut
      go_wp2_with fail
      apply Mem.atA
      · (repeat' (first | with_reducible exact hM | with_reducible exact hMp | with_reducible apply Mem.drew | with_reducible apply Mem.drewN | with_reducible apply Mem.alloc | with_reducible apply Mem.set | with_reducible exact Sto.row | ((with_reducible refine Sto.rowEq2 ?_ ?_); omega; rfl) | ((with_reducible refine Sto.rowEq ?_); omega) | with_reducible apply Sto.int | with_reducible apply Sto.there | with_reducible assumption | (unfold I64; omega) | (with_reducible (have hMx := Mem.undrew hM; exact hMx)) | (with_reducible (have hMx := Mem.undrew hMp; exact hMx))))
      clear hM
      intro wst hM
      (try simp only [World.size_alloc, World.size_setCell, World.heap_drewN, heapDrew, Nat.add_assoc, Nat.reduceAdd, List.setIfInBounds_toArray, List.set_cons_zero, List.set_cons_succ, List.cons_append, List.nil_append] at hM)
      (first | refine (drawTer_mirror (HC.out.ext hM.below)).mono ?_)
      rintro e v1 ⟨W, H, a1, c1, xs, hS, rfl, hm⟩
      replace hM := hM.join hm
      clear hm
      (try simp only [World.size_alloc, World.size_setCell, World.heap_drewN, heapDrew, Nat.add_assoc, Nat.reduceAdd, List.setIfInBounds_toArray, List.set_cons_zero, List.set_cons_succ, List.cons_append, List.nil_append] at hM)
      clear hS
      obtain ⟨g, hg⟩ : ∃ g, goodB 20 W H xs = g := ⟨_, rfl⟩
      obtain ⟨⟨W5, H5, ys⟩, hmr⟩ : ∃ r, mirR W H xs = r := ⟨_, rfl⟩
      have hgg : (g != g) = false := by cases g <;> rfl
      have hmt : g = true → W5 = W ∧ H5 = H ∧ ys = mirL W.toNat xs := by
        intro e
        rw [mirR, hg, e] at hmr
        injection hmr with e1 e2 e3
        exact ⟨e1.symm, e2.symm, e3.symm⟩
      have HG := Lib.hid hg; have HMR := Lib.hid hmr; have HMT := Lib.hid hmt
      clear hg hmr hmt
      go_upto_region 16 with fail
      apply Mem.atWpA
      · (repeat' (first | with_reducible exact hM | with_reducible exact hMp | with_reducible apply Mem.drew | with_reducible apply Mem.drewN | with_reducible apply Mem.alloc | with_reducible apply Mem.set | with_reducible exact Sto.row | ((with_reducible refine Sto.rowEq2 ?_ ?_); omega; rfl) | ((with_reducible refine Sto.rowEq ?_); omega) | with_reducible apply Sto.int | with_reducible apply Sto.there | with_reducible assumption | (unfold I64; omega) | (with_reducible (have hMx := Mem.undrew hM; exact hMx)) | (with_reducible (have hMx := Mem.undrew hMp; exact hMx))))
      clear hM
      intro wst hM
      (try simp only [World.size_alloc, World.size_setCell, World.heap_drewN, heapDrew, Nat.add_assoc, Nat.reduceAdd, List.setIfInBounds_toArray, List.set_cons_zero, List.set_cons_succ, List.cons_append, List.nil_append] at hM)
      obtain ⟨k0, f0, l0⟩ := hM.row .here
      go_wp2_with fail
      clear k0 f0 l0
      apply Mem.atA
      · (repeat' (first | with_reducible exact hM | with_reducible exact hMp | with_reducible apply Mem.drew | with_reducible apply Mem.drewN | with_reducible apply Mem.alloc | with_reducible apply Mem.set | with_reducible exact Sto.row | ((with_reducible refine Sto.rowEq2 ?_ ?_); omega; rfl) | ((with_reducible refine Sto.rowEq ?_); omega) | with_reducible apply Sto.int | with_reducible apply Sto.there | with_reducible assumption | (unfold I64; omega) | (with_reducible (have hMx := Mem.undrew hM; exact hMx)) | (with_reducible (have hMx := Mem.undrew hMp; exact hMx))))
      clear hM
      intro wst hM
      (try simp only [World.size_alloc, World.size_setCell, World.heap_drewN, heapDrew, Nat.add_assoc, Nat.reduceAdd, List.setIfInBounds_toArray, List.set_cons_zero, List.set_cons_succ, List.cons_append, List.nil_append] at hM)
      (first | refine (implMirror_any W H a1 xs.length c1 xs _ (hM.intsR (.there .here))).mono ?_)
      rw [HMR.out]
      rw [HG.out]
      rintro e v2 ⟨a5, n5, c5, rfl, hO, hb⟩
      replace hM := hM.own hb hO
      clear hb hO
      try dsimp only at hM ⊢
      go_upto_region 17 with fail
      apply Mem.atWpA
      · (repeat' (first | with_reducible exact hM | with_reducible exact hMp | with_reducible apply Mem.drew | with_reducible apply Mem.drewN | with_reducible apply Mem.alloc | with_reducible apply Mem.set | with_reducible exact Sto.row | ((with_reducible refine Sto.rowEq2 ?_ ?_); omega; rfl) | ((with_reducible refine Sto.rowEq ?_); omega) | with_reducible apply Sto.int | with_reducible apply Sto.there | with_reducible assumption | (unfold I64; omega) | (with_reducible (have hMx := Mem.undrew hM; exact hMx)) | (with_reducible (have hMx := Mem.undrew hMp; exact hMx))))
      clear hM
      intro wst hM
      (try simp only [World.size_alloc, World.size_setCell, World.heap_drewN, heapDrew, Nat.add_assoc, Nat.reduceAdd, List.setIfInBounds_toArray, List.set_cons_zero, List.set_cons_succ, List.cons_append, List.nil_append] at hM)
      obtain ⟨k2, f2, l2⟩ := hM.row (.there (.there .here))
      go_wp2_with fail
      clear k2 f2 l2
      apply Mem.atA
      · (repeat' (first | with_reducible exact hM | with_reducible exact hMp | with_reducible apply Mem.drew | with_reducible apply Mem.drewN | with_reducible apply Mem.alloc | with_reducible apply Mem.set | with_reducible exact Sto.row | ((with_reducible refine Sto.rowEq2 ?_ ?_); omega; rfl) | ((with_reducible refine Sto.rowEq ?_); omega) | with_reducible apply Sto.int | with_reducible apply Sto.there | with_reducible assumption | (unfold I64; omega) | (with_reducible (have hMx := Mem.undrew hM; exact hMx)) | (with_reducible (have hMx := Mem.undrew hMp; exact hMx))))
      clear hM
      intro wst hM
      (try simp only [World.size_alloc, World.size_setCell, World.heap_drewN, heapDrew, Nat.add_assoc, Nat.reduceAdd, List.setIfInBounds_toArray, List.set_cons_zero, List.set_cons_succ, List.cons_append, List.nil_append] at hM)
      (first | refine (specMirror_any W H a1 xs.length c1 xs _ (hM.intsR (.there (.there (.there .here))))).mono ?_)
      rw [HMR.out]
      rw [HG.out]
      rintro e v3 ⟨a6, n6, c6, rfl, hO, hb⟩
      replace hM := hM.own hb hO
      clear hb hO
      try dsimp only at hM ⊢
      go_upto_region 18 with fail
      apply Mem.atWpA
      · (repeat' (first | with_reducible exact hM | with_reducible exact hMp | with_reducible apply Mem.drew | with_reducible apply Mem.drewN | with_reducible apply Mem.alloc | with_reducible apply Mem.set | with_reducible exact Sto.row | ((with_reducible refine Sto.rowEq2 ?_ ?_); omega; rfl) | ((with_reducible refine Sto.rowEq ?_); omega) | with_reducible apply Sto.int | with_reducible apply Sto.there | with_reducible assumption | (unfold I64; omega) | (with_reducible (have hMx := Mem.undrew hM; exact hMx)) | (with_reducible (have hMx := Mem.undrew hMp; exact hMx))))
      clear hM
      intro wst hM
      (try simp only [World.size_alloc, World.size_setCell, World.heap_drewN, heapDrew, Nat.add_assoc, Nat.reduceAdd, List.setIfInBounds_toArray, List.set_cons_zero, List.set_cons_succ, List.cons_append, List.nil_append] at hM)
      obtain ⟨k0, f0, l0⟩ := hM.row .here
      obtain ⟨k2, f2, l2⟩ := hM.row (.there (.there .here))
      go_wp2_with fail
      clear k0 f0 l0 k2 f2 l2
      apply Mem.atA
      · (repeat' (first | with_reducible exact hM | with_reducible exact hMp | with_reducible apply Mem.drew | with_reducible apply Mem.drewN | with_reducible apply Mem.alloc | with_reducible apply Mem.set | with_reducible exact Sto.row | ((with_reducible refine Sto.rowEq2 ?_ ?_); omega; rfl) | ((with_reducible refine Sto.rowEq ?_); omega) | with_reducible apply Sto.int | with_reducible apply Sto.there | with_reducible assumption | (unfold I64; omega) | (with_reducible (have hMx := Mem.undrew hM; exact hMx)) | (with_reducible (have hMx := Mem.undrew hMp; exact hMx))))
      clear hM
      intro wst hM
      (try simp only [World.size_alloc, World.size_setCell, World.heap_drewN, heapDrew, Nat.add_assoc, Nat.reduceAdd, List.setIfInBounds_toArray, List.set_cons_zero, List.set_cons_succ, List.cons_append, List.nil_append] at hM)
      (first | refine (vTerrain_same W5 H5 _ _ _ ys _ _ _ _ (hM.intsR (.there (.there (.there .here)))) (hM.intsR (.there .here))).mono ?_)
      rintro e wc16 ⟨rfl, hb⟩
      replace hM := hM.ext hb
      clear hb
      go_upto_if 151 with fail
      go_cut [] (fun wx => Mem w.heap.size w wx [])
      case first => as_aux_lemma =>
        cases g
        · go_wp2_with fail
          go_meet
          exact hM.sub (by simp)
        · obtain ⟨e1, e2, e3⟩ := HMT.out rfl
          subst e1 e2
          have hgy : goodB 20 W5 H5 ys = true := by rw [e3]; exact mirL_good HG.out
          have hbl := mir_burn HG.out
          rw [← e3] at hbl
          have hm2 : mirR W5 H5 ys = ⟨W5, H5, xs⟩ := by
            obtain ⟨Wn, Hn, rfl, rfl, p1, p2, p3, p4, hl, h25, hx⟩ := goodB_true HG.out
            rw [mirR, hgy, e3, Int.toNat_natCast, mirL_mirL (by omega) hl]
            rfl
          obtain ⟨b1, hb1⟩ : ∃ b, burnR W5 H5 xs = (b, true) := ⟨_, by rw [burnR, HG.out]; rfl⟩
          obtain ⟨b2, hb2⟩ : ∃ b, burnR W5 H5 ys = (b, true) := ⟨_, by rw [burnR, hgy]; rfl⟩
          rw [hb1, hb2] at hbl
          have hne : ((b1.length : Int) != (b2.length : Int)) = false := by
            have : b2.length = b1.length := hbl
            rw [this]
            simp
          have HG2 := Lib.hid hgy; have HM2 := Lib.hid hm2; have HB1 := Lib.hid hb1; have HB2 := Lib.hid hb2
          clear e3 hgy hbl hm2 hb1 hb2 hgg
          obtain ⟨k2, f2, l2⟩ := hM.row (.there (.there .here))
          go_wp2_with fail
          clear k2 f2 l2
          apply Mem.atA
          · (repeat' (first | with_reducible exact hM | with_reducible exact hMp | with_reducible apply Mem.drew | with_reducible apply Mem.drewN | with_reducible apply Mem.alloc | with_reducible apply Mem.set | with_reducible exact Sto.row | ((with_reducible refine Sto.rowEq2 ?_ ?_); omega; rfl) | ((with_reducible refine Sto.rowEq ?_); omega) | with_reducible apply Sto.int | with_reducible apply Sto.there | with_reducible assumption | (unfold I64; omega) | (with_reducible (have hMx := Mem.undrew hM; exact hMx)) | (with_reducible (have hMx := Mem.undrew hMp; exact hMx))))
          clear hM
          intro wst hM
          (try simp only [World.size_alloc, World.size_setCell, World.heap_drewN, heapDrew, Nat.add_assoc, Nat.reduceAdd, List.setIfInBounds_toArray, List.set_cons_zero, List.set_cons_succ, List.cons_append, List.nil_append] at hM)
          (first | refine (implMirror_any W5 H5 a5 n5 c5 ys _ (hM.intsR (.there (.there (.there .here))))).mono ?_)
          rw [HM2.out]
          rw [HG2.out]
          rintro e v4 ⟨a7, n7, c7, rfl, hO, hb⟩
          replace hM := hM.own hb hO
          clear hb hO
          try dsimp only at hM ⊢
          go_upto_region 22 with fail
          apply Mem.atWpA
          · (repeat' (first | with_reducible exact hM | with_reducible exact hMp | with_reducible apply Mem.drew | with_reducible apply Mem.drewN | with_reducible apply Mem.alloc | with_reducible apply Mem.set | with_reducible exact Sto.row | ((with_reducible refine Sto.rowEq2 ?_ ?_); omega; rfl) | ((with_reducible refine Sto.rowEq ?_); omega) | with_reducible apply Sto.int | with_reducible apply Sto.there | with_reducible assumption | (unfold I64; omega) | (with_reducible (have hMx := Mem.undrew hM; exact hMx)) | (with_reducible (have hMx := Mem.undrew hMp; exact hMx))))
          clear hM
          intro wst hM
          (try simp only [World.size_alloc, World.size_setCell, World.heap_drewN, heapDrew, Nat.add_assoc, Nat.reduceAdd, List.setIfInBounds_toArray, List.set_cons_zero, List.set_cons_succ, List.cons_append, List.nil_append] at hM)
          obtain ⟨k6, f6, l6⟩ := hM.row (.there (.there (.there (.there (.there (.there .here))))))
          go_wp2_with fail
          clear k6 f6 l6
          apply Mem.atA
          · (repeat' (first | with_reducible exact hM | with_reducible exact hMp | with_reducible apply Mem.drew | with_reducible apply Mem.drewN | with_reducible apply Mem.alloc | with_reducible apply Mem.set | with_reducible exact Sto.row | ((with_reducible refine Sto.rowEq2 ?_ ?_); omega; rfl) | ((with_reducible refine Sto.rowEq ?_); omega) | with_reducible apply Sto.int | with_reducible apply Sto.there | with_reducible assumption | (unfold I64; omega) | (with_reducible (have hMx := Mem.undrew hM; exact hMx)) | (with_reducible (have hMx := Mem.undrew hMp; exact hMx))))
          clear hM
          intro wst hM
          (try simp only [World.size_alloc, World.size_setCell, World.heap_drewN, heapDrew, Nat.add_assoc, Nat.reduceAdd, List.setIfInBounds_toArray, List.set_cons_zero, List.set_cons_succ, List.cons_append, List.nil_append] at hM)
          (first | refine (implBurn_any W5 H5 a1 xs.length c1 xs _ (hM.intsR (.there (.there (.there (.there (.there (.there (.there .here))))))))).mono ?_)
          rw [HB1.out]
          rintro e v5 ⟨a8, n8, c8, rfl, hm⟩
          replace hM := hM.join hm
          clear hm
          (try simp only [World.size_alloc, World.size_setCell, World.heap_drewN, heapDrew, Nat.add_assoc, Nat.reduceAdd, List.setIfInBounds_toArray, List.set_cons_zero, List.set_cons_succ, List.cons_append, List.nil_append] at hM)
          try dsimp only at hM ⊢
          obtain ⟨k5, f5, l5⟩ := hM.row (.there (.there (.there (.there (.there .here)))))
          go_wp2_with fail
          clear k5 f5 l5
          apply Mem.atA
          · (repeat' (first | with_reducible exact hM | with_reducible exact hMp | with_reducible apply Mem.drew | with_reducible apply Mem.drewN | with_reducible apply Mem.alloc | with_reducible apply Mem.set | with_reducible exact Sto.row | ((with_reducible refine Sto.rowEq2 ?_ ?_); omega; rfl) | ((with_reducible refine Sto.rowEq ?_); omega) | with_reducible apply Sto.int | with_reducible apply Sto.there | with_reducible assumption | (unfold I64; omega) | (with_reducible (have hMx := Mem.undrew hM; exact hMx)) | (with_reducible (have hMx := Mem.undrew hMp; exact hMx))))
          clear hM
          intro wst hM
          (try simp only [World.size_alloc, World.size_setCell, World.heap_drewN, heapDrew, Nat.add_assoc, Nat.reduceAdd, List.setIfInBounds_toArray, List.set_cons_zero, List.set_cons_succ, List.cons_append, List.nil_append] at hM)
          (first | refine (implBurn_any W5 H5 a5 n5 c5 ys _ (hM.intsR (.there (.there (.there (.there (.there (.there .here)))))))).mono ?_)
          rw [HB2.out]
          rintro e v6 ⟨a9, n9, c9, rfl, hm⟩
          replace hM := hM.join hm
          clear hm
          (try simp only [World.size_alloc, World.size_setCell, World.heap_drewN, heapDrew, Nat.add_assoc, Nat.reduceAdd, List.setIfInBounds_toArray, List.set_cons_zero, List.set_cons_succ, List.cons_append, List.nil_append] at hM)
          try dsimp only at hM ⊢
          obtain ⟨k2, f2, l2⟩ := hM.row (.there (.there .here))
          obtain ⟨k8, f8, l8⟩ := hM.row (.there (.there (.there (.there (.there (.there (.there (.there .here))))))))
          go_wp2_with fail
          clear k2 f2 l2 k8 f8 l8
          apply Mem.atA
          · (repeat' (first | with_reducible exact hM | with_reducible exact hMp | with_reducible apply Mem.drew | with_reducible apply Mem.drewN | with_reducible apply Mem.alloc | with_reducible apply Mem.set | with_reducible exact Sto.row | ((with_reducible refine Sto.rowEq2 ?_ ?_); omega; rfl) | ((with_reducible refine Sto.rowEq ?_); omega) | with_reducible apply Sto.int | with_reducible apply Sto.there | with_reducible assumption | (unfold I64; omega) | (with_reducible (have hMx := Mem.undrew hM; exact hMx)) | (with_reducible (have hMx := Mem.undrew hMp; exact hMx))))
          clear hM
          intro wst hM
          (try simp only [World.size_alloc, World.size_setCell, World.heap_drewN, heapDrew, Nat.add_assoc, Nat.reduceAdd, List.setIfInBounds_toArray, List.set_cons_zero, List.set_cons_succ, List.cons_append, List.nil_append] at hM)
          (first | refine (vTerrain_same W5 H5 _ _ _ xs _ _ _ _ (hM.intsR (.there (.there (.there .here)))) (hM.intsR (.there (.there (.there (.there (.there (.there (.there (.there (.there .here))))))))))).mono ?_)
          rintro e wc20 ⟨rfl, hb⟩
          replace hM := hM.ext hb
          clear hb
          have e8 : n8 = b1.length := (hM.ints (.there .here)).len.symm
          have e9 : n9 = b2.length := (hM.ints .here).len.symm
          subst e8 e9
          go_wp2_with fail
          go_meet
          exact hM.sub (by simp)
      case rest => as_aux_lemma =>
        clear hM HG HMR HMT hgg
        have hM := hcut
        clear hcut
        go_wp2_with fail
        apply Mem.atA
        · (repeat' (first | with_reducible exact hM | with_reducible exact hMp | with_reducible apply Mem.drew | with_reducible apply Mem.drewN | with_reducible apply Mem.alloc | with_reducible apply Mem.set | with_reducible exact Sto.row | ((with_reducible refine Sto.rowEq2 ?_ ?_); omega; rfl) | ((with_reducible refine Sto.rowEq ?_); omega) | with_reducible apply Sto.int | with_reducible apply Sto.there | with_reducible assumption | (unfold I64; omega) | (with_reducible (have hMx := Mem.undrew hM; exact hMx)) | (with_reducible (have hMx := Mem.undrew hMp; exact hMx))))
        clear hM
        intro wst hM
        (try simp only [World.size_alloc, World.size_setCell, World.heap_drewN, heapDrew, Nat.add_assoc, Nat.reduceAdd, List.setIfInBounds_toArray, List.set_cons_zero, List.set_cons_succ, List.cons_append, List.nil_append] at hM)
        (first | refine (drawTer_cell (HC.out.ext hM.below)).mono ?_)
        rintro e v5 ⟨W3, H3, a3, c3, zs, p, r, hS, hpr, rfl, hm⟩
        replace hM := hM.join hm
        clear hm
        (try simp only [World.size_alloc, World.size_setCell, World.heap_drewN, heapDrew, Nat.add_assoc, Nat.reduceAdd, List.setIfInBounds_toArray, List.set_cons_zero, List.set_cons_succ, List.cons_append, List.nil_append] at hM)
        clear hS hpr
        obtain ⟨⟨d, k⟩, hcl⟩ : ∃ z, cellR W3 H3 zs p r = z := ⟨_, rfl⟩
        have HCL := Lib.hid hcl; clear hcl
        have hdd : (d != d) = false := by simp
        have hkk : (k != k) = false := by cases k <;> rfl
        go_upto_region 27 with fail
        apply Mem.atWpA
        · (repeat' (first | with_reducible exact hM | with_reducible exact hMp | with_reducible apply Mem.drew | with_reducible apply Mem.drewN | with_reducible apply Mem.alloc | with_reducible apply Mem.set | with_reducible exact Sto.row | ((with_reducible refine Sto.rowEq2 ?_ ?_); omega; rfl) | ((with_reducible refine Sto.rowEq ?_); omega) | with_reducible apply Sto.int | with_reducible apply Sto.there | with_reducible assumption | (unfold I64; omega) | (with_reducible (have hMx := Mem.undrew hM; exact hMx)) | (with_reducible (have hMx := Mem.undrew hMp; exact hMx))))
        clear hM
        intro wst hM
        (try simp only [World.size_alloc, World.size_setCell, World.heap_drewN, heapDrew, Nat.add_assoc, Nat.reduceAdd, List.setIfInBounds_toArray, List.set_cons_zero, List.set_cons_succ, List.cons_append, List.nil_append] at hM)
        obtain ⟨k0, f0, l0⟩ := hM.row .here
        go_wp2_with fail
        clear k0 f0 l0
        apply Mem.atA
        · (repeat' (first | with_reducible exact hM | with_reducible exact hMp | with_reducible apply Mem.drew | with_reducible apply Mem.drewN | with_reducible apply Mem.alloc | with_reducible apply Mem.set | with_reducible exact Sto.row | ((with_reducible refine Sto.rowEq2 ?_ ?_); omega; rfl) | ((with_reducible refine Sto.rowEq ?_); omega) | with_reducible apply Sto.int | with_reducible apply Sto.there | with_reducible assumption | (unfold I64; omega) | (with_reducible (have hMx := Mem.undrew hM; exact hMx)) | (with_reducible (have hMx := Mem.undrew hMp; exact hMx))))
        clear hM
        intro wst hM
        (try simp only [World.size_alloc, World.size_setCell, World.heap_drewN, heapDrew, Nat.add_assoc, Nat.reduceAdd, List.setIfInBounds_toArray, List.set_cons_zero, List.set_cons_succ, List.cons_append, List.nil_append] at hM)
        (first | refine (implCell_any W3 H3 a3 zs.length c3 zs p r _ (hM.intsR (.there .here))).mono ?_)
        rw [HCL.out]
        rintro e wc22 ⟨rfl, hb⟩
        replace hM := hM.ext hb
        clear hb
        try dsimp only
        obtain ⟨k0, f0, l0⟩ := hM.row .here
        go_wp2_with fail
        clear k0 f0 l0
        apply Mem.atA
        · (repeat' (first | with_reducible exact hM | with_reducible exact hMp | with_reducible apply Mem.drew | with_reducible apply Mem.drewN | with_reducible apply Mem.alloc | with_reducible apply Mem.set | with_reducible exact Sto.row | ((with_reducible refine Sto.rowEq2 ?_ ?_); omega; rfl) | ((with_reducible refine Sto.rowEq ?_); omega) | with_reducible apply Sto.int | with_reducible apply Sto.there | with_reducible assumption | (unfold I64; omega) | (with_reducible (have hMx := Mem.undrew hM; exact hMx)) | (with_reducible (have hMx := Mem.undrew hMp; exact hMx))))
        clear hM
        intro wst hM
        (try simp only [World.size_alloc, World.size_setCell, World.heap_drewN, heapDrew, Nat.add_assoc, Nat.reduceAdd, List.setIfInBounds_toArray, List.set_cons_zero, List.set_cons_succ, List.cons_append, List.nil_append] at hM)
        (first | refine (specCell_any W3 H3 a3 zs.length c3 zs p r _ (hM.intsR (.there .here))).mono ?_)
        rw [HCL.out]
        rintro e wc23 ⟨rfl, hb⟩
        replace hM := hM.ext hb
        clear hb
        try dsimp only
        cases k
        · skip
          go_wp2_with fail
          apply Mem.atA
          · (repeat' (first | with_reducible exact hM | with_reducible exact hMp | with_reducible apply Mem.drew | with_reducible apply Mem.drewN | with_reducible apply Mem.alloc | with_reducible apply Mem.set | with_reducible exact Sto.row | ((with_reducible refine Sto.rowEq2 ?_ ?_); omega; rfl) | ((with_reducible refine Sto.rowEq ?_); omega) | with_reducible apply Sto.int | with_reducible apply Sto.there | with_reducible assumption | (unfold I64; omega) | (with_reducible (have hMx := Mem.undrew hM; exact hMx)) | (with_reducible (have hMx := Mem.undrew hMp; exact hMx))))
          clear hM
          intro wst hM
          (try simp only [World.size_alloc, World.size_setCell, World.heap_drewN, heapDrew, Nat.add_assoc, Nat.reduceAdd, List.setIfInBounds_toArray, List.set_cons_zero, List.set_cons_succ, List.cons_append, List.nil_append] at hM)
          (first | refine (drawTer_place (HC.out.ext hM.below)).mono ?_)
          rintro e v7 ⟨W4, H4, a4, c4, us, d4, hS, hd4, rfl, hm⟩
          replace hM := hM.join hm
          clear hm
          (try simp only [World.size_alloc, World.size_setCell, World.heap_drewN, heapDrew, Nat.add_assoc, Nat.reduceAdd, List.setIfInBounds_toArray, List.set_cons_zero, List.set_cons_succ, List.cons_append, List.nil_append] at hM)
          clear hS hd4
          obtain ⟨⟨e1, e2, e3⟩, hpl⟩ : ∃ z, placeR W4 H4 us d4 = z := ⟨_, rfl⟩
          have HPL := Lib.hid hpl; clear hpl
          have h1 : (e1 == e1) = true := by simp
          have h2 : (e2 == e2) = true := by simp
          have h3 : (e3 == e3) = true := by simp
          go_upto_region 35 with fail
          apply Mem.atWpA
          · (repeat' (first | with_reducible exact hM | with_reducible exact hMp | with_reducible apply Mem.drew | with_reducible apply Mem.drewN | with_reducible apply Mem.alloc | with_reducible apply Mem.set | with_reducible exact Sto.row | ((with_reducible refine Sto.rowEq2 ?_ ?_); omega; rfl) | ((with_reducible refine Sto.rowEq ?_); omega) | with_reducible apply Sto.int | with_reducible apply Sto.there | with_reducible assumption | (unfold I64; omega) | (with_reducible (have hMx := Mem.undrew hM; exact hMx)) | (with_reducible (have hMx := Mem.undrew hMp; exact hMx))))
          clear hM
          intro wst hM
          (try simp only [World.size_alloc, World.size_setCell, World.heap_drewN, heapDrew, Nat.add_assoc, Nat.reduceAdd, List.setIfInBounds_toArray, List.set_cons_zero, List.set_cons_succ, List.cons_append, List.nil_append] at hM)
          obtain ⟨k0, f0, l0⟩ := hM.row .here
          go_wp2_with fail
          clear k0 f0 l0
          apply Mem.atA
          · (repeat' (first | with_reducible exact hM | with_reducible exact hMp | with_reducible apply Mem.drew | with_reducible apply Mem.drewN | with_reducible apply Mem.alloc | with_reducible apply Mem.set | with_reducible exact Sto.row | ((with_reducible refine Sto.rowEq2 ?_ ?_); omega; rfl) | ((with_reducible refine Sto.rowEq ?_); omega) | with_reducible apply Sto.int | with_reducible apply Sto.there | with_reducible assumption | (unfold I64; omega) | (with_reducible (have hMx := Mem.undrew hM; exact hMx)) | (with_reducible (have hMx := Mem.undrew hMp; exact hMx))))
          clear hM
          intro wst hM
          (try simp only [World.size_alloc, World.size_setCell, World.heap_drewN, heapDrew, Nat.add_assoc, Nat.reduceAdd, List.setIfInBounds_toArray, List.set_cons_zero, List.set_cons_succ, List.cons_append, List.nil_append] at hM)
          (first | refine (implPlace_any W4 H4 a4 us.length c4 us d4 _ (hM.intsR (.there .here))).mono ?_)
          rw [HPL.out]
          rintro e wc25 ⟨rfl, hb⟩
          replace hM := hM.ext hb
          clear hb
          try dsimp only
          obtain ⟨k0, f0, l0⟩ := hM.row .here
          go_wp2_with fail
          clear k0 f0 l0
          apply Mem.atA
          · (repeat' (first | with_reducible exact hM | with_reducible exact hMp | with_reducible apply Mem.drew | with_reducible apply Mem.drewN | with_reducible apply Mem.alloc | with_reducible apply Mem.set | with_reducible exact Sto.row | ((with_reducible refine Sto.rowEq2 ?_ ?_); omega; rfl) | ((with_reducible refine Sto.rowEq ?_); omega) | with_reducible apply Sto.int | with_reducible apply Sto.there | with_reducible assumption | (unfold I64; omega) | (with_reducible (have hMx := Mem.undrew hM; exact hMx)) | (with_reducible (have hMx := Mem.undrew hMp; exact hMx))))
          clear hM
          intro wst hM
          (try simp only [World.size_alloc, World.size_setCell, World.heap_drewN, heapDrew, Nat.add_assoc, Nat.reduceAdd, List.setIfInBounds_toArray, List.set_cons_zero, List.set_cons_succ, List.cons_append, List.nil_append] at hM)
          (first | refine (specPlace_any W4 H4 a4 us.length c4 us d4 _ (hM.intsR (.there .here))).mono ?_)
          rw [HPL.out]
          rintro e wc26 ⟨rfl, hb⟩
          replace hM := hM.ext hb
          clear hb
          try dsimp only
          go_wp2
          go_ret
          exact ⟨rfl, (by apply Mem.below; (repeat' (first | with_reducible exact hM | with_reducible exact hMp | with_reducible apply Mem.drew | with_reducible apply Mem.drewN | with_reducible apply Mem.alloc | with_reducible apply Mem.set | with_reducible exact Sto.row | ((with_reducible refine Sto.rowEq2 ?_ ?_); omega; rfl) | ((with_reducible refine Sto.rowEq ?_); omega) | with_reducible apply Sto.int | with_reducible apply Sto.there | with_reducible assumption | (unfold I64; omega) | (with_reducible (have hMx := Mem.undrew hM; exact hMx)) | (with_reducible (have hMx := Mem.undrew hMp; exact hMx)))))⟩
        · have HPL := Lib.hid (cell_place HCL.out)
          have h1 : (p == p) = true := by simp
          have h2 : (r == r) = true := by simp
          obtain ⟨k0, f0, l0⟩ := hM.row .here
          go_wp2_with fail
          clear k0 f0 l0
          apply Mem.atA
          · (repeat' (first | with_reducible exact hM | with_reducible exact hMp | with_reducible apply Mem.drew | with_reducible apply Mem.drewN | with_reducible apply Mem.alloc | with_reducible apply Mem.set | with_reducible exact Sto.row | ((with_reducible refine Sto.rowEq2 ?_ ?_); omega; rfl) | ((with_reducible refine Sto.rowEq ?_); omega) | with_reducible apply Sto.int | with_reducible apply Sto.there | with_reducible assumption | (unfold I64; omega) | (with_reducible (have hMx := Mem.undrew hM; exact hMx)) | (with_reducible (have hMx := Mem.undrew hMp; exact hMx))))
          clear hM
          intro wst hM
          (try simp only [World.size_alloc, World.size_setCell, World.heap_drewN, heapDrew, Nat.add_assoc, Nat.reduceAdd, List.setIfInBounds_toArray, List.set_cons_zero, List.set_cons_succ, List.cons_append, List.nil_append] at hM)
          (first | refine (implPlace_any W3 H3 a3 zs.length c3 zs d _ (hM.intsR (.there .here))).mono ?_)
          rw [HPL.out]
          rintro e wc27 ⟨rfl, hb⟩
          replace hM := hM.ext hb
          clear hb
          try dsimp only
          go_wp2
          go_ret
          exact ⟨rfl, (by apply Mem.below; (repeat' (first | with_reducible exact hM | with_reducible exact hMp | with_reducible apply Mem.drew | with_reducible apply Mem.drewN | with_reducible apply Mem.alloc | with_reducible apply Mem.set | with_reducible exact Sto.row | ((with_reducible refine Sto.rowEq2 ?_ ?_); omega; rfl) | ((with_reducible refine Sto.rowEq ?_); omega) | with_reducible apply Sto.int | with_reducible apply Sto.there | with_reducible assumption | (unfold I64; omega) | (with_reducible (have hMx := Mem.undrew hM; exact hMx)) | (with_reducible (have hMx := Mem.undrew hMp; exact hMx)))))⟩
end Go.Proofs.YtpoabdmapbdmfaaDoor
