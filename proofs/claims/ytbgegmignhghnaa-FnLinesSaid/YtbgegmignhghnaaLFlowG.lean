/-
  The reference's BestLine.
-/
import Derived.Test.YtbgegmignhghnaaLFlowF
import Derived.Test.YtbgegmignhghnaaLFlowE
/-
  The reference's BestLine.
-/
namespace Go.Proofs.Ytbgegmignhghnaa
set_option linter.unusedSimpArgs false
set_option linter.unusedVariables false
open Go.RowKit

noncomputable def bestR (W H : Int) (xs ss ts : List Int) : LB := if caseB W H xs xs.length ss ts && !openB W.toNat xs.length xs ss ts && decide (fewV W.toNat xs.length xs ss ts ≤ 3) then ⟨(extL W.toNat xs.length xs ss ts (fewV W.toNat xs.length xs ss ts).toNat [] 0).getD [], true⟩ else ⟨[], false⟩
theorem best_case {W H : Int} {xs ss ts : List Int} (h : caseB W H xs xs.length ss ts = true) : ∃ Wn Hn : Nat, W = Wn ∧ H = Hn ∧ 0 < xs.length ∧ xs.length ≤ 25 ∧ (1 ≤ Wn ∧ Wn ≤ 5) ∧ (∀ x ∈ xs, 0 ≤ x) ∧ setB xs.length ss = true ∧ setB xs.length ts = true ∧ ∀ x ∈ ss, hasI ts x = false := by
  obtain ⟨hg, hs, ht, hd⟩ := caseB_true h
  obtain ⟨Wn, Hn, rfl, rfl, p1, p2, p3, p4, hlen, h25, hall⟩ := goodB_true hg
  exact ⟨Wn, Hn, rfl, rfl, by rw [hlen]; exact Nat.mul_pos p1 p3, h25, ⟨p1, p2⟩, fun x hx => (hall x hx).1, hs, ht, hd⟩

def GRes (w : World) (r : LB) (e : Ending) (w' : World) : Prop := ∃ g m c, e = .returned (.tuple #[.slice (some ⟨g, 0, none⟩) m c, .bool r.ok]) ∧ Mem w.heap.size w w' [intE (some ⟨g, 0, none⟩) m c r.l]
theorem GRes.l {w w' : World} {r : LB} {e : Ending} (h : GRes w r e w') : LRes w r e w' := by
  obtain ⟨g, m, c, h1, h2⟩ := h
  exact ⟨_, m, c, h1, h2⟩
set_option maxRecDepth 100000 in
set_option maxHeartbeats 30000000 in
theorem specBestG_any (W H : Int) (a : Option Addr) (n c : Nat) (xs : List Int) (a1 : Option Addr) (n1 c1 : Nat) (ss : List Int) (a2 : Option Addr) (n2 c2 : Nat) (ts : List Int) (w : World) (h : Ints w a n c xs) (h1 : Ints w a1 n1 c1 ss) (h2 : Ints w a2 n2 c2 ts) :
    Calls Try.prog 12 #[.agg #[.int .i64 W, .int .i64 H, .slice a n c], .slice a1 n1 c1, .slice a2 n2 c2] w ((GRes w (bestR W H xs ss ts))) := by
  have hM := Mem.start w
  have HL := Lib.hid h.len
  cases hc : caseB W H xs n ss ts
  · have HF := Lib.hid (show bestR W H xs ss ts = ⟨[], false⟩ by rw [bestR, HL.out, hc]; rfl)
    have HCC := Lib.hid hc; clear hc
    go_enter Try.func12, Try.ntmps12
    go_wp2_with fail
    apply Mem.atA
    · (repeat' (first | with_reducible exact hM | with_reducible exact hMp | with_reducible apply Mem.drew | with_reducible apply Mem.drewN | with_reducible apply Mem.alloc | with_reducible apply Mem.set | with_reducible exact Sto.row | ((with_reducible refine Sto.rowEq2 ?_ ?_); omega; rfl) | ((with_reducible refine Sto.rowEq ?_); omega) | with_reducible apply Sto.int | with_reducible apply Sto.there | with_reducible assumption | (unfold I64; omega) | (with_reducible (have hMx := Mem.undrew hM; exact hMx)) | (with_reducible (have hMx := Mem.undrew hMp; exact hMx))))
    clear hM
    intro wst hM
    (try simp only [World.size_alloc, World.size_setCell, World.heap_drewN, heapDrew, Nat.add_assoc, Nat.reduceAdd, List.setIfInBounds_toArray, List.set_cons_zero, List.set_cons_succ, List.cons_append, List.nil_append] at hM)
    (first | refine (l9Asked_any W H a n c xs a1 n1 c1 ss a2 n2 c2 ts _ (h.ext hM.below) (h1.ext hM.below) (h2.ext hM.below)).mono ?_)
    rw [HCC.out]
    rintro e wc1 ⟨rfl, hb⟩
    replace hM := hM.ext hb
    clear hb
    go_wp2
    go_ret2
    refine ⟨_, 0, 0, by rw [HF.out]; rfl, ?_⟩
    rw [HF.out]
    exact ((hM.alloc #[] 3).toInts (xs := []) .here rfl (by simp) (by simp)).first
  obtain ⟨Wn, Hn, rfl, rfl, hnp, hn25, hW, hxs, hs, ht, hd⟩ := best_case (by rw [HL.out]; exact hc)
  rw [HL.out] at hnp hn25 hs ht
  have HXS := Lib.hid hxs; have HD := Lib.hid hd; have HT := Lib.hid ht
  have HCC := Lib.hid hc
  clear hc hxs hd ht
  cases ho : openB Wn n xs ss ts
  rotate_left
  · have HF := Lib.hid (show bestR Wn Hn xs ss ts = ⟨[], false⟩ by rw [bestR, HL.out, HCC.out, Int.toNat_natCast, ho]; rfl)
    have HO := Lib.hid ho; clear ho
    go_enter Try.func12, Try.ntmps12
    go_wp2_with fail
    apply Mem.atA
    · (repeat' (first | with_reducible exact hM | with_reducible exact hMp | with_reducible apply Mem.drew | with_reducible apply Mem.drewN | with_reducible apply Mem.alloc | with_reducible apply Mem.set | with_reducible exact Sto.row | ((with_reducible refine Sto.rowEq2 ?_ ?_); omega; rfl) | ((with_reducible refine Sto.rowEq ?_); omega) | with_reducible apply Sto.int | with_reducible apply Sto.there | with_reducible assumption | (unfold I64; omega) | (with_reducible (have hMx := Mem.undrew hM; exact hMx)) | (with_reducible (have hMx := Mem.undrew hMp; exact hMx))))
    clear hM
    intro wst hM
    (try simp only [World.size_alloc, World.size_setCell, World.heap_drewN, heapDrew, Nat.add_assoc, Nat.reduceAdd, List.setIfInBounds_toArray, List.set_cons_zero, List.set_cons_succ, List.cons_append, List.nil_append] at hM)
    (first | refine (l9Asked_any Wn Hn a n c xs a1 n1 c1 ss a2 n2 c2 ts _ (h.ext hM.below) (h1.ext hM.below) (h2.ext hM.below)).mono ?_)
    rw [HCC.out]
    rintro e wc2 ⟨rfl, hb⟩
    replace hM := hM.ext hb
    clear hb
    obtain ⟨k0, f0, l0⟩ := hM.row .here
    go_wp2_with fail
    clear k0 f0 l0
    apply Mem.atA
    · (repeat' (first | with_reducible exact hM | with_reducible exact hMp | with_reducible apply Mem.drew | with_reducible apply Mem.drewN | with_reducible apply Mem.alloc | with_reducible apply Mem.set | with_reducible exact Sto.row | ((with_reducible refine Sto.rowEq2 ?_ ?_); omega; rfl) | ((with_reducible refine Sto.rowEq ?_); omega) | with_reducible apply Sto.int | with_reducible apply Sto.there | with_reducible assumption | (unfold I64; omega) | (with_reducible (have hMx := Mem.undrew hM; exact hMx)) | (with_reducible (have hMx := Mem.undrew hMp; exact hMx))))
    clear hM
    intro wst hM
    (try simp only [World.size_alloc, World.size_setCell, World.heap_drewN, heapDrew, Nat.add_assoc, Nat.reduceAdd, List.setIfInBounds_toArray, List.set_cons_zero, List.set_cons_succ, List.cons_append, List.nil_append] at hM)
    (first | refine (l9Open_any Wn Hn a n c xs a1 n1 c1 ss a2 n2 c2 ts _ (h.ext hM.below) (h1.ext hM.below) (h2.ext hM.below) hn25 hW hs HXS.out).mono ?_)
    rw [HO.out]
    rintro e wc3 ⟨rfl, hb⟩
    replace hM := hM.ext hb
    clear hb
    go_wp2
    go_ret2
    refine ⟨_, 0, 0, by rw [HF.out]; rfl, ?_⟩
    rw [HF.out]
    exact ((hM.alloc #[] 3).toInts (xs := []) .here rfl (by simp) (by simp)).first
  have HO := Lib.hid ho; clear ho
  go_enter Try.func12, Try.ntmps12
  go_wp2_with fail
  apply Mem.atA
  · (repeat' (first | with_reducible exact hM | with_reducible exact hMp | with_reducible apply Mem.drew | with_reducible apply Mem.drewN | with_reducible apply Mem.alloc | with_reducible apply Mem.set | with_reducible exact Sto.row | ((with_reducible refine Sto.rowEq2 ?_ ?_); omega; rfl) | ((with_reducible refine Sto.rowEq ?_); omega) | with_reducible apply Sto.int | with_reducible apply Sto.there | with_reducible assumption | (unfold I64; omega) | (with_reducible (have hMx := Mem.undrew hM; exact hMx)) | (with_reducible (have hMx := Mem.undrew hMp; exact hMx))))
  clear hM
  intro wst hM
  (try simp only [World.size_alloc, World.size_setCell, World.heap_drewN, heapDrew, Nat.add_assoc, Nat.reduceAdd, List.setIfInBounds_toArray, List.set_cons_zero, List.set_cons_succ, List.cons_append, List.nil_append] at hM)
  (first | refine (l9Asked_any Wn Hn a n c xs a1 n1 c1 ss a2 n2 c2 ts _ (h.ext hM.below) (h1.ext hM.below) (h2.ext hM.below)).mono ?_)
  rw [HCC.out]
  rintro e wc4 ⟨rfl, hb⟩
  replace hM := hM.ext hb
  clear hb
  obtain ⟨k0, f0, l0⟩ := hM.row .here
  go_wp2_with fail
  clear k0 f0 l0
  apply Mem.atA
  · (repeat' (first | with_reducible exact hM | with_reducible exact hMp | with_reducible apply Mem.drew | with_reducible apply Mem.drewN | with_reducible apply Mem.alloc | with_reducible apply Mem.set | with_reducible exact Sto.row | ((with_reducible refine Sto.rowEq2 ?_ ?_); omega; rfl) | ((with_reducible refine Sto.rowEq ?_); omega) | with_reducible apply Sto.int | with_reducible apply Sto.there | with_reducible assumption | (unfold I64; omega) | (with_reducible (have hMx := Mem.undrew hM; exact hMx)) | (with_reducible (have hMx := Mem.undrew hMp; exact hMx))))
  clear hM
  intro wst hM
  (try simp only [World.size_alloc, World.size_setCell, World.heap_drewN, heapDrew, Nat.add_assoc, Nat.reduceAdd, List.setIfInBounds_toArray, List.set_cons_zero, List.set_cons_succ, List.cons_append, List.nil_append] at hM)
  (first | refine (l9Open_any Wn Hn a n c xs a1 n1 c1 ss a2 n2 c2 ts _ (h.ext hM.below) (h1.ext hM.below) (h2.ext hM.below) hn25 hW hs HXS.out).mono ?_)
  rw [HO.out]
  rintro e wc5 ⟨rfl, hb⟩
  replace hM := hM.ext hb
  clear hb
  obtain ⟨k0, f0, l0⟩ := hM.row .here
  go_wp2_with fail
  clear k0 f0 l0
  apply Mem.atA hM
  clear hM
  intro wst hM
  refine (l9Ways_any Wn Hn a n c xs a1 n1 c1 ss a2 n2 c2 ts _ (h.ext hM.below) (h1.ext hM.below) (h2.ext hM.below) hn25 hW HXS.out HD.out HO.out).mono ?_
  rintro e w3 ⟨k, hfew, hk60, rfl, hb⟩
  replace hM := hM.ext hb
  clear hb
  have hv := fewV_of hfew
  have hex := few_ext hfew HT.out
  have HF := Lib.hid (show bestR Wn Hn xs ss ts = if k ≤ 3 then ⟨(extL Wn n xs ss ts k [] 0).getD [], true⟩ else ⟨[], false⟩ by
    rw [bestR, HL.out, HCC.out, Int.toNat_natCast, HO.out, hv]
    by_cases h3 : k ≤ 3
    · rw [if_pos (by simp; omega), if_pos h3, Int.toNat_natCast]
    · rw [if_neg (by simp; omega), if_neg h3])
  clear hv hfew
  by_cases h3 : k ≤ 3
  rotate_left
  · have HF2 := Lib.hid (show bestR Wn Hn xs ss ts = ⟨[], false⟩ by rw [HF.out, if_neg h3])
    go_wp2
    go_ret2
    refine ⟨_, 0, 0, by rw [HF2.out]; rfl, ?_⟩
    rw [HF2.out]
    exact ((hM.alloc #[] 3).toInts (xs := []) .here rfl (by simp) (by simp)).first
  obtain ⟨r, hr⟩ := Option.isSome_iff_exists.1 hex
  have HF2 := Lib.hid (show bestR Wn Hn xs ss ts = ⟨r, true⟩ by rw [HF.out, if_pos h3, hr]; rfl)
  have HR := Lib.hid hr
  clear hex hr HF
  obtain ⟨k0, f0, l0⟩ := hM.row .here
  go_wp2_with fail
  clear k0 f0 l0
  apply Mem.atA (hM.alloc #[] 3)
  clear hM
  intro wst2 hM
  replace hM := hM.toInts (xs := []) .here rfl (by simp) (by simp)
  refine (l9First_any Wn Hn a n c xs a1 n1 c1 ss a2 n2 c2 ts w h h1 h2 hnp hn25 hW hs HXS.out k _ _ _ 0 0 [] k _ (by omega) (by omega) (setB_iff.2 ⟨List.Pairwise.nil, by simp⟩) hM .here).mono ?_
  rw [show fromL [] = 0 from rfl, HR.out]
  rintro e w4 ⟨g4, m4, c4, out, rfl, hout, hm⟩
  obtain rfl : out = r := hout r rfl
  clear hM hout
  have hM := hm
  clear hm
  go_wp2
  go_ret2
  refine ⟨g4, m4, c4, by rw [HF2.out]; rfl, ?_⟩
  rw [HF2.out]
  exact hM.first
set_option maxRecDepth 100000 in
set_option maxHeartbeats 30000000 in
theorem specBest_any (W H : Int) (a : Option Addr) (n c : Nat) (xs : List Int) (a1 : Option Addr) (n1 c1 : Nat) (ss : List Int) (a2 : Option Addr) (n2 c2 : Nat) (ts : List Int) (w : World) (h : Ints w a n c xs) (h1 : Ints w a1 n1 c1 ss) (h2 : Ints w a2 n2 c2 ts) :
    Calls Try.prog 12 #[.agg #[.int .i64 W, .int .i64 H, .slice a n c], .slice a1 n1 c1, .slice a2 n2 c2] w ((LRes w (bestR W H xs ss ts))) := by
  exact (specBestG_any W H a n c xs a1 n1 c1 ss a2 n2 c2 ts w h h1 h2).mono fun _ _ h => h.l
end Go.Proofs.Ytbgegmignhghnaa
