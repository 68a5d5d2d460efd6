/-
  The reference's BestLine.
-/
import Derived.Test.YtojfbcgfeojdfaaGreatKFlowL
import Derived.Test.YtojfbcgfeojdfaaGreatKFlowF
/-
  Lines as lists, and the search for the smallest: plain Lean.
-/
namespace Go.Proofs.YtojfbcgfeojdfaaGreat
set_option linter.unusedSimpArgs false
set_option linter.unusedVariables false
open Go.RowKit

theorem clrL_get : ∀ {cells xs : List Int}, (∀ x ∈ cells, 0 ≤ x) → ∀ c : Nat, (clrL xs cells).getD c 0 = if hasI cells c = true then 0 else xs.getD c 0
  | [], xs, _, c => by simp [clrL, hasI]
  | y :: cells, xs, h, c => by
    have h1 : clrL xs (y :: cells) = clrL (xs.set y.toNat 0) cells := rfl
    rw [h1, clrL_get (fun x hx => h x (by simp [hx])) c]
    have hy := h y (by simp)
    have h2 : hasI (y :: cells) c = (y == (c : Int) || hasI cells c) := rfl
    rw [h2]
    by_cases e : y = (c : Int)
    · subst e
      rw [beq_self_eq_true, Bool.true_or, if_pos rfl]
      split
      · rfl
      · rw [Int.toNat_natCast, List.getD_eq_getElem?_getD, List.getElem?_set]
        by_cases hl : c < xs.length <;> simp [hl]
    · have e2 : (y == (c : Int)) = false := by simpa using e
      rw [e2, Bool.false_or]
      split
      · rfl
      · rw [List.getD_eq_getElem?_getD, List.getD_eq_getElem?_getD, List.getElem?_set_ne (by omega)]
theorem Reach.congr {n : Nat} {near : Nat → Nat → Bool} {burn burn' src : Nat → Bool} (h : ∀ c, c < n → burn c = burn' c) {c : Nat} (hr : Reach n near burn src c) : Reach n near burn' src c :=
  hr.least (T := fun c => Reach n near burn' src c) (fun c h1 h2 h3 => Reach.base h1 h2 (by rw [← h c h1]; exact h3)) (fun d c hd hc hb hn => Reach.step hd hc (by rw [← h c hc]; exact hb) hn)
section
variable {W n : Nat} {xs ss ts line : List Int}
theorem lineB_iff (hl : setB n line = true) (ht : setB n ts = true) : lineB W n xs ss ts line = true ↔ LineP n (nearN W) (brn xs) (fun k => hasI ss (k : Nat)) (fun k => hasI ts (k : Nat)) (fun k => hasI line (k : Nat)) := by
  have hlm := (setB_iff.1 hl).2
  have htm := (setB_iff.1 ht).2
  have hb : ∀ c : Nat, brn (clrL xs line) c = (brn xs c && !hasI line c) := fun c => by
    unfold brn
    rw [clrL_get (fun x hx => (hlm x hx).1)]
    cases hasI line c <;> simp
  have hR : ∀ c, Reach n (nearN W) (brn (clrL xs line)) (fun k => hasI ss (k : Nat)) c ↔ Reach n (nearN W) (fun k => brn xs k && !hasI line (k : Nat)) (fun k => hasI ss (k : Nat)) c := fun c => ⟨Reach.congr (fun c _ => hb c), Reach.congr (fun c _ => (hb c).symm)⟩
  unfold lineB
  rw [Bool.and_eq_true, List.all_eq_true]
  constructor
  · rintro ⟨h1, h2⟩
    refine ⟨fun c hc hcl => ?_, fun c hc hct hr => ?_⟩
    · have := h1 _ (hasI_iff.1 hcl)
      rw [hasI_cells hc] at this
      exact this
    · unfold holdB at h2
      have h3 := List.all_eq_true.1 h2 _ (hasI_iff.1 hct)
      unfold reachL at h3
      rw [hasI_cells hc, reachB_iff.2 ((hR c).2 hr)] at h3
      cases h3
  · rintro ⟨h1, h2⟩
    refine ⟨fun x hx => ?_, ?_⟩
    · obtain ⟨x0, x1⟩ := hlm x hx
      obtain ⟨c, rfl⟩ := Int.eq_ofNat_of_zero_le x0
      rw [hasI_cells (by omega)]
      exact h1 c (by omega) (hasI_iff.2 hx)
    · unfold holdB
      rw [List.all_eq_true]
      intro x hx
      obtain ⟨x0, x1⟩ := htm x hx
      obtain ⟨c, rfl⟩ := Int.eq_ofNat_of_zero_le x0
      have hc : c < n := by omega
      unfold reachL
      rw [hasI_cells hc]
      cases e : reachB n (nearN W) (brn (clrL xs line)) (fun k => hasI ss (k : Nat)) c
      · rfl
      · exact absurd ((hR c).1 (reachB_iff.1 e)) (h2 c hc (hasI_iff.2 hx))
theorem cnt_cells (C : Nat → Bool) : ∀ n : Nat, ((cellsN n C).length : Int) = cntN n C
  | 0 => rfl
  | n + 1 => by
    rw [cellsN_succ, List.length_append]
    show _ = sumN n _ + ite _ _ _
    have := cnt_cells C n
    unfold cntN at this
    rw [← this]
    cases C n <;> simp
theorem few_line {v : Int} (hf : FewT W n xs ss ts v) (ht : setB n ts = true) : ∃ line, setB n line = true ∧ lineB W n xs ss ts line = true ∧ (line.length : Int) = v := by
  obtain ⟨⟨C, hC, hv⟩, -⟩ := hf
  have hs := setB_cells n C
  refine ⟨cellsN n C, hs, (lineB_iff hs ht).2 ⟨fun c hc h => hC.free c hc (by rw [hasI_cells hc] at h; exact h), fun c hc hct hr => hC.hold c hc hct (hr.congr (fun d hd => by rw [hasI_cells hd]))⟩, by rw [cnt_cells]; exact hv⟩
theorem lineB_free (hb : lineB W n xs ss ts line = true) : ∀ c : Nat, c < n → hasI line c = true → freeN xs ss ts c = true := by
  intro c hc h
  unfold lineB at hb
  rw [Bool.and_eq_true, List.all_eq_true] at hb
  have := hb.1 _ (hasI_iff.1 h)
  rw [hasI_cells hc] at this
  exact this
theorem extL_all : ∀ (k : Nat) (l begun : List Int) (f : Nat), l.length = k → l.Pairwise (· < ·) → (∀ x ∈ l, (f : Int) ≤ x ∧ x < n ∧ freeN xs ss ts x.toNat = true) → lineB W n xs ss ts (begun ++ l) = true → (extL W n xs ss ts k begun f).isSome = true
  | 0, l, begun, f, hl, _, _, hb => by
    obtain rfl := List.eq_nil_of_length_eq_zero hl
    rw [List.append_nil] at hb
    rw [extL, if_pos hb]
    rfl
  | k + 1, l, begun, f, hl, hp, ha, hb => by
    cases l with
    | nil => cases hl
    | cons y l =>
      obtain ⟨h1, h2, h3⟩ := ha y (by simp)
      obtain ⟨c, rfl⟩ := Int.eq_ofNat_of_zero_le (show 0 ≤ y by omega)
      rw [Int.toNat_natCast] at h3
      obtain ⟨hp1, hp2⟩ := List.pairwise_cons.1 hp
      have ih := extL_all k l (begun ++ [(c : Int)]) (c + 1) (by simpa using hl) hp2 (fun x hx => ⟨by have := hp1 x hx; omega, (ha x (by simp [hx])).2.1, (ha x (by simp [hx])).2.2⟩) (by rw [List.append_assoc]; exact hb)
      rw [extL, List.findSome?_isSome_iff]
      exact ⟨c, List.mem_filter.2 ⟨List.mem_range.2 (by omega), by rw [h3]; simp; omega⟩, ih⟩
theorem extL_line : ∀ (k : Nat) (begun : List Int) (r : List Int), setB n begun = true → extL W n xs ss ts k begun (fromL begun) = some r → setB n r = true ∧ r.length = begun.length + k ∧ lineB W n xs ss ts r = true
  | 0, begun, r, hs, h => by
    rw [extL] at h
    split at h
    · injection h with h
      subst h
      exact ⟨hs, rfl, by assumption⟩
    · cases h
  | k + 1, begun, r, hs, h => by
    rw [extL] at h
    obtain ⟨x, hx, h2⟩ := List.exists_of_findSome?_eq_some h
    rw [List.mem_filter, List.mem_range, Bool.and_eq_true, decide_eq_true_eq] at hx
    have h3 := setB_snoc hs hx.1 hx.2.1
    rw [← fromL_snoc (begun := begun) (x := x)] at h2
    obtain ⟨h4, h5, h6⟩ := extL_line k _ r h3 h2
    exact ⟨h4, by rw [h5, List.length_append, List.length_singleton]; omega, h6⟩
theorem few_ext {k : Nat} (hf : FewT W n xs ss ts k) (ht : setB n ts = true) : (extL W n xs ss ts k [] 0).isSome = true := by
  obtain ⟨line, h1, h2, h3⟩ := few_line hf ht
  obtain ⟨h4, h5⟩ := setB_iff.1 h1
  refine extL_all k line [] 0 (by omega) h4 (fun x hx => ?_) h2
  obtain ⟨x0, x1⟩ := h5 x hx
  obtain ⟨c, rfl⟩ := Int.eq_ofNat_of_zero_le x0
  exact ⟨by omega, by omega, by rw [Int.toNat_natCast]; exact lineB_free h2 c (by omega) (hasI_iff.2 hx)⟩
end
end Go.Proofs.YtojfbcgfeojdfaaGreat

/-
  The reference's BestLine.
-/
namespace Go.Proofs.YtojfbcgfeojdfaaGreat
set_option linter.unusedSimpArgs false
set_option linter.unusedVariables false
open Go.RowKit

noncomputable def bestR (W H : Int) (xs ss ts : List Int) : LB := if caseB W H xs xs.length ss ts && !openB W.toNat xs.length xs ss ts && decide (fewV W.toNat xs.length xs ss ts ≤ 3) then ⟨(extL W.toNat xs.length xs ss ts (fewV W.toNat xs.length xs ss ts).toNat [] 0).getD [], true⟩ else ⟨[], false⟩
theorem best_case {W H : Int} {xs ss ts : List Int} (h : caseB W H xs xs.length ss ts = true) : ∃ Wn Hn : Nat, W = Wn ∧ H = Hn ∧ 0 < xs.length ∧ xs.length ≤ 25 ∧ (1 ≤ Wn ∧ Wn ≤ 5) ∧ (∀ x ∈ xs, 0 ≤ x) ∧ setB xs.length ss = true ∧ setB xs.length ts = true ∧ ∀ x ∈ ss, hasI ts x = false := by
  obtain ⟨hg, hs, ht, hd⟩ := caseB_true h
  obtain ⟨Wn, Hn, rfl, rfl, p1, p2, p3, p4, hlen, h25, hall⟩ := goodB_true hg
  exact ⟨Wn, Hn, rfl, rfl, by rw [hlen]; exact Nat.mul_pos p1 p3, h25, ⟨p1, p2⟩, fun x hx => (hall x hx).1, hs, ht, hd⟩

def GRes (w : World) (r : LB) (e : Ending) (w' : World) : Prop := ∃ g m c, e = .returned (.tuple #[.slice (some ⟨g, 0, none⟩) m c, .bool r.ok]) ∧ Mem w.heap.size w w' [intE (some ⟨g, 0, none⟩) m c r.l]
theorem GRes.l {w w' : World} {r : LB} {e : Ending} (h : GRes w r e w') : LRes w r e w' := by
  obtain ⟨g, m, c, h1, h2⟩ := h
  exact ⟨_, m, c, h1, h2⟩
set_option maxRecDepth 100000 in
set_option maxHeartbeats 30000000 in
theorem specBestG_any (W H : Int) (a : Option Addr) (n c : Nat) (xs : List Int) (a1 : Option Addr) (n1 c1 : Nat) (ss : List Int) (a2 : Option Addr) (n2 c2 : Nat) (ts : List Int) (w : World) (h : Ints w a n c xs) (h1 : Ints w a1 n1 c1 ss) (h2 : Ints w a2 n2 c2 ts) :
    Calls Tryz.prog 114 #[.agg #[.int .i64 W, .int .i64 H, .slice a n c], .slice a1 n1 c1, .slice a2 n2 c2] w ((GRes w (bestR W H xs ss ts))) := by
  have hM := Mem.start w
  have HL := Lib.hid h.len
  cases hc : caseB W H xs n ss ts
  · have HF := Lib.hid (show bestR W H xs ss ts = ⟨[], false⟩ by rw [bestR, HL.out, hc]; rfl)
    have HCC := Lib.hid hc; clear hc
    go_enter Tryz.func114, Tryz.ntmps114
    go_wp2_with fail
    apply Mem.atA
    · exact memA
    clear hM
    intro wst hM
    (try simp only [World.size_alloc, World.size_setCell, World.heap_drewN, heapDrew, Nat.add_assoc, Nat.reduceAdd, sA, List.cons_append, List.nil_append] at hM)
    (first | refine (l9Asked_any W H a n c xs a1 n1 c1 ss a2 n2 c2 ts _ (h.ext hM.below) (h1.ext hM.below) (h2.ext hM.below)).mono ?_)
    rw [HCC.out]
    rintro e wc1 ⟨rfl, hb⟩
    replace hM := hM.ext hb
    clear hb
    go_wp2
    go_ret2
    refine ⟨_, 0, 0, by rw [HF.out]; rfl, ?_⟩
    rw [HF.out]
    exact ((hM.alloc #[] 3).toInts (xs := []) .here rfl (by simp) (by simp)).first
  obtain ⟨Wn, Hn, rfl, rfl, hnp, hn25, hW, hxs, hs, ht, hd⟩ := best_case (by rw [HL.out]; exact hc)
  rw [HL.out] at hnp hn25 hs ht
  have HXS := Lib.hid hxs; have HD := Lib.hid hd; have HT := Lib.hid ht
  have HCC := Lib.hid hc
  clear hc hxs hd ht
  cases ho : openB Wn n xs ss ts
  rotate_left
  · have HF := Lib.hid (show bestR Wn Hn xs ss ts = ⟨[], false⟩ by rw [bestR, HL.out, HCC.out, Int.toNat_natCast, ho]; rfl)
    have HO := Lib.hid ho; clear ho
    go_enter Tryz.func114, Tryz.ntmps114
    go_wp2_with fail
    apply Mem.atA
    · exact memA
    clear hM
    intro wst hM
    (try simp only [World.size_alloc, World.size_setCell, World.heap_drewN, heapDrew, Nat.add_assoc, Nat.reduceAdd, sA, List.cons_append, List.nil_append] at hM)
    (first | refine (l9Asked_any Wn Hn a n c xs a1 n1 c1 ss a2 n2 c2 ts _ (h.ext hM.below) (h1.ext hM.below) (h2.ext hM.below)).mono ?_)
    rw [HCC.out]
    rintro e wc2 ⟨rfl, hb⟩
    replace hM := hM.ext hb
    clear hb
    obtain ⟨k0, f0, l0⟩ := hM.row .here
    go_wp2_with fail
    clear k0 f0 l0
    apply Mem.atA
    · exact memA
    clear hM
    intro wst hM
    (try simp only [World.size_alloc, World.size_setCell, World.heap_drewN, heapDrew, Nat.add_assoc, Nat.reduceAdd, sA, List.cons_append, List.nil_append] at hM)
    (first | refine (l9Open_any Wn Hn a n c xs a1 n1 c1 ss a2 n2 c2 ts _ (h.ext hM.below) (h1.ext hM.below) (h2.ext hM.below) hn25 hW hs HXS.out).mono ?_)
    rw [HO.out]
    rintro e wc3 ⟨rfl, hb⟩
    replace hM := hM.ext hb
    clear hb
    go_wp2
    go_ret2
    refine ⟨_, 0, 0, by rw [HF.out]; rfl, ?_⟩
    rw [HF.out]
    exact ((hM.alloc #[] 3).toInts (xs := []) .here rfl (by simp) (by simp)).first
  have HO := Lib.hid ho; clear ho
  go_enter Tryz.func114, Tryz.ntmps114
  go_wp2_with fail
  apply Mem.atA
  · exact memA
  clear hM
  intro wst hM
  (try simp only [World.size_alloc, World.size_setCell, World.heap_drewN, heapDrew, Nat.add_assoc, Nat.reduceAdd, sA, List.cons_append, List.nil_append] at hM)
  (first | refine (l9Asked_any Wn Hn a n c xs a1 n1 c1 ss a2 n2 c2 ts _ (h.ext hM.below) (h1.ext hM.below) (h2.ext hM.below)).mono ?_)
  rw [HCC.out]
  rintro e wc4 ⟨rfl, hb⟩
  replace hM := hM.ext hb
  clear hb
  obtain ⟨k0, f0, l0⟩ := hM.row .here
  go_wp2_with fail
  clear k0 f0 l0
  apply Mem.atA
  · exact memA
  clear hM
  intro wst hM
  (try simp only [World.size_alloc, World.size_setCell, World.heap_drewN, heapDrew, Nat.add_assoc, Nat.reduceAdd, sA, List.cons_append, List.nil_append] at hM)
  (first | refine (l9Open_any Wn Hn a n c xs a1 n1 c1 ss a2 n2 c2 ts _ (h.ext hM.below) (h1.ext hM.below) (h2.ext hM.below) hn25 hW hs HXS.out).mono ?_)
  rw [HO.out]
  rintro e wc5 ⟨rfl, hb⟩
  replace hM := hM.ext hb
  clear hb
  obtain ⟨k0, f0, l0⟩ := hM.row .here
  go_wp2_with fail
  clear k0 f0 l0
  apply Mem.atA hM
  clear hM
  intro wst hM
  refine (l9Ways_any Wn Hn a n c xs a1 n1 c1 ss a2 n2 c2 ts _ (h.ext hM.below) (h1.ext hM.below) (h2.ext hM.below) hn25 hW HXS.out HD.out HO.out).mono ?_
  rintro e w3 ⟨k, hfew, hk60, rfl, hb⟩
  replace hM := hM.ext hb
  clear hb
  have hv := fewV_of hfew
  have hex := few_ext hfew HT.out
  have HF := Lib.hid (show bestR Wn Hn xs ss ts = if k ≤ 3 then ⟨(extL Wn n xs ss ts k [] 0).getD [], true⟩ else ⟨[], false⟩ by
    rw [bestR, HL.out, HCC.out, Int.toNat_natCast, HO.out, hv]
    by_cases h3 : k ≤ 3
    · rw [if_pos (by simp; omega), if_pos h3, Int.toNat_natCast]
    · rw [if_neg (by simp; omega), if_neg h3])
  clear hv hfew
  by_cases h3 : k ≤ 3
  rotate_left
  · have HF2 := Lib.hid (show bestR Wn Hn xs ss ts = ⟨[], false⟩ by rw [HF.out, if_neg h3])
    go_wp2
    go_ret2
    refine ⟨_, 0, 0, by rw [HF2.out]; rfl, ?_⟩
    rw [HF2.out]
    exact ((hM.alloc #[] 3).toInts (xs := []) .here rfl (by simp) (by simp)).first
  obtain ⟨r, hr⟩ := Option.isSome_iff_exists.1 hex
  have HF2 := Lib.hid (show bestR Wn Hn xs ss ts = ⟨r, true⟩ by rw [HF.out, if_pos h3, hr]; rfl)
  have HR := Lib.hid hr
  clear hex hr HF
  obtain ⟨k0, f0, l0⟩ := hM.row .here
  go_wp2_with fail
  clear k0 f0 l0
  apply Mem.atA (hM.alloc #[] 3)
  clear hM
  intro wst2 hM
  replace hM := hM.toInts (xs := []) .here rfl (by simp) (by simp)
  refine (l9First_any Wn Hn a n c xs a1 n1 c1 ss a2 n2 c2 ts w h h1 h2 hnp hn25 hW hs HXS.out k _ _ _ 0 0 [] k _ (by omega) (by omega) (setB_iff.2 ⟨List.Pairwise.nil, by simp⟩) hM .here).mono ?_
  rw [show fromL [] = 0 from rfl, HR.out]
  rintro e w4 ⟨g4, m4, c4, out, rfl, hout, hm⟩
  obtain rfl : out = r := hout r rfl
  clear hM hout
  have hM := hm
  clear hm
  go_wp2
  go_ret2
  refine ⟨g4, m4, c4, by rw [HF2.out]; rfl, ?_⟩
  rw [HF2.out]
  exact hM.first
end Go.Proofs.YtojfbcgfeojdfaaGreat
