/- Lemmas. -/
import Derived.Test.YtkohfegajcmdbaaLClear
namespace Go.Proofs.Ytkohfegajcmdbaa
set_option linter.unusedSimpArgs false
set_option linter.unusedVariables false
open Go.RowKit

set_option maxRecDepth 100000 in
set_option maxHeartbeats 4000000 in
theorem cleared_any (Wn Hn : Nat) (a : Option Addr) (n c : Nat) (xs : List Int) (a' : Option Addr) (n' c' : Nat) (cells : List Int) (w : World) (h : Ints w a n c xs) (h' : Ints w a' n' c' cells) (hnp : 0 < n) (hn25 : n ≤ 25) (hs : setB n cells = true) :
    Calls Try.prog 78 #[.agg #[.int .i64 Wn, .int .i64 Hn, .slice a n c], .slice a' n' c'] w fun e w' => ∃ a2 c2, e = .returned (.agg #[.int .i64 Wn, .int .i64 Hn, .slice a2 n c2]) ∧ Own w.heap.size w' a2 n c2 (clrL xs cells) ∧ Below w.heap.size w w' := by
  have hn := h.cap
  have hc := h.room
  have HL := Lib.hid h.len
  have hn' := h'.cap
  have hc' := h'.room
  have HL' := Lib.hid h'.len
  have HAF := Lib.hid (fun k (hk : k < cells.length) => set_fact hs hk)
  have HT := Lib.hid (setB_true hs).1
  clear hs
  go_enter Try.func78, Try.ntmps78
  go_wp2_with fail
  have R0 : Row ((w.alloc (.cells #[.int .i64 Wn, .int .i64 Hn, .slice a n c] 26)).alloc (.cells #[.int .i64 0, .int .i64 0, .slice none 0 0] 26)) w.heap.size _ := (Row.new _ w.heap.size rfl _ _).alloc _
  have R1 : Row ((w.alloc (.cells #[.int .i64 Wn, .int .i64 Hn, .slice a n c] 26)).alloc (.cells #[.int .i64 0, .int .i64 0, .slice none 0 0] 26)) (w.heap.size + 1) _ := Row.new _ (w.heap.size + 1) (by simp) _ _
  have hb4 : Below w.heap.size w ((w.alloc (.cells #[.int .i64 Wn, .int .i64 Hn, .slice a n c] 26)).alloc (.cells #[.int .i64 0, .int .i64 0, .slice none 0 0] 26)) := by (repeat' (first | exact Below.refl _ _ | with_reducible refine Below.setCell ?_ (by first | omega | (simp; done) | (simp; omega)) _ | with_reducible refine Below.alloc ?_ (by first | omega | (simp; done) | (simp; omega)) _ | with_reducible refine Below.drew ?_ | with_reducible refine bdrewN ?_ _))
  generalize ((w.alloc (.cells #[.int .i64 Wn, .int .i64 Hn, .slice a n c] 26)).alloc (.cells #[.int .i64 0, .int .i64 0, .slice none 0 0] 26)) = w3 at *
  have l3 : w.heap.size + 1 < w3.heap.size := R1.lt
  refine (copiedTerrain_any _ _ a n c xs _ (h.below hb4)).mono ?_
  rintro e w4 ⟨a2, c2, rfl, hO, hb5⟩
  have hF := (Far.refl w3).ext hb5
  replace R0 := R0.ext hb5
  replace R1 := R1.ext hb5
  have hs5 : w3.heap.size ≤ w4.heap.size := hb5.size
  have HTill := Lib.hid hO.till
  clear hb5
  obtain ⟨g, rfl, hgB, hgs, _, _⟩ := hO.head hnp
  have hgb : g ≠ w4.heap.size := by omega
  have k0 := R0.cell
  have m0 := R0.lt
  go_wp2
  go_loopw [12] (fun i wr => ∃ k : Nat, k ≤ n' ∧ i = .int .i64 k ∧ Row wr (w.heap.size + 1) #[.int .i64 0, .int .i64 0, .slice none 0 0] ∧
      Row wr w4.heap.size #[.int .i64 Wn, .int .i64 Hn, .slice (some ⟨g, 0, none⟩) n c2] ∧ Own w3.heap.size wr (some ⟨g, 0, none⟩) n c2 (clrL xs (cells.take k)) ∧ Far w3 wr)
    (fun i _ => n' - (intOf i).toNat)
  case atStart => exact ⟨0, Nat.zero_le _, rfl, R1.alloc _, Row.new _ _ rfl _ _, by simpa [clrL] using hO.alloc _, hF.alloc _⟩
  case round =>
    obtain ⟨k, hk, rfl, hR1, hR2, hOk, hFr⟩ := hrel
    clear k0
    by_cases hlt : k < n'
    · obtain ⟨b, off, rfl, hbb, hcell⟩ := ((h'.below hb4).ext hFr.below).at' _ hlt
      have hck := hcell k hlt
      clear hcell
      obtain ⟨m, hm, hmn⟩ := HAF.out k (by rw [HL'.out]; exact hlt)
      rw [hm] at hck
      have hdk := hOk.cellAt hmn
      have hfk := hOk.freeAt m
      have HM := Lib.hid hm; clear hm
      have q2 := hR2.cell
      go_wp2
      go_roundw
      case rel =>
        have hO2 := hOk.set m 0 (by unfold I64; omega)
        have e1 := clrL_succ (xs := xs) (cells := cells) (k := k) (by rw [HL'.out]; exact hlt)
        rw [HM.out, Int.toNat_natCast] at e1
        rw [← e1] at hO2
        exact ⟨k + 1, by omega, by go_num, hR1.far _ _ (by first | omega | (simp; done) | (simp; omega)), hR2.far _ _ hgb, hO2, hFr.set _ _ (by first | omega | (simp; done) | (simp; omega))⟩
      case measure => simp [intOf]; omega
    · obtain rfl : k = n' := by omega
      rw [List.take_of_length_le (by rw [HL'.out]; exact Nat.le_refl _)] at hOk
      obtain ⟨k2, f2, m2⟩ := hR2
      obtain ⟨k1, f1, m1⟩ := hR1
      have hbf := hFr.below
      have hs0 := hb4.size
      have hsf := hbf.size
      go_wp2
      refine bodyPost_ret (v := .agg #[.int .i64 Wn, .int .i64 Hn, .slice (some ⟨g, 0, none⟩) n c2]) (by simp [results, Try.results78, go_sem, k1]) rfl ⟨_, c2, rfl, ?_, ?_⟩
      · ((repeat with_reducible refine Own.setCell_far ?_ (hOk.apart (by first | omega | (simp; done) | (simp; omega))) _); exact hOk.mono (by first | omega | (simp; done) | (simp; omega)))
      · (repeat' (first | exact Below.refl _ _ | with_reducible refine Below.setCell ?_ (by first | omega | (simp; done) | (simp; omega)) _ | with_reducible refine Below.alloc ?_ (by first | omega | (simp; done) | (simp; omega)) _ | with_reducible refine Below.drew ?_ | with_reducible refine bdrewN ?_ _ | with_reducible refine Below.trans ?_ (Below.mono hb4 (by first | omega | (simp; done) | (simp; omega))) | with_reducible refine Below.trans ?_ (Below.mono hbf (by first | omega | (simp; done) | (simp; omega)))))

set_option maxRecDepth 100000 in
set_option maxHeartbeats 4000000 in
theorem implClear_any (W H : Int) (a : Option Addr) (n c : Nat) (xs : List Int) (a' : Option Addr) (n' c' : Nat) (cells : List Int) (w : World) (h : Ints w a n c xs) (h' : Ints w a' n' c' cells) :
    Calls Try.prog 22 #[.agg #[.int .i64 W, .int .i64 H, .slice a n c], .slice a' n' c'] w (GridRes w (clrR W H xs cells).g.W (clrR W H xs cells).g.H (clrR W H xs cells).g.zs (clrR W H xs cells).ok) := by
  have hn := h.cap
  have hc := h.room
  have HL := Lib.hid h.len
  cases hg1 : goodB 20 W H xs
  · have HF := Lib.hid (show clrR W H xs cells = ⟨⟨0, 0, []⟩, false⟩ by rw [clrR, hg1]; rfl)
    go_enter Try.func22, Try.ntmps22
    go_wp2_with (go_at_call 62; refine (IsTerrain_any W H a n c xs _ (by exact (h.alloc _).alloc _)).mono ?_; rintro e w' ⟨rfl, hb⟩; rw [hg1]; obtain ⟨k1, f1, l1⟩ := (Row.new _ (w.heap.size + 1) (by simp) _ _).below hb)
    rw [HF.out]
    refine bodyPost_ret (v := .tuple #[.agg #[.int .i64 0, .int .i64 0, .slice none 0 0], .bool false]) (by simp [results, Try.results22, go_sem, k1]) rfl ⟨none, 0, 0, rfl, own_nil _ _, ?_⟩
    (repeat' (first | exact Below.refl _ _ | with_reducible refine Below.setCell ?_ (by first | omega | (simp; done) | (simp; omega)) _ | with_reducible refine Below.alloc ?_ (by first | omega | (simp; done) | (simp; omega)) _ | with_reducible refine Below.drew ?_ | with_reducible refine bdrewN ?_ _ | with_reducible refine Below.trans ?_ (Below.mono hb (by first | omega | (simp; done) | (simp; omega)))))
  obtain ⟨Wn, Hn, rfl, rfl, a1, a2, b1, b2, hlen, h25, hall⟩ := goodB_true hg1
  have hn25 : n ≤ 25 := by rw [← HL.out]; exact h25
  have hnp : 0 < n := by rw [← HL.out, hlen]; exact Nat.mul_pos a1 b1
  clear h25 hlen hall
  cases hs : setB n cells
  · have HF := Lib.hid (show clrR Wn Hn xs cells = ⟨⟨0, 0, []⟩, false⟩ by rw [clrR, HL.out, hs, Bool.and_false]; rfl)
    go_enter Try.func22, Try.ntmps22
    go_wp2_with (first | (go_at_call 62; refine (IsTerrain_any _ _ a n c xs _ (by exact (h.alloc _).alloc _)).mono ?_; rintro e w' ⟨rfl, hb⟩; rw [hg1]; obtain ⟨k0, f0, l0⟩ := ((Row.new _ w.heap.size rfl _ _).alloc _).below hb; have R1 := (Row.new _ (w.heap.size + 1) (by simp) _ _).below hb) | skip; fail)
    have hb' : Below w.heap.size w w' := by (repeat' (first | exact Below.refl _ _ | with_reducible refine Below.setCell ?_ (by first | omega | (simp; done) | (simp; omega)) _ | with_reducible refine Below.alloc ?_ (by first | omega | (simp; done) | (simp; omega)) _ | with_reducible refine Below.drew ?_ | with_reducible refine bdrewN ?_ _ | with_reducible refine Below.trans ?_ (Below.mono hb (by first | omega | (simp; done) | (simp; omega)))))
    have l3 : w.heap.size + 1 < w'.heap.size := R1.lt
    refine (isSet_any _ _ a n c a' n' c' cells _ (h'.below hb') hn25).mono ?_
    rintro e w2 ⟨rfl, hb2⟩
    rw [hs]
    obtain ⟨k1, f1, m1⟩ := R1.ext hb2
    go_wp2
    rw [HF.out]
    refine bodyPost_ret (v := .tuple #[.agg #[.int .i64 0, .int .i64 0, .slice none 0 0], .bool false]) (by simp [results, Try.results22, go_sem, k1]) rfl ⟨none, 0, 0, rfl, own_nil _ _, ?_⟩
    (repeat' (first | exact Below.refl _ _ | with_reducible refine Below.setCell ?_ (by first | omega | (simp; done) | (simp; omega)) _ | with_reducible refine Below.alloc ?_ (by first | omega | (simp; done) | (simp; omega)) _ | with_reducible refine Below.drew ?_ | with_reducible refine bdrewN ?_ _ | with_reducible refine Below.trans ?_ (Below.mono hb' (by first | omega | (simp; done) | (simp; omega))) | with_reducible refine Below.trans ?_ (Below.mono hb2 (by first | omega | (simp; done) | (simp; omega)))))
  have HF := Lib.hid (show clrR Wn Hn xs cells = ⟨⟨Wn, Hn, clrL xs cells⟩, true⟩ by rw [clrR, HL.out, hs, hg1]; rfl)
  go_enter Try.func22, Try.ntmps22
  go_wp2_with (first | (go_at_call 62; refine (IsTerrain_any _ _ a n c xs _ (by exact (h.alloc _).alloc _)).mono ?_; rintro e w' ⟨rfl, hb⟩; rw [hg1]; obtain ⟨k0, f0, l0⟩ := ((Row.new _ w.heap.size rfl _ _).alloc _).below hb; have R0 : Row w' w.heap.size _ := ⟨k0, f0, l0⟩; have R1 := (Row.new _ (w.heap.size + 1) (by simp) _ _).below hb) | skip; fail)
  have hb' : Below w.heap.size w w' := by (repeat' (first | exact Below.refl _ _ | with_reducible refine Below.setCell ?_ (by first | omega | (simp; done) | (simp; omega)) _ | with_reducible refine Below.alloc ?_ (by first | omega | (simp; done) | (simp; omega)) _ | with_reducible refine Below.drew ?_ | with_reducible refine bdrewN ?_ _ | with_reducible refine Below.trans ?_ (Below.mono hb (by first | omega | (simp; done) | (simp; omega)))))
  have l3 : w.heap.size + 1 < w'.heap.size := R1.lt
  refine (isSet_any _ _ a n c a' n' c' cells _ (h'.below hb') hn25).mono ?_
  rintro e w2 ⟨rfl, hb2⟩
  rw [hs]
  have hs1 : w'.heap.size ≤ w2.heap.size := hb2.size
  have hb3 : Below w.heap.size w w2 := by (repeat' (first | exact Below.refl _ _ | with_reducible refine Below.setCell ?_ (by first | omega | (simp; done) | (simp; omega)) _ | with_reducible refine Below.alloc ?_ (by first | omega | (simp; done) | (simp; omega)) _ | with_reducible refine Below.drew ?_ | with_reducible refine bdrewN ?_ _ | with_reducible refine Below.trans ?_ (Below.mono hb' (by first | omega | (simp; done) | (simp; omega))) | with_reducible refine Below.trans ?_ (Below.mono hb2 (by first | omega | (simp; done) | (simp; omega)))))
  replace R1 := R1.ext hb2
  replace R0 := R0.ext hb2
  clear k0 f0 l0
  have k0 := R0.cell
  have l0 := R0.lt
  go_wp2_with fail
  refine (cleared_any Wn Hn a n c xs a' n' c' cells _ (h.below hb3) (h'.below hb3) hnp hn25 hs).mono ?_
  rintro e w4 ⟨a3, c3, rfl, hO, hb4⟩
  obtain ⟨k1, f1, m1⟩ := R1.ext hb4
  clear k0
  go_wp2
  rw [HF.out]
  refine bodyPost_ret (v := .tuple #[.agg #[.int .i64 Wn, .int .i64 Hn, .slice a3 n c3], .bool true]) (by simp [results, Try.results22, go_sem, k1]) rfl ⟨a3, n, c3, rfl, ?_, ?_⟩
  · ((repeat with_reducible refine Own.setCell_far ?_ (hO.apart (by first | omega | (simp; done) | (simp; omega))) _); exact hO.mono (by first | omega | (simp; done) | (simp; omega)))
  · have hs4 := hb4.size
    (repeat' (first | exact Below.refl _ _ | with_reducible refine Below.setCell ?_ (by first | omega | (simp; done) | (simp; omega)) _ | with_reducible refine Below.alloc ?_ (by first | omega | (simp; done) | (simp; omega)) _ | with_reducible refine Below.drew ?_ | with_reducible refine bdrewN ?_ _ | with_reducible refine Below.trans ?_ (Below.mono hb3 (by first | omega | (simp; done) | (simp; omega))) | with_reducible refine Below.trans ?_ (Below.mono hb4 (by first | omega | (simp; done) | (simp; omega)))))
end Go.Proofs.Ytkohfegajcmdbaa
