/- Lemmas. -/
import Derived.Test.YtbgegmignhghnaaBClear
namespace Go.Proofs.Ytbgegmignhghnaa
set_option linter.unusedSimpArgs false
set_option linter.unusedVariables false
open Go.RowKit

set_option maxRecDepth 100000 in
set_option maxHeartbeats 4000000 in
theorem cleared_any (Wn Hn : Nat) (a : Option Addr) (n c : Nat) (xs : List Int) (a' : Option Addr) (n' c' : Nat) (cells : List Int) (w : World) (h : Ints w a n c xs) (h' : Ints w a' n' c' cells) (hnp : 0 < n) (hn25 : n ≤ 25) (hs : setB n cells = true) :
    Calls Try.prog 73 #[.agg #[.int .i64 Wn, .int .i64 Hn, .slice a n c], .slice a' n' c'] w fun e w' => ∃ a2 c2, e = .returned (.agg #[.int .i64 Wn, .int .i64 Hn, .slice a2 n c2]) ∧ Own w.heap.size w' a2 n c2 (clrL xs cells) ∧ Below w.heap.size w w' := by
  have hn := h.cap
  have hc := h.room
  have HL := Lib.hid h.len
  have hn' := h'.cap
  have hc' := h'.room
  have HL' := Lib.hid h'.len
  have HAF := Lib.hid (fun k (hk : k < cells.length) => set_fact hs hk)
  have HT := Lib.hid (setB_true hs).1
  clear hs
  go_enter Try.func73, Try.ntmps73
  go_wp2_with fail
  have R0 : Row ((w.alloc (.cells #[.int .i64 Wn, .int .i64 Hn, .slice a n c] 26)).alloc (.cells #[.int .i64 0, .int .i64 0, .slice none 0 0] 26)) w.heap.size _ := (Row.new _ w.heap.size rfl _ _).alloc _
  have R1 : Row ((w.alloc (.cells #[.int .i64 Wn, .int .i64 Hn, .slice a n c] 26)).alloc (.cells #[.int .i64 0, .int .i64 0, .slice none 0 0] 26)) (w.heap.size + 1) _ := Row.new _ (w.heap.size + 1) (by simp) _ _
  have hb4 : Below w.heap.size w ((w.alloc (.cells #[.int .i64 Wn, .int .i64 Hn, .slice a n c] 26)).alloc (.cells #[.int .i64 0, .int .i64 0, .slice none 0 0] 26)) := by (repeat' (first | exact Below.refl _ _ | with_reducible refine Below.setCell ?_ (by first | omega | (simp; done) | (simp; omega)) _ | with_reducible refine Below.alloc ?_ (by first | omega | (simp; done) | (simp; omega)) _ | with_reducible refine Below.drew ?_ | with_reducible refine bdrewN ?_ _))
  generalize ((w.alloc (.cells #[.int .i64 Wn, .int .i64 Hn, .slice a n c] 26)).alloc (.cells #[.int .i64 0, .int .i64 0, .slice none 0 0] 26)) = w3 at *
  have l3 : w.heap.size + 1 < w3.heap.size := R1.lt
  refine (copiedTerrain_any _ _ a n c xs _ (h.below hb4)).mono ?_
  rintro e w4 ⟨a2, c2, rfl, hO, hb5⟩
  have hF := (Far.refl w3).ext hb5
  replace R0 := R0.ext hb5
  replace R1 := R1.ext hb5
  have hs5 : w3.heap.size ≤ w4.heap.size := hb5.size
  have HTill := Lib.hid hO.till
  clear hb5
  obtain ⟨g, rfl, hgB, hgs, _, _⟩ := hO.head hnp
  have hgb : g ≠ w4.heap.size := by omega
  have k0 := R0.cell
  have m0 := R0.lt
  go_wp2
  go_loopw [12] (fun i wr => ∃ k : Nat, k ≤ n' ∧ i = .int .i64 k ∧ Row wr (w.heap.size + 1) #[.int .i64 0, .int .i64 0, .slice none 0 0] ∧
      Row wr w4.heap.size #[.int .i64 Wn, .int .i64 Hn, .slice (some ⟨g, 0, none⟩) n c2] ∧ Own w3.heap.size wr (some ⟨g, 0, none⟩) n c2 (clrL xs (cells.take k)) ∧ Far w3 wr)
    (fun i _ => n' - (intOf i).toNat)
  case atStart => exact ⟨0, Nat.zero_le _, rfl, R1.alloc _, Row.new _ _ rfl _ _, by simpa [clrL] using hO.alloc _, hF.alloc _⟩
  case round =>
    obtain ⟨k, hk, rfl, hR1, hR2, hOk, hFr⟩ := hrel
    clear k0
    by_cases hlt : k < n'
    · obtain ⟨b, off, rfl, hbb, hcell⟩ := ((h'.below hb4).ext hFr.below).at' _ hlt
      have hck := hcell k hlt
      clear hcell
      obtain ⟨m, hm, hmn⟩ := HAF.out k (by rw [HL'.out]; exact hlt)
      rw [hm] at hck
      have hdk := hOk.cellAt hmn
      have hfk := hOk.freeAt m
      have HM := Lib.hid hm; clear hm
      have q2 := hR2.cell
      go_wp2
      go_roundw
      case rel =>
        have hO2 := hOk.set m 0 (by unfold I64; omega)
        have e1 := clrL_succ (xs := xs) (cells := cells) (k := k) (by rw [HL'.out]; exact hlt)
        rw [HM.out, Int.toNat_natCast] at e1
        rw [← e1] at hO2
        exact ⟨k + 1, by omega, by go_num, hR1.far _ _ (by first | omega | (simp; done) | (simp; omega)), hR2.far _ _ hgb, hO2, hFr.set _ _ (by first | omega | (simp; done) | (simp; omega))⟩
      case measure => simp [intOf]; omega
    · obtain rfl : k = n' := by omega
      rw [List.take_of_length_le (by rw [HL'.out]; exact Nat.le_refl _)] at hOk
      obtain ⟨k2, f2, m2⟩ := hR2
      obtain ⟨k1, f1, m1⟩ := hR1
      have hbf := hFr.below
      have hs0 := hb4.size
      have hsf := hbf.size
      go_wp2
      refine bodyPost_ret (v := .agg #[.int .i64 Wn, .int .i64 Hn, .slice (some ⟨g, 0, none⟩) n c2]) (by simp [results, Try.results73, go_sem, k1]) rfl ⟨_, c2, rfl, ?_, ?_⟩
      · ((repeat with_reducible refine Own.setCell_far ?_ (hOk.apart (by first | omega | (simp; done) | (simp; omega))) _); exact hOk.mono (by first | omega | (simp; done) | (simp; omega)))
      · (repeat' (first | exact Below.refl _ _ | with_reducible refine Below.setCell ?_ (by first | omega | (simp; done) | (simp; omega)) _ | with_reducible refine Below.alloc ?_ (by first | omega | (simp; done) | (simp; omega)) _ | with_reducible refine Below.drew ?_ | with_reducible refine bdrewN ?_ _ | with_reducible refine Below.trans ?_ (Below.mono hb4 (by first | omega | (simp; done) | (simp; omega))) | with_reducible refine Below.trans ?_ (Below.mono hbf (by first | omega | (simp; done) | (simp; omega)))))

end Go.Proofs.Ytbgegmignhghnaa
