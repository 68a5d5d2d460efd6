import Derived.Test.YtdhgkfmehegeoaaBlow3
namespace Go.Proofs.Ytdhgkfmehegeoaa
set_option linter.unusedSimpArgs false
set_option linter.unusedVariables false
open Go.RowKit

set_option maxRecDepth 100000 in
set_option maxHeartbeats 4000000 in
theorem blow_any (Wn Hn : Nat) (a : Option Addr) (n c : Nat) (xs : List Int) (e s q : Int) (w : World) (h : Ints w a n c xs) (hW : 1 ≤ Wn) (hW5 : Wn ≤ 5) (hH : 1 ≤ Hn) (hH5 : Hn ≤ 5) (hWH : n = Wn * Hn) (hx : ∀ x ∈ xs, 0 ≤ x ∧ x ≤ 10000)
    (he : -1 ≤ e ∧ e ≤ 1) (hs : -1 ≤ s ∧ s ≤ 1) (hq : 1 ≤ q ∧ q ≤ 10) :
    Calls Try.prog 67 #[.agg #[.int .i64 Wn, .int .i64 Hn, .slice a n c], .agg #[.int .i64 e, .int .i64 s, .int .i64 q]] w fun o w' => ∃ a2 c2, o = .returned (.tuple #[.agg #[.int .i64 Wn, .int .i64 Hn, .slice a2 n c2], .int .i64 (leftK Wn Hn e s q xs n)]) ∧ Own w.heap.size w' a2 n c2 (blowK Wn Hn e s q xs n) ∧ Below w.heap.size w w' := by
  have hn := h.cap
  have hc := h.room
  have HL := Lib.hid h.len
  have hnp : 0 < n := by rw [hWH]; exact Nat.mul_pos hW hH
  have hn25 : n ≤ 25 := by rw [hWH]; exact Nat.mul_le_mul hW5 hH5
  have HWH := Lib.hid hWH
  have HX := Lib.hid hx
  have HBB := Lib.hid (fun k (hk : k ≤ n) => blowK_bound (W := Wn) (H := Hn) (e := e) (s := s) hq hx k (by rw [h.len]; exact hk))
  have HLB := Lib.hid (fun k (hk : k ≤ n) => leftK_bound (W := Wn) (H := Hn) (e := e) (s := s) hq hx k (by rw [h.len]; exact hk))
  have HTo := Lib.hid (fun k => toI_lt (W := Wn) (H := Hn) (e := e) (s := s) (k := k))
  obtain ⟨q0, q1⟩ := hq
  clear hWH hx
  go_enter Try.func67, Try.ntmps67
  go_wp2_with fail
  have R0 : Row (((w.alloc (.cells #[.int .i64 Wn, .int .i64 Hn, .slice a n c] 26)).alloc (.cells #[.int .i64 e, .int .i64 s, .int .i64 q] 37)).alloc (.cells #[.int .i64 0, .int .i64 0, .slice none 0 0] 26)) w.heap.size _ := ((Row.new _ w.heap.size rfl _ _).alloc _).alloc _
  have RW : Row (((w.alloc (.cells #[.int .i64 Wn, .int .i64 Hn, .slice a n c] 26)).alloc (.cells #[.int .i64 e, .int .i64 s, .int .i64 q] 37)).alloc (.cells #[.int .i64 0, .int .i64 0, .slice none 0 0] 26)) (w.heap.size + 1) _ := (Row.new _ (w.heap.size + 1) (by simp) _ _).alloc _
  have R1 : Row (((w.alloc (.cells #[.int .i64 Wn, .int .i64 Hn, .slice a n c] 26)).alloc (.cells #[.int .i64 e, .int .i64 s, .int .i64 q] 37)).alloc (.cells #[.int .i64 0, .int .i64 0, .slice none 0 0] 26)) (w.heap.size + 2) _ := Row.new _ (w.heap.size + 2) (by simp) _ _
  have hb' : Below w.heap.size w (((w.alloc (.cells #[.int .i64 Wn, .int .i64 Hn, .slice a n c] 26)).alloc (.cells #[.int .i64 e, .int .i64 s, .int .i64 q] 37)).alloc (.cells #[.int .i64 0, .int .i64 0, .slice none 0 0] 26)) := by (repeat' (first | exact Below.refl _ _ | with_reducible refine Below.setCell ?_ (by first | omega | (simp; done) | (simp; omega)) _ | with_reducible refine Below.alloc ?_ (by first | omega | (simp; done) | (simp; omega)) _ | with_reducible refine Below.drew ?_ | with_reducible refine bdrewN ?_ _))
  generalize (((w.alloc (.cells #[.int .i64 Wn, .int .i64 Hn, .slice a n c] 26)).alloc (.cells #[.int .i64 e, .int .i64 s, .int .i64 q] 37)).alloc (.cells #[.int .i64 0, .int .i64 0, .slice none 0 0] 26)) = w2 at *
  have l1 : w.heap.size + 2 < w2.heap.size := R1.lt
  refine (copiedSmoke_any _ _ a n c xs _ (h.below hb')).mono ?_
  rintro o w4 ⟨a2, c2, rfl, hO, hb5⟩
  have hF := (Far.refl w2).ext hb5
  replace R0 := R0.ext hb5
  replace RW := RW.ext hb5
  replace R1 := R1.ext hb5
  have hs5 : w2.heap.size ≤ w4.heap.size := hb5.size
  clear hb5
  obtain ⟨g, rfl, hgB, hgs, _, _⟩ := hO.head hnp
  have hgb : g ≠ w4.heap.size := by omega
  have k0 := R0.cell
  have m0 := R0.lt
  go_wp2
  go_loopw [7, 17] (fun t i wr => ∃ k : Nat, k ≤ n ∧ i = .int .i64 k ∧ t = .int .i64 (leftK Wn Hn e s q xs k) ∧ Row wr w.heap.size #[.int .i64 Wn, .int .i64 Hn, .slice a n c] ∧ Row wr (w.heap.size + 1) #[.int .i64 e, .int .i64 s, .int .i64 q] ∧ Row wr (w.heap.size + 2) #[.int .i64 0, .int .i64 0, .slice none 0 0] ∧
      Row wr w4.heap.size #[.int .i64 Wn, .int .i64 Hn, .slice (some ⟨g, 0, none⟩) n c2] ∧ Own w2.heap.size wr (some ⟨g, 0, none⟩) n c2 (blowK Wn Hn e s q xs k) ∧ Far w2 wr)
    (fun _ i _ => n - (intOf i).toNat)
  case atStart => exact ⟨0, Nat.zero_le _, rfl, rfl, R0.alloc _, RW.alloc _, R1.alloc _, Row.new _ _ rfl _ _, hO.alloc _, hF.alloc _⟩
  case round =>
    obtain ⟨k, hk, rfl, rfl, hR0, hRW, hR1, hR2, hOk, hFr⟩ := hrel
    clear k0 m0
    by_cases hlt : k < n
    · obtain ⟨b, off, rfl, hbb, hcell⟩ := ((h.below hb').ext hFr.below).at' _ hlt
      have hck := hcell k hlt
      clear hcell
      have hm := part_bound (q := q) ⟨q0, q1⟩ HX.out (k := k) (by rw [HL.out]; exact hlt)
      have hyb := getD_bound (by omega) (HBB.out k hk) k
      have hxk := HX.out _ (getD_mem (xs := xs) (k := k) (by rw [HL.out]; exact hlt))
      have hdk := hOk.cellAt hlt
      have hfk := hOk.freeAt k
      have htb := HLB.out k hk
      obtain ⟨x, ex⟩ : ∃ x, xs.getD k 0 = x := ⟨_, rfl⟩
      obtain ⟨y, ey⟩ : ∃ y, (blowK Wn Hn e s q xs k).getD k 0 = y := ⟨_, rfl⟩
      obtain ⟨m, em⟩ : ∃ m, partI q xs k = m := ⟨_, rfl⟩
      obtain ⟨t, et⟩ : ∃ t, leftK Wn Hn e s q xs k = t := ⟨_, rfl⟩
      have hxq : x * q / 10 = m := by rw [← em, ← ex]; rfl
      rw [ex] at hck hxk
      rw [ey] at hdk hyb
      rw [em] at hm
      rw [et] at htb
      rw [et]
      have EX := Lib.hid ex; clear ex
      have EY := Lib.hid ey; clear ey
      have EM := Lib.hid em; clear em
      have ET := Lib.hid et; clear et
      obtain ⟨x0, x1⟩ := hxk
      obtain ⟨y0, y1⟩ := hyb
      obtain ⟨m0, m1⟩ := hm
      obtain ⟨t0, t1⟩ := htb
      obtain ⟨v0, v1⟩ := mul_bound (a := 10000) (b := 10) x0 x1 (by omega : (0 : Int) ≤ q) q1
      have d0 := hR0.cell
      have dW := hRW.cell
      have d2 := hR2.cell
      have hkW : (g : Nat) ≠ w.heap.size := by omega
      have hkW1 : (g : Nat) ≠ w.heap.size + 1 := by omega
      have hys := set_bound (B := 10000 * (2 * k + 2)) (v := y - m) (fun y2 hy => by have := HBB.out k hk y2 hy; omega) (by omega) k
      have HYS := Lib.hid hys
      clear hys
      go_wp2_with fail
      refine (from_any Wn _ _ n c e s k _ hW hW5 hH hH5 (by omega) he hs).mono ?_
      rintro o w5 ⟨rfl, hb5⟩
      clear d0 dW d2 hck
      have hR0' := Row.ext (hR0.far ⟨g, k, none⟩ (.int .i64 (y - m)) (by show g ≠ _; omega)) hb5
      have hR1' := Row.ext (hR1.far ⟨g, k, none⟩ (.int .i64 (y - m)) (by show g ≠ _; omega)) hb5
      have hRW' := Row.ext (hRW.far ⟨g, k, none⟩ (.int .i64 (y - m)) (by show g ≠ _; omega)) hb5
      have hR2' := Row.ext (hR2.far ⟨g, k, none⟩ (.int .i64 (y - m)) (by show g ≠ _; omega)) hb5
      have hO2 := Own.ext (hOk.set k (y - m) (by unfold I64; omega)) hb5
      have hFr2 := Far.ext (hFr.set ⟨g, k, none⟩ (.int .i64 (y - m)) hgB) hb5
      clear hb5 hR0 hR1 hRW hR2 hOk hFr hdk hfk
      obtain ⟨tt, ett⟩ : ∃ tt, toI Wn Hn e s k = tt := ⟨_, rfl⟩
      rw [ett]
      have htl := HTo.out k
      rw [ett, ← HWH.out] at htl
      have ETT := Lib.hid ett; clear ett
      by_cases hpos : 0 ≤ tt
      · have htl2 := htl hpos
        obtain ⟨j, rfl⟩ : ∃ j : Nat, tt = (j : Int) := ⟨tt.toNat, by omega⟩
        have hjn : j < n := by omega
        have hdj := hO2.cellAt hjn
        have hfj := hO2.freeAt j
        have hyb2 := getD_bound (by omega) HYS.out j
        obtain ⟨y2, ey2⟩ : ∃ y2, ((blowK Wn Hn e s q xs k).set k (y - m)).getD j 0 = y2 := ⟨_, rfl⟩
        rw [ey2] at hdj hyb2
        have EY2 := Lib.hid ey2; clear ey2
        obtain ⟨z0, z1⟩ := hyb2
        have j0 : (0 : Int) ≤ (j : Int) := by omega
        have j1 : (j : Int) < (n : Int) := by omega
        have d2 := hR2'.cell
        clear hpos htl htl2
        go_wp2
        go_roundw
        case rel =>
          have hO3 := hO2.set j (y2 + m) (by unfold I64; omega)
          have e1 : ((blowK Wn Hn e s q xs k).set k (y - m)).set j (y2 + m) = blowK Wn Hn e s q xs (k + 1) := by
            simp only [blowK, ETT.out, EM.out, EY.out, Int.toNat_natCast, EY2.out, if_pos j0]
          rw [e1] at hO3
          refine ⟨k + 1, by omega, by go_num, ?_, hR0'.far _ _ (by show g ≠ _; omega), hRW'.far _ _ (by show g ≠ _; omega), hR1'.far _ _ (by show g ≠ _; omega), hR2'.far _ _ hgb, hO3, hFr2.set _ _ hgB⟩
          simp only [leftK, ETT.out, if_pos j0, ET.out]
        case measure => simp [intOf]; omega
      · go_wp2
        go_roundw
        case rel =>
          have e1 : (blowK Wn Hn e s q xs k).set k (y - m) = blowK Wn Hn e s q xs (k + 1) := by
            simp only [blowK, ETT.out, EM.out, EY.out, if_neg (show ¬ 0 ≤ tt by omega)]
          rw [e1] at hO2
          refine ⟨k + 1, by omega, by go_num, ?_, hR0', hRW', hR1', hR2', hO2, hFr2⟩
          simp only [leftK, ETT.out, if_neg (show ¬ 0 ≤ tt by omega), ET.out, EM.out]
        case measure => simp [intOf]; omega
    · obtain rfl : k = n := by omega
      obtain ⟨k2, f2, m2⟩ := hR2
      obtain ⟨k1, f1, m1⟩ := hR1
      have hbf := hFr.below
      have hs0 := hb'.size
      have hs1 := hbf.size
      go_wp2
      refine bodyPost_ret (v := .tuple #[.agg #[.int .i64 Wn, .int .i64 Hn, .slice (some ⟨g, 0, none⟩) k c2], .int .i64 (leftK Wn Hn e s q xs k)]) (by simp [results, Try.results67, go_sem, k1]) rfl ⟨_, c2, rfl, ?_, ?_⟩
      · ((repeat with_reducible refine Own.setCell_far ?_ (hOk.apart (by first | omega | (simp; done) | (simp; omega))) _); exact hOk.mono (by first | omega | (simp; done) | (simp; omega)))
      · (repeat' (first | exact Below.refl _ _ | with_reducible refine Below.setCell ?_ (by first | omega | (simp; done) | (simp; omega)) _ | with_reducible refine Below.alloc ?_ (by first | omega | (simp; done) | (simp; omega)) _ | with_reducible refine Below.drew ?_ | with_reducible refine bdrewN ?_ _ | with_reducible refine Below.trans ?_ (Below.mono hb' (by first | omega | (simp; done) | (simp; omega))) | with_reducible refine Below.trans ?_ (Below.mono hbf (by first | omega | (simp; done) | (simp; omega)))))

end Go.Proofs.Ytdhgkfmehegeoaa
