import Derived.Test.YtdhgkfmehegeoaaMir
namespace Go.Proofs.Ytdhgkfmehegeoaa
set_option linter.unusedSimpArgs false
set_option linter.unusedVariables false
open Go.RowKit

set_option maxRecDepth 100000 in
set_option maxHeartbeats 4000000 in
theorem implSettle_any (W H : Int) (a : Option Addr) (n c : Nat) (xs : List Int) (p : Int) (w : World) (h : Ints w a n c xs) (_hp : I64 p) :
    Calls Try.prog 20 #[.agg #[.int .i64 W, .int .i64 H, .slice a n c], .int .i64 p] w (Grid3Res w (settleR W H xs p).g.W (settleR W H xs p).g.H (settleR W H xs p).g.zs (settleR W H xs p).t (settleR W H xs p).ok) := by
  have hn := h.cap
  have hc := h.room
  have HL := Lib.hid h.len
  cases hg : goodB 10000 W H xs
  · have HF := Lib.hid (show settleR W H xs p = ⟨⟨0, 0, []⟩, 0, false⟩ by simp [settleR, hg])
    go_enter Try.func20, Try.ntmps20
    go_wp2_with (go_at_call 12; refine (IsSmoke_any W H a n c xs _ (by exact (h.alloc _).alloc _)).mono ?_; rintro e w' ⟨rfl, hb⟩; obtain ⟨k1, f1, l1⟩ := (Row.new _ (w.heap.size + 1) (by simp) _ _).below hb)
    rw [HF.out]
    refine bodyPost_ret (v := .tuple #[.agg #[.int .i64 0, .int .i64 0, .slice none 0 0], .int .i64 0, .bool false]) (by simp [results, Try.results20, go_sem, k1]) rfl ⟨none, 0, 0, rfl, own_nil _ _, ?_⟩
    (repeat' (first | exact Below.refl _ _ | with_reducible refine Below.setCell ?_ (by first | omega | (simp; done) | (simp; omega)) _ | with_reducible refine Below.alloc ?_ (by first | omega | (simp; done) | (simp; omega)) _ | with_reducible refine Below.drew ?_ | with_reducible refine bdrewN ?_ _ | with_reducible refine Below.trans ?_ (Below.mono hb (by first | omega | (simp; done) | (simp; omega)))))
  cases hq : inB p 0 100
  · have HF := Lib.hid (show settleR W H xs p = ⟨⟨0, 0, []⟩, 0, false⟩ by simp [settleR, hg, hq])
    go_enter Try.func20, Try.ntmps20
    go_wp2_with (first | (go_at_call 12; refine (IsSmoke_any W H a n c xs _ (by exact (h.alloc _).alloc _)).mono ?_; rintro e w' ⟨rfl, hb⟩; obtain ⟨k1, f1, l1⟩ := (Row.new _ (w.heap.size + 1) (by simp) _ _).below hb) | (go_at_call 70; refine (in_any _ _ _ _).mono ?_; rintro e w' ⟨rfl, rfl⟩))
    rw [HF.out]
    refine bodyPost_ret (v := .tuple #[.agg #[.int .i64 0, .int .i64 0, .slice none 0 0], .int .i64 0, .bool false]) (by simp [results, Try.results20, go_sem, k1]) rfl ⟨none, 0, 0, rfl, own_nil _ _, ?_⟩
    (repeat' (first | exact Below.refl _ _ | with_reducible refine Below.setCell ?_ (by first | omega | (simp; done) | (simp; omega)) _ | with_reducible refine Below.alloc ?_ (by first | omega | (simp; done) | (simp; omega)) _ | with_reducible refine Below.drew ?_ | with_reducible refine bdrewN ?_ _ | with_reducible refine Below.trans ?_ (Below.mono hb (by first | omega | (simp; done) | (simp; omega)))))
  have HF := Lib.hid (show settleR W H xs p = ⟨⟨W, H, settleL p xs⟩, settleT p xs, true⟩ by simp [settleR, hg, hq])
  obtain ⟨p0, p1⟩ := inB_true hq
  obtain ⟨Wn, Hn, rfl, rfl, a1, a2, b1, b2, hlen, h25, hall⟩ := goodB_true hg
  have HA := Lib.hid hall; clear hall
  have hn25 : n ≤ 25 := by rw [← HL.out]; exact h25
  have hnp : 0 < n := by rw [← HL.out, hlen]; exact Nat.mul_pos a1 b1
  clear h25 hlen
  go_enter Try.func20, Try.ntmps20
  go_wp2_with (first | (go_at_call 12; refine (IsSmoke_any _ _ a n c xs _ (by exact (h.alloc _).alloc _)).mono ?_; rintro e w' ⟨rfl, hb⟩; obtain ⟨k0, f0, l0⟩ := ((Row.new _ w.heap.size rfl _ _).alloc _).below hb; obtain ⟨k1, f1, l1⟩ := (Row.new _ (w.heap.size + 1) (by simp) _ _).below hb) | (go_at_call 70; refine (in_any _ _ _ _).mono ?_; rintro e w' ⟨rfl, rfl⟩))
  have R0 : Row w' w.heap.size _ := ⟨k0, f0, l0⟩
  have R1 : Row w' (w.heap.size + 1) _ := ⟨k1, f1, l1⟩
  have hb' : Below w.heap.size w w' := by (repeat' (first | exact Below.refl _ _ | with_reducible refine Below.setCell ?_ (by first | omega | (simp; done) | (simp; omega)) _ | with_reducible refine Below.alloc ?_ (by first | omega | (simp; done) | (simp; omega)) _ | with_reducible refine Below.drew ?_ | with_reducible refine bdrewN ?_ _ | with_reducible refine Below.trans ?_ (Below.mono hb (by first | omega | (simp; done) | (simp; omega)))))
  clear k0 f0 k1 f1 hb
  refine (copiedSmoke_any _ _ a n c xs _ (h.below hb')).mono ?_
  rintro e w2 ⟨a2, c2, rfl, hO, hb2⟩
  have hF := (Far.refl w').ext hb2
  replace R0 := R0.ext hb2
  replace R1 := R1.ext hb2
  have hs2 : w'.heap.size ≤ w2.heap.size := hb2.size
  have HTill := Lib.hid hO.till
  clear hb2
  obtain ⟨g, rfl, hgB, hgs, _, _⟩ := hO.head hnp
  have hgb : g ≠ w2.heap.size := by omega
  have k0 := R0.cell
  have m0 := R0.lt
  go_wp2
  go_loopw [8, 25] (fun t i wr => ∃ k : Nat, k ≤ n ∧ i = .int .i64 k ∧ t = .int .i64 (settleT p (xs.take k)) ∧ Row wr (w.heap.size + 1) #[.int .i64 0, .int .i64 0, .slice none 0 0] ∧
      Row wr w2.heap.size #[.int .i64 Wn, .int .i64 Hn, .slice (some ⟨g, 0, none⟩) n c2] ∧ Own w'.heap.size wr (some ⟨g, 0, none⟩) n c2 (settleL p (xs.take k) ++ xs.drop k) ∧ Far w' wr)
    (fun _ i _ => n - (intOf i).toNat)
  case atStart => exact ⟨0, Nat.zero_le _, rfl, by simp [settleT], R1.alloc _, Row.new _ _ rfl _ _, by simpa [settleL] using hO.alloc _, hF.alloc _⟩
  case round =>
    obtain ⟨k, hk, rfl, rfl, hR1, hR2, hOk, hFr⟩ := hrel
    clear k0
    have HTB := Lib.hid (settleT_bound (p := p) ⟨p0, p1⟩ (xs := xs.take k) (fun x hx => HA.out x (List.mem_of_mem_take hx)))
    obtain ⟨t, ht⟩ : ∃ t, settleT p (xs.take k) = t := ⟨_, rfl⟩
    have htb : 0 ≤ t ∧ t ≤ 250000 := by
      have h1 := HTB.out
      rw [ht] at h1
      have : (xs.take k).length ≤ 25 := by rw [List.length_take]; omega
      omega
    obtain ⟨t0, t1⟩ := htb
    rw [ht]
    have HT := Lib.hid ht; clear ht
    by_cases hlt : k < n
    · obtain ⟨b, off, rfl, hbb, hcell⟩ := ((h.below hb').ext hFr.below).at' _ hlt
      have hck := hcell k hlt
      clear hcell
      have hmem := HA.out _ (getD_mem (xs := xs) (k := k) (by rw [HL.out]; exact hlt))
      have hdk := hOk.cellAt hlt
      rw [settle_get (by rw [HL.out]; exact hlt)] at hdk
      obtain ⟨x, hx⟩ : ∃ x, xs.getD k 0 = x := ⟨_, rfl⟩
      rw [hx] at hck hmem hdk
      have HX := Lib.hid hx; clear hx
      obtain ⟨x0, x1⟩ := hmem
      obtain ⟨y0, y1⟩ := mul_bound (a := 10000) (b := 100) x0 x1 p0 p1
      have hdiv : x * p / 100 ≤ 10000 := by omega
      have hfk := hOk.freeAt k
      have q2 := hR2.cell
      have hlb : b < w.heap.size := h.lt hnp
      go_wp2
      go_roundw
      case rel =>
        have hO2 := hOk.set k (x - x * p / 100) (by unfold I64; omega)
        rw [settle_set (by rw [HL.out]; exact hlt) HX.out] at hO2
        refine ⟨k + 1, by omega, by go_num, ?_, hR1.far _ _ (by first | omega | (simp; done) | (simp; omega)), hR2.far _ _ hgb, hO2, hFr.set _ _ (by first | omega | (simp; done) | (simp; omega))⟩
        rw [settleT_succ (by rw [HL.out]; exact hlt) HX.out, HT.out]
      case measure => simp [intOf]; omega
    · obtain rfl : k = n := by omega
      have hO2 : Own w'.heap.size wr (some ⟨g, 0, none⟩) k c2 (settleL p xs) := by
        rw [List.take_of_length_le (by rw [HL.out]; exact Nat.le_refl _), List.drop_of_length_le (by rw [HL.out]; exact Nat.le_refl _), List.append_nil] at hOk
        exact hOk
      have HT2 := HT.out
      rw [List.take_of_length_le (by rw [HL.out]; exact Nat.le_refl _)] at HT2
      have HT3 := Lib.hid HT2; clear HT2
      obtain ⟨k2, f2, m2⟩ := hR2
      obtain ⟨k1, f1, m1⟩ := hR1
      have hbf := hFr.below
      go_wp2
      rw [HF.out]
      dsimp only
      rw [HT3.out]
      refine bodyPost_ret (v := .tuple #[.agg #[.int .i64 Wn, .int .i64 Hn, .slice (some ⟨g, 0, none⟩) k c2], .int .i64 t, .bool true]) (by simp [results, Try.results20, go_sem, k1]) rfl ⟨_, k, c2, rfl, ?_, ?_⟩
      · ((repeat with_reducible refine Own.setCell_far ?_ (hO2.apart (by first | omega | (simp; done) | (simp; omega))) _); exact hO2.mono (by first | omega | (simp; done) | (simp; omega)))
      · (repeat' (first | exact Below.refl _ _ | with_reducible refine Below.setCell ?_ (by first | omega | (simp; done) | (simp; omega)) _ | with_reducible refine Below.alloc ?_ (by first | omega | (simp; done) | (simp; omega)) _ | with_reducible refine Below.drew ?_ | with_reducible refine bdrewN ?_ _ | with_reducible refine Below.trans ?_ (Below.mono hb' (by first | omega | (simp; done) | (simp; omega))) | with_reducible refine Below.trans ?_ (Below.mono hbf (by first | omega | (simp; done) | (simp; omega)))))

end Go.Proofs.Ytdhgkfmehegeoaa
