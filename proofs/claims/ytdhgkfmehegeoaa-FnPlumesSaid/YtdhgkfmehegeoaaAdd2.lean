import Derived.Test.YtdhgkfmehegeoaaAdd
namespace Go.Proofs.Ytdhgkfmehegeoaa
set_option linter.unusedSimpArgs false
set_option linter.unusedVariables false
open Go.RowKit

set_option maxRecDepth 100000 in
set_option maxHeartbeats 400000 in
theorem addS1_any (x W H : Int) (a : Option Addr) (n c : Nat) (b : Nat) (w : World) (hr : Row w b #[.int .i64 W, .int .i64 H, .slice a n c]) (hn : n ≤ 25) :
    Calls Try.prog 83 #[.int .i64 x, .pointer (some ⟨b, 0, none⟩)] w fun e w' => e = .returned (.bool (inB x 0 ((n : Int) - 1))) ∧ Below w.heap.size w w' := by
  have k0 := hr.cell
  have hwn : IntKind.i64.wrap ((n : Int) - 1) = (n : Int) - 1 := wrap_in (by omega)
  go_enter Try.func83, Try.ntmps83
  go_wp2_with (go_at_call 70; refine (in_any _ _ _ _).mono ?_; rintro e w' ⟨rfl, rfl⟩)
  go_ret
  exact ⟨rfl, by (repeat' (first | exact Below.refl _ _ | with_reducible refine Below.setCell ?_ (by first | omega | (simp; done) | (simp; omega)) _ | with_reducible refine Below.alloc ?_ (by first | omega | (simp; done) | (simp; omega)) _ | with_reducible refine Below.drew ?_ | with_reducible refine bdrewN ?_ _))⟩

set_option maxRecDepth 100000 in
set_option maxHeartbeats 4000000 in
theorem implAdd_any (W H : Int) (a : Option Addr) (n c : Nat) (xs : List Int) (a' : Option Addr) (n' c' : Nat) (cells : List Int) (p : Int) (w : World) (h : Ints w a n c xs) (h' : Ints w a' n' c' cells) (_hp : I64 p) :
    Calls Try.prog 25 #[.agg #[.int .i64 W, .int .i64 H, .slice a n c], .slice a' n' c', .int .i64 p] w (GridRes w (addR W H xs cells p).g.W (addR W H xs cells p).g.H (addR W H xs cells p).g.zs (addR W H xs cells p).ok) := by
  have hn := h.cap
  have hc := h.room
  have HL := Lib.hid h.len
  have hn' := h'.cap
  have hc' := h'.room
  have HL' := Lib.hid h'.len
  cases hg : goodB 10000 W H xs
  · have HF := Lib.hid (show addR W H xs cells p = ⟨⟨0, 0, []⟩, false⟩ by simp [addR, hg])
    go_enter Try.func25, Try.ntmps25
    go_wp2_with (go_at_call 12; refine (IsSmoke_any W H a n c xs _ (by exact (h.alloc _).alloc _)).mono ?_; rintro e w' ⟨rfl, hb⟩; obtain ⟨k1, f1, l1⟩ := (Row.new _ (w.heap.size + 1) (by simp) _ _).below hb)
    rw [HF.out]
    refine bodyPost_ret (v := .tuple #[.agg #[.int .i64 0, .int .i64 0, .slice none 0 0], .bool false]) (by simp [results, Try.results25, go_sem, k1]) rfl ⟨none, 0, 0, rfl, own_nil _ _, ?_⟩
    (repeat' (first | exact Below.refl _ _ | with_reducible refine Below.setCell ?_ (by first | omega | (simp; done) | (simp; omega)) _ | with_reducible refine Below.alloc ?_ (by first | omega | (simp; done) | (simp; omega)) _ | with_reducible refine Below.drew ?_ | with_reducible refine bdrewN ?_ _ | with_reducible refine Below.trans ?_ (Below.mono hb (by first | omega | (simp; done) | (simp; omega)))))
  obtain ⟨Wn, Hn, rfl, rfl, a1, a2, b1, b2, hlen, h25, hall⟩ := goodB_true hg
  have HA := Lib.hid hall; clear hall
  have hn25 : n ≤ 25 := by rw [← HL.out]; exact h25
  have hnp : 0 < n := by rw [← HL.out, hlen]; exact Nat.mul_pos a1 b1
  clear h25 hlen
  have hmf : ∀ (fn : Fn) (first cap : Array Value) (w : World), (Instr.makeFunc fn first cap).run Try.prog w = .ok (.func fn first cap) w := fun _ _ _ _ => rfl
  cases hs1 : risingB cells
  · have HF := Lib.hid (show addR Wn Hn xs cells p = ⟨⟨0, 0, []⟩, false⟩ by simp [addR, hg, setB, hs1])
    go_enter Try.func25, Try.ntmps25
    go_wp2_with (first | (go_at_call 12; refine (IsSmoke_any _ _ a n c xs _ (by exact (h.alloc _).alloc _)).mono ?_; rintro e w' ⟨rfl, hb⟩; have hb1 := hb; obtain ⟨k1, f1, l1⟩ := (Row.new _ (w.heap.size + 1) (by simp) _ _).below hb; have R1 : Row w' (w.heap.size + 1) _ := ⟨k1, f1, l1⟩; clear k1 f1 l1) | skip; fail)
    have hb' : Below w.heap.size w w' := by (repeat' (first | exact Below.refl _ _ | with_reducible refine Below.setCell ?_ (by first | omega | (simp; done) | (simp; omega)) _ | with_reducible refine Below.alloc ?_ (by first | omega | (simp; done) | (simp; omega)) _ | with_reducible refine Below.drew ?_ | with_reducible refine bdrewN ?_ _ | with_reducible refine Below.trans ?_ (Below.mono hb (by first | omega | (simp; done) | (simp; omega)))))
    refine (isRising_any a' n' c' cells _ (h'.below hb')).mono ?_
    rintro e w2 ⟨rfl, hb2⟩
    rw [hs1]
    obtain ⟨k1, f1, l1⟩ := R1.ext hb2
    go_wp2
    rw [HF.out]
    refine bodyPost_ret (v := .tuple #[.agg #[.int .i64 0, .int .i64 0, .slice none 0 0], .bool false]) (by simp [results, Try.results25, go_sem, k1]) rfl ⟨none, 0, 0, rfl, own_nil _ _, ?_⟩
    have hs2 := hb'.size
    (repeat' (first | exact Below.refl _ _ | with_reducible refine Below.setCell ?_ (by first | omega | (simp; done) | (simp; omega)) _ | with_reducible refine Below.alloc ?_ (by first | omega | (simp; done) | (simp; omega)) _ | with_reducible refine Below.drew ?_ | with_reducible refine bdrewN ?_ _ | with_reducible refine Below.trans ?_ (Below.mono hb' (by first | omega | (simp; done) | (simp; omega))) | with_reducible refine Below.trans ?_ (Below.mono hb2 (by first | omega | (simp; done) | (simp; omega)))))
  have hAns : ∀ w2, Row w2 w.heap.size #[.int .i64 Wn, .int .i64 Hn, .slice a n c] → Answers 83 #[.pointer (some ⟨w.heap.size, 0, none⟩)] (fun x => inB x 0 ((n : Int) - 1)) cells w2 :=
    fun w2 hr x _ w3 hb3 => addS1_any x _ _ a n c _ w3 (hr.below hb3) hn25
  have HAns := Lib.hid hAns
  clear hAns
  cases hs : cells.all fun x => inB x 0 ((n : Int) - 1)
  · have HF := Lib.hid (show addR Wn Hn xs cells p = ⟨⟨0, 0, []⟩, false⟩ by simp [addR, setB, HL.out, hs])
    go_enter Try.func25, Try.ntmps25
    go_wp2_with (first | (go_at_call 12; refine (IsSmoke_any _ _ a n c xs _ (by exact (h.alloc _).alloc _)).mono ?_; rintro e w' ⟨rfl, hb⟩; have hb1 := hb; have R0 := ((Row.new _ w.heap.size rfl _ _).alloc _).below hb; have R1 := (Row.new _ (w.heap.size + 1) (by simp) _ _).below hb) | skip; fail)
    have hb' : Below w.heap.size w w' := by (repeat' (first | exact Below.refl _ _ | with_reducible refine Below.setCell ?_ (by first | omega | (simp; done) | (simp; omega)) _ | with_reducible refine Below.alloc ?_ (by first | omega | (simp; done) | (simp; omega)) _ | with_reducible refine Below.drew ?_ | with_reducible refine bdrewN ?_ _ | with_reducible refine Below.trans ?_ (Below.mono hb (by first | omega | (simp; done) | (simp; omega)))))
    refine (isRising_any a' n' c' cells _ (h'.below hb')).mono ?_
    rintro e w2 ⟨rfl, hb2⟩
    rw [hs1]
    replace R0 := R0.ext hb2
    replace R1 := R1.ext hb2
    go_wp2_with fail
    refine (all_any _ _ _ a' n' c' cells _ ((h'.below hb').ext hb2) (enters Try.func83 (by kernel_rfl) rfl) (HAns.out _ R0)).mono ?_
    rintro e w3 ⟨rfl, hb3⟩
    rw [hs]
    obtain ⟨k1, f1, l1⟩ := R1.ext hb3
    go_wp2
    rw [HF.out]
    refine bodyPost_ret (v := .tuple #[.agg #[.int .i64 0, .int .i64 0, .slice none 0 0], .bool false]) (by simp [results, Try.results25, go_sem, k1]) rfl ⟨none, 0, 0, rfl, own_nil _ _, ?_⟩
    have hs2 := hb'.size
    have hs3 := hb2.size
    (repeat' (first | exact Below.refl _ _ | with_reducible refine Below.setCell ?_ (by first | omega | (simp; done) | (simp; omega)) _ | with_reducible refine Below.alloc ?_ (by first | omega | (simp; done) | (simp; omega)) _ | with_reducible refine Below.drew ?_ | with_reducible refine bdrewN ?_ _ | with_reducible refine Below.trans ?_ (Below.mono hb' (by first | omega | (simp; done) | (simp; omega))) | with_reducible refine Below.trans ?_ (Below.mono hb2 (by first | omega | (simp; done) | (simp; omega))) | with_reducible refine Below.trans ?_ (Below.mono hb3 (by first | omega | (simp; done) | (simp; omega)))))
  cases hq : inB p 1 10000
  · have HF := Lib.hid (show addR Wn Hn xs cells p = ⟨⟨0, 0, []⟩, false⟩ by simp [addR, hq])
    go_enter Try.func25, Try.ntmps25
    go_wp2_with (first | (go_at_call 12; refine (IsSmoke_any _ _ a n c xs _ (by exact (h.alloc _).alloc _)).mono ?_; rintro e w' ⟨rfl, hb⟩; have hb1 := hb; have R0 := ((Row.new _ w.heap.size rfl _ _).alloc _).below hb; have R1 := (Row.new _ (w.heap.size + 1) (by simp) _ _).below hb) | skip; fail)
    have hb' : Below w.heap.size w w' := by (repeat' (first | exact Below.refl _ _ | with_reducible refine Below.setCell ?_ (by first | omega | (simp; done) | (simp; omega)) _ | with_reducible refine Below.alloc ?_ (by first | omega | (simp; done) | (simp; omega)) _ | with_reducible refine Below.drew ?_ | with_reducible refine bdrewN ?_ _ | with_reducible refine Below.trans ?_ (Below.mono hb (by first | omega | (simp; done) | (simp; omega)))))
    refine (isRising_any a' n' c' cells _ (h'.below hb')).mono ?_
    rintro e w2 ⟨rfl, hb2⟩
    rw [hs1]
    replace R0 := R0.ext hb2
    replace R1 := R1.ext hb2
    go_wp2_with fail
    refine (all_any _ _ _ a' n' c' cells _ ((h'.below hb').ext hb2) (enters Try.func83 (by kernel_rfl) rfl) (HAns.out _ R0)).mono ?_
    rintro e w3 ⟨rfl, hb3⟩
    rw [hs]
    obtain ⟨k1, f1, l1⟩ := R1.ext hb3
    go_wp2_with (go_at_call 70; refine (in_any _ _ _ _).mono ?_; rintro e w' ⟨rfl, rfl⟩)
    rw [HF.out]
    refine bodyPost_ret (v := .tuple #[.agg #[.int .i64 0, .int .i64 0, .slice none 0 0], .bool false]) (by simp [results, Try.results25, go_sem, k1]) rfl ⟨none, 0, 0, rfl, own_nil _ _, ?_⟩
    have hs2 := hb'.size
    have hs3 := hb2.size
    (repeat' (first | exact Below.refl _ _ | with_reducible refine Below.setCell ?_ (by first | omega | (simp; done) | (simp; omega)) _ | with_reducible refine Below.alloc ?_ (by first | omega | (simp; done) | (simp; omega)) _ | with_reducible refine Below.drew ?_ | with_reducible refine bdrewN ?_ _ | with_reducible refine Below.trans ?_ (Below.mono hb' (by first | omega | (simp; done) | (simp; omega))) | with_reducible refine Below.trans ?_ (Below.mono hb2 (by first | omega | (simp; done) | (simp; omega))) | with_reducible refine Below.trans ?_ (Below.mono hb3 (by first | omega | (simp; done) | (simp; omega)))))
  obtain ⟨p0, p1⟩ := inB_true hq
  have hsB : setB n cells = true := by simp [setB, hs1, hs]
  have HAF := Lib.hid (fun k (hk : k < cells.length) => add_fact (g := p) HA.out HL.out hn25 ⟨p0, p1⟩ hsB hk)
  have HF := Lib.hid (show addR Wn Hn xs cells p = if goodB 10000 Wn Hn (addL xs cells p) then ⟨⟨Wn, Hn, addL xs cells p⟩, true⟩ else ⟨⟨0, 0, []⟩, false⟩ by simp [addR, hg, HL.out, hsB, hq])
  clear hsB
  go_enter Try.func25, Try.ntmps25
  go_wp2_with (first | (go_at_call 12; refine (IsSmoke_any _ _ a n c xs _ (by exact (h.alloc _).alloc _)).mono ?_; rintro e w' ⟨rfl, hb⟩; have hb1 := hb; have R0 := ((Row.new _ w.heap.size rfl _ _).alloc _).below hb; have R1 := (Row.new _ (w.heap.size + 1) (by simp) _ _).below hb) | skip; fail)
  have hb' : Below w.heap.size w w' := by (repeat' (first | exact Below.refl _ _ | with_reducible refine Below.setCell ?_ (by first | omega | (simp; done) | (simp; omega)) _ | with_reducible refine Below.alloc ?_ (by first | omega | (simp; done) | (simp; omega)) _ | with_reducible refine Below.drew ?_ | with_reducible refine bdrewN ?_ _ | with_reducible refine Below.trans ?_ (Below.mono hb (by first | omega | (simp; done) | (simp; omega)))))
  refine (isRising_any a' n' c' cells _ (h'.below hb')).mono ?_
  rintro e w2 ⟨rfl, hb2⟩
  rw [hs1]
  replace R0 := R0.ext hb2
  replace R1 := R1.ext hb2
  go_wp2_with fail
  refine (all_any _ _ _ a' n' c' cells _ ((h'.below hb').ext hb2) (enters Try.func83 (by kernel_rfl) rfl) (HAns.out _ R0)).mono ?_
  rintro e w3 ⟨rfl, hb3⟩
  rw [hs]
  obtain ⟨k0, f0, l0⟩ := R0.ext hb3
  have hb4 : Below w.heap.size w w3 := by
    have hs2 := hb'.size
    have hs3 := hb2.size
    (repeat' (first | exact Below.refl _ _ | with_reducible refine Below.setCell ?_ (by first | omega | (simp; done) | (simp; omega)) _ | with_reducible refine Below.alloc ?_ (by first | omega | (simp; done) | (simp; omega)) _ | with_reducible refine Below.drew ?_ | with_reducible refine bdrewN ?_ _ | with_reducible refine Below.trans ?_ (Below.mono hb' (by first | omega | (simp; done) | (simp; omega))) | with_reducible refine Below.trans ?_ (Below.mono hb2 (by first | omega | (simp; done) | (simp; omega))) | with_reducible refine Below.trans ?_ (Below.mono hb3 (by first | omega | (simp; done) | (simp; omega)))))
  go_wp2_with (go_at_call 70; refine (in_any _ _ _ _).mono ?_; rintro e w' ⟨rfl, rfl⟩)
  replace R0 := R0.ext hb3
  replace R1 := R1.ext hb3
  have l3 : w.heap.size + 1 < w3.heap.size := R1.lt
  clear k0 f0 hb hb1 hb' hb2 hb3
  refine (copiedSmoke_any _ _ a n c xs _ (h.below hb4)).mono ?_
  rintro e w4 ⟨a2, c2, rfl, hO, hb5⟩
  have hF := (Far.refl w3).ext hb5
  replace R0 := R0.ext hb5
  replace R1 := R1.ext hb5
  have hs5 : w3.heap.size ≤ w4.heap.size := hb5.size
  have HTill := Lib.hid hO.till
  clear hb5
  obtain ⟨g, rfl, hgB, hgs, _, _⟩ := hO.head hnp
  have hgb : g ≠ w4.heap.size := by omega
  have k0 := R0.cell
  have m0 := R0.lt
  go_wp2
  go_loopw [35] (fun i wr => ∃ k : Nat, k ≤ n' ∧ i = .int .i64 k ∧ Row wr (w.heap.size + 1) #[.int .i64 0, .int .i64 0, .slice none 0 0] ∧
      Row wr w4.heap.size #[.int .i64 Wn, .int .i64 Hn, .slice (some ⟨g, 0, none⟩) n c2] ∧ Own w3.heap.size wr (some ⟨g, 0, none⟩) n c2 (addL xs (cells.take k) p) ∧ Far w3 wr)
    (fun i _ => n' - (intOf i).toNat)
  case atStart => exact ⟨0, Nat.zero_le _, rfl, R1.alloc _, Row.new _ _ rfl _ _, by simpa [addL] using hO.alloc _, hF.alloc _⟩
  case round =>
    obtain ⟨k, hk, rfl, hR1, hR2, hOk, hFr⟩ := hrel
    clear k0
    by_cases hlt : k < n'
    · obtain ⟨b, off, rfl, hbb, hcell⟩ := ((h'.below hb4).ext hFr.below).at' _ hlt
      have hck := hcell k hlt
      clear hcell
      obtain ⟨m, hm, hmn, y0, y1⟩ := HAF.out k (by rw [HL'.out]; exact hlt)
      rw [hm] at hck
      have hdk := hOk.cellAt hmn
      have hfk := hOk.freeAt m
      obtain ⟨y, hy⟩ : ∃ y, (addL xs (cells.take k) p).getD m 0 = y := ⟨_, rfl⟩
      rw [hy] at hdk y0 y1
      have HY := Lib.hid hy; clear hy
      have HM := Lib.hid hm; clear hm
      have q2 := hR2.cell
      go_wp2
      go_roundw
      case rel =>
        have hO2 := hOk.set m (y + p) (by unfold I64; omega)
        have e1 := addL_succ (xs := xs) (cells := cells) (g := p) (k := k) (by rw [HL'.out]; exact hlt)
        rw [HM.out, Int.toNat_natCast, HY.out] at e1
        rw [← e1] at hO2
        exact ⟨k + 1, by omega, by go_num, hR1.far _ _ (by first | omega | (simp; done) | (simp; omega)), hR2.far _ _ hgb, hO2, hFr.set _ _ (by first | omega | (simp; done) | (simp; omega))⟩
      case measure => simp [intOf]; omega
    · obtain rfl : k = n' := by omega
      rw [List.take_of_length_le (by rw [HL'.out]; exact Nat.le_refl _)] at hOk
      obtain ⟨k2, f2, m2⟩ := hR2
      have hbf := hFr.below
      have hs0 := hb4.size
      have hsf := hbf.size
      cases hg2 : goodB 10000 Wn Hn (addL xs cells p)
      · go_wp2_with (go_at_call 12; refine (IsSmoke_any _ _ _ n c2 _ _ hOk.ints).mono ?_; rintro e w' ⟨rfl, hb3⟩; rw [hg2]; obtain ⟨k1, f1, m1⟩ := hR1.ext hb3)
        rw [HF.out, hg2]
        refine bodyPost_ret (v := .tuple #[.agg #[.int .i64 0, .int .i64 0, .slice none 0 0], .bool false]) (by simp [results, Try.results25, go_sem, k1]) rfl ⟨none, 0, 0, rfl, own_nil _ _, ?_⟩
        (repeat' (first | exact Below.refl _ _ | with_reducible refine Below.setCell ?_ (by first | omega | (simp; done) | (simp; omega)) _ | with_reducible refine Below.alloc ?_ (by first | omega | (simp; done) | (simp; omega)) _ | with_reducible refine Below.drew ?_ | with_reducible refine bdrewN ?_ _ | with_reducible refine Below.trans ?_ (Below.mono hb4 (by first | omega | (simp; done) | (simp; omega))) | with_reducible refine Below.trans ?_ (Below.mono hbf (by first | omega | (simp; done) | (simp; omega))) | with_reducible refine Below.trans ?_ (Below.mono hb3 (by first | omega | (simp; done) | (simp; omega)))))
      · go_wp2_with (go_at_call 12; refine (IsSmoke_any _ _ _ n c2 _ _ hOk.ints).mono ?_; rintro e w' ⟨rfl, hb3⟩; rw [hg2]; obtain ⟨k1, f1, m1⟩ := hR1.ext hb3; replace k2 := keepRow hb3 m2 k2)
        rw [HF.out, hg2]
        have hO3 := hOk.ext hb3
        refine bodyPost_ret (v := .tuple #[.agg #[.int .i64 Wn, .int .i64 Hn, .slice (some ⟨g, 0, none⟩) n c2], .bool true]) (by simp [results, Try.results25, go_sem, k1]) rfl ⟨_, n, c2, rfl, ?_, ?_⟩
        · ((repeat with_reducible refine Own.setCell_far ?_ (hO3.apart (by first | omega | (simp; done) | (simp; omega))) _); exact hO3.mono (by first | omega | (simp; done) | (simp; omega)))
        · (repeat' (first | exact Below.refl _ _ | with_reducible refine Below.setCell ?_ (by first | omega | (simp; done) | (simp; omega)) _ | with_reducible refine Below.alloc ?_ (by first | omega | (simp; done) | (simp; omega)) _ | with_reducible refine Below.drew ?_ | with_reducible refine bdrewN ?_ _ | with_reducible refine Below.trans ?_ (Below.mono hb4 (by first | omega | (simp; done) | (simp; omega))) | with_reducible refine Below.trans ?_ (Below.mono hbf (by first | omega | (simp; done) | (simp; omega))) | with_reducible refine Below.trans ?_ (Below.mono hb3 (by first | omega | (simp; done) | (simp; omega)))))

end Go.Proofs.Ytdhgkfmehegeoaa
