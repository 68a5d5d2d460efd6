import Derived.Test.YtdhgkfmehegeoaaRise
import Derived.Test.YtdhgkfmehegeoaaMir
import Derived.Test.YtdhgkfmehegeoaaReg
import Derived.Deep.DeepCutAuto
namespace Go.Proofs.Ytdhgkfmehegeoaa
set_option linter.unusedSimpArgs false
set_option linter.unusedVariables false
open Go.RowKit

theorem add_fact {xs cells : List Int} {n : Nat} (hx : ∀ x ∈ xs, 0 ≤ x ∧ x ≤ 10000) (hn : xs.length = n) (hn25 : n ≤ 25) {g : Int} (hg : 1 ≤ g ∧ g ≤ 10000) (hs : setB n cells = true) {k : Nat} (hk : k < cells.length) :
    ∃ m : Nat, cells.getD k 0 = (m : Int) ∧ m < n ∧ 0 ≤ (addL xs (cells.take k) g).getD m 0 ∧ (addL xs (cells.take k) g).getD m 0 ≤ 260000 := by
  obtain ⟨h1, h2⟩ := setB_true hs
  have h3 := h2 _ (getD_mem hk)
  refine ⟨(cells.getD k 0).toNat, by omega, by omega, ?_⟩
  have h4 := addL_bound (g := g) hx ⟨by omega, hg.2⟩ (cells.take k) _ (getD_mem (xs := addL xs (cells.take k) g) (k := (cells.getD k 0).toNat) (by rw [addL_length]; omega))
  have h5 : (cells.take k).length ≤ 25 := by rw [List.length_take]; omega
  omega

set_option maxRecDepth 100000 in
set_option maxHeartbeats 4000000 in
theorem specAdd_any (W H : Int) (a : Option Addr) (n c : Nat) (xs : List Int) (a' : Option Addr) (n' c' : Nat) (cells : List Int) (p : Int) (w : World) (h : Ints w a n c xs) (h' : Ints w a' n' c' cells) (_hp : I64 p) :
    Calls Try.prog 26 #[.agg #[.int .i64 W, .int .i64 H, .slice a n c], .slice a' n' c', .int .i64 p] w (GridRes w (addR W H xs cells p).g.W (addR W H xs cells p).g.H (addR W H xs cells p).g.zs (addR W H xs cells p).ok) := by
  have hn := h.cap
  have hc := h.room
  have HL := Lib.hid h.len
  have hn' := h'.cap
  have hc' := h'.room
  have HL' := Lib.hid h'.len
  cases hg : goodB 10000 W H xs
  · have HF := Lib.hid (show addR W H xs cells p = ⟨⟨0, 0, []⟩, false⟩ by simp [addR, hg])
    go_enter Try.func26, Try.ntmps26
    go_wp2_with (go_at_call 68; refine (l19Good_any W H a n c xs _ (by exact (h.alloc _).alloc _)).mono ?_; rintro e w' ⟨rfl, hb⟩; obtain ⟨k1, f1, l1⟩ := (Row.new _ (w.heap.size + 1) (by simp) _ _).below hb)
    rw [HF.out]
    refine bodyPost_ret (v := .tuple #[.agg #[.int .i64 0, .int .i64 0, .slice none 0 0], .bool false]) (by simp [results, Try.results26, go_sem, k1]) rfl ⟨none, 0, 0, rfl, own_nil _ _, ?_⟩
    (repeat' (first | exact Below.refl _ _ | with_reducible refine Below.setCell ?_ (by first | omega | (simp; done) | (simp; omega)) _ | with_reducible refine Below.alloc ?_ (by first | omega | (simp; done) | (simp; omega)) _ | with_reducible refine Below.drew ?_ | with_reducible refine bdrewN ?_ _ | with_reducible refine Below.trans ?_ (Below.mono hb (by first | omega | (simp; done) | (simp; omega)))))
  obtain ⟨Wn, Hn, rfl, rfl, a1, a2, b1, b2, hlen, h25, hall⟩ := goodB_true hg
  have HA := Lib.hid hall; clear hall
  have hn25 : n ≤ 25 := by rw [← HL.out]; exact h25
  have hnp : 0 < n := by rw [← HL.out, hlen]; exact Nat.mul_pos a1 b1
  clear h25 hlen
  have hwn : IntKind.i64.wrap ((n : Int) - 1) = (n : Int) - 1 := wrap_in (by omega)
  cases hs : setB n cells
  · have HF := Lib.hid (show addR Wn Hn xs cells p = ⟨⟨0, 0, []⟩, false⟩ by simp [addR, hg, HL.out, hs])
    have HS := Lib.hid (show (risingB cells && cells.all fun x => inB x 0 ((n : Int) - 1)) = false from hs)
    go_enter Try.func26, Try.ntmps26
    go_wp2_with (first | (go_at_call 68; refine (l19Good_any _ _ a n c xs _ (by exact (h.alloc _).alloc _)).mono ?_; rintro e w' ⟨rfl, hb⟩; have hb1 := hb; obtain ⟨k0, f0, l0⟩ := ((Row.new _ w.heap.size rfl _ _).alloc _).below hb; obtain ⟨k1, f1, l1⟩ := (Row.new _ (w.heap.size + 1) (by simp) _ _).below hb; have R1 : Row w' (w.heap.size + 1) _ := ⟨k1, f1, l1⟩; clear k1 f1 l1) | skip; fail)
    have hb' : Below w.heap.size w w' := by (repeat' (first | exact Below.refl _ _ | with_reducible refine Below.setCell ?_ (by first | omega | (simp; done) | (simp; omega)) _ | with_reducible refine Below.alloc ?_ (by first | omega | (simp; done) | (simp; omega)) _ | with_reducible refine Below.drew ?_ | with_reducible refine bdrewN ?_ _ | with_reducible refine Below.trans ?_ (Below.mono hb (by first | omega | (simp; done) | (simp; omega)))))
    refine (l1Rising_any a' n' c' cells _ _ _ (h'.below hb')).mono ?_
    rintro e w2 ⟨rfl, hb2⟩
    rw [HS.out]
    obtain ⟨k1, f1, l1⟩ := R1.ext hb2
    go_wp2
    rw [HF.out]
    refine bodyPost_ret (v := .tuple #[.agg #[.int .i64 0, .int .i64 0, .slice none 0 0], .bool false]) (by simp [results, Try.results26, go_sem, k1]) rfl ⟨none, 0, 0, rfl, own_nil _ _, ?_⟩
    have hs2 := hb'.size
    (repeat' (first | exact Below.refl _ _ | with_reducible refine Below.setCell ?_ (by first | omega | (simp; done) | (simp; omega)) _ | with_reducible refine Below.alloc ?_ (by first | omega | (simp; done) | (simp; omega)) _ | with_reducible refine Below.drew ?_ | with_reducible refine bdrewN ?_ _ | with_reducible refine Below.trans ?_ (Below.mono hb' (by first | omega | (simp; done) | (simp; omega))) | with_reducible refine Below.trans ?_ (Below.mono hb2 (by first | omega | (simp; done) | (simp; omega)))))
  have HS := Lib.hid (show (risingB cells && cells.all fun x => inB x 0 ((n : Int) - 1)) = true from hs)
  cases hq : inB p 1 10000
  · have HF := Lib.hid (show addR Wn Hn xs cells p = ⟨⟨0, 0, []⟩, false⟩ by simp [addR, hg, HL.out, hs, hq])
    go_enter Try.func26, Try.ntmps26
    go_wp2_with (first | (go_at_call 68; refine (l19Good_any _ _ a n c xs _ (by exact (h.alloc _).alloc _)).mono ?_; rintro e w' ⟨rfl, hb⟩; have hb1 := hb; obtain ⟨k0, f0, l0⟩ := ((Row.new _ w.heap.size rfl _ _).alloc _).below hb; obtain ⟨k1, f1, l1⟩ := (Row.new _ (w.heap.size + 1) (by simp) _ _).below hb; have R1 : Row w' (w.heap.size + 1) _ := ⟨k1, f1, l1⟩; clear k1 f1 l1) | skip; fail)
    have hb' : Below w.heap.size w w' := by (repeat' (first | exact Below.refl _ _ | with_reducible refine Below.setCell ?_ (by first | omega | (simp; done) | (simp; omega)) _ | with_reducible refine Below.alloc ?_ (by first | omega | (simp; done) | (simp; omega)) _ | with_reducible refine Below.drew ?_ | with_reducible refine bdrewN ?_ _ | with_reducible refine Below.trans ?_ (Below.mono hb (by first | omega | (simp; done) | (simp; omega)))))
    refine (l1Rising_any a' n' c' cells _ _ _ (h'.below hb')).mono ?_
    rintro e w2 ⟨rfl, hb2⟩
    rw [HS.out]
    obtain ⟨k1, f1, l1⟩ := R1.ext hb2
    go_wp2_with (go_at_call 78; refine (l1In_any _ _ _ _).mono ?_; rintro e w' ⟨rfl, rfl⟩)
    rw [HF.out]
    refine bodyPost_ret (v := .tuple #[.agg #[.int .i64 0, .int .i64 0, .slice none 0 0], .bool false]) (by simp [results, Try.results26, go_sem, k1]) rfl ⟨none, 0, 0, rfl, own_nil _ _, ?_⟩
    have hs2 := hb'.size
    (repeat' (first | exact Below.refl _ _ | with_reducible refine Below.setCell ?_ (by first | omega | (simp; done) | (simp; omega)) _ | with_reducible refine Below.alloc ?_ (by first | omega | (simp; done) | (simp; omega)) _ | with_reducible refine Below.drew ?_ | with_reducible refine bdrewN ?_ _ | with_reducible refine Below.trans ?_ (Below.mono hb' (by first | omega | (simp; done) | (simp; omega))) | with_reducible refine Below.trans ?_ (Below.mono hb2 (by first | omega | (simp; done) | (simp; omega)))))
  obtain ⟨p0, p1⟩ := inB_true hq
  have HAF := Lib.hid (fun k (hk : k < cells.length) => add_fact (g := p) HA.out HL.out hn25 ⟨p0, p1⟩ hs hk)
  have HT := Lib.hid (setB_true hs).1
  have HF := Lib.hid (show addR Wn Hn xs cells p = if goodB 10000 Wn Hn (addL xs cells p) then ⟨⟨Wn, Hn, addL xs cells p⟩, true⟩ else ⟨⟨0, 0, []⟩, false⟩ by simp [addR, hg, HL.out, hs, hq])
  go_enter Try.func26, Try.ntmps26
  go_upto_region 3 with (first | (go_at_call 68; refine (l19Good_any _ _ a n c xs _ (by exact (h.alloc _).alloc _)).mono ?_; rintro e w' ⟨rfl, hb⟩; have hb1 := hb; obtain ⟨k0, f0, l0⟩ := ((Row.new _ w.heap.size rfl _ _).alloc _).below hb; obtain ⟨k1, f1, l1⟩ := (Row.new _ (w.heap.size + 1) (by simp) _ _).below hb) | (go_at_call 84; refine (l1Rising_any a' n' c' cells _ _ _ (h'.below (show Below w.heap.size w _ by (repeat' (first | exact Below.refl _ _ | with_reducible refine Below.setCell ?_ (by first | omega | (simp; done) | (simp; omega)) _ | with_reducible refine Below.alloc ?_ (by first | omega | (simp; done) | (simp; omega)) _ | with_reducible refine Below.drew ?_ | with_reducible refine bdrewN ?_ _ | with_reducible refine Below.trans ?_ (Below.mono hb (by first | omega | (simp; done) | (simp; omega)))))))).mono ?_; rintro e w2 ⟨rfl, hb2⟩; rw [HS.out]; replace k0 := keepRow hb2 l0 k0; replace f0 := keepFree hb2 l0 f0; replace k1 := keepRow hb2 l1 k1; replace f1 := keepFree hb2 l1 f1; replace l0 := Nat.lt_of_lt_of_le l0 hb2.size; replace l1 := Nat.lt_of_lt_of_le l1 hb2.size) | (go_at_call 78; refine (l1In_any _ _ _ _).mono ?_; rintro e w' ⟨rfl, rfl⟩))
  have R0 : Row w2 w.heap.size _ := ⟨k0, f0, l0⟩
  have R1 : Row w2 (w.heap.size + 1) _ := ⟨k1, f1, l1⟩
  have hb' : Below w.heap.size w w2 := by
    have hs1 := hb.size
    simp at hs1
    (repeat' (first | exact Below.refl _ _ | with_reducible refine Below.setCell ?_ (by first | omega | (simp; done) | (simp; omega)) _ | with_reducible refine Below.alloc ?_ (by first | omega | (simp; done) | (simp; omega)) _ | with_reducible refine Below.drew ?_ | with_reducible refine bdrewN ?_ _ | with_reducible refine Below.trans ?_ (Below.mono hb (by first | omega | (simp; done) | (simp; omega))) | with_reducible refine Below.trans ?_ (Below.mono hb2 (by first | omega | (simp; done) | (simp; omega)))))
  clear k1 f1 hb2
  go_cut [8] (fun s8 wx => ∃ bo a2 c2, s8 = .pointer (some ⟨bo, 0, none⟩) ∧ Row wx bo #[.int .i64 Wn, .int .i64 Hn, .slice a2 n c2] ∧ Own w2.heap.size wx a2 n c2 xs ∧ ¬ blockOf a2 bo ∧ Far w2 wx ∧ w2.heap.size ≤ bo)
  case first =>
    have hI' := h.below hb'
    have hS : (fun w1 : World => ∀ o, w1.cell? ⟨w.heap.size, o, none⟩ = (#[.int .i64 Wn, .int .i64 Hn, .slice a n c] : Array Value)[o]?) w2.drew := R0.drew.cell
    refine AtT.start (S := (fun w1 : World => ∀ o, w1.cell? ⟨w.heap.size, o, none⟩ = (#[.int .i64 Wn, .int .i64 Hn, .slice a n c] : Array Value)[o]?)) 9 (by kernel_rfl) ?_
    refine AtT.take (i := 0) (v := ?_) rfl (by kernel_rfl) (by kernel_rfl) (by kernel_rfl) (by kernel_rfl) (fun _ _ _ h => h) (Or.inl ⟨by kernel_rfl, ?_⟩) (by assumption) ?_
    rotate_left
    · (intro w hSw; (try dsimp only at hSw); go_simp; try with_reducible rfl)
    simp only [Act.put, List.setIfInBounds_toArray, List.set_cons_zero, List.set_cons_succ]
    refine AtT.take (i := 1) (v := ?_) rfl (by kernel_rfl) (by kernel_rfl) (by kernel_rfl) (by kernel_rfl) (fun _ _ _ h => h) (Or.inl ⟨by kernel_rfl, ?_⟩) (by assumption) ?_
    rotate_left
    · (intro w hSw; (try dsimp only at hSw); go_simp; try with_reducible rfl)
    simp only [Act.put, List.setIfInBounds_toArray, List.set_cons_zero, List.set_cons_succ]
    refine AtT.take (i := 2) (v := ?_) rfl (by kernel_rfl) (by kernel_rfl) (by kernel_rfl) (by kernel_rfl) (fun _ _ _ h => h) (Or.inl ⟨by kernel_rfl, ?_⟩) (by assumption) ?_
    rotate_left
    · (intro w hSw; (try dsimp only at hSw); go_simp; try with_reducible rfl)
    simp only [Act.put, List.setIfInBounds_toArray, List.set_cons_zero, List.set_cons_succ]
    refine AtT.take (i := 3) (v := ?_) rfl (by kernel_rfl) (by kernel_rfl) (by kernel_rfl) (by kernel_rfl) (fun _ _ _ h => h) (Or.inl ⟨by kernel_rfl, ?_⟩) (by assumption) ?_
    rotate_left
    · (intro w hSw; (try dsimp only at hSw); go_simp; try with_reducible rfl)
    simp only [Act.put, List.setIfInBounds_toArray, List.set_cons_zero, List.set_cons_succ]
    refine AtT.take (i := 4) (v := ?_) rfl (by kernel_rfl) (by kernel_rfl) (by kernel_rfl) (by kernel_rfl) (fun _ _ _ h => h) (Or.inl ⟨by kernel_rfl, ?_⟩) (by assumption) ?_
    rotate_left
    · (intro w hSw; (try dsimp only at hSw); go_simp; try with_reducible rfl)
    simp only [Act.put, List.setIfInBounds_toArray, List.set_cons_zero, List.set_cons_succ]
    refine AtT.take (i := 5) (v := ?_) rfl (by kernel_rfl) (by kernel_rfl) (by kernel_rfl) (by kernel_rfl) (fun _ _ _ h => h) (Or.inl ⟨by kernel_rfl, ?_⟩) (by assumption) ?_
    rotate_left
    · (intro w hSw; (try dsimp only at hSw); go_simp; try with_reducible rfl)
    simp only [Act.put, List.setIfInBounds_toArray, List.set_cons_zero, List.set_cons_succ]
    refine AtT.two (i := 6) (j := 8) (by kernel_rfl) rfl rfl rfl rfl ?_ ?_
    · intro K hK
      go_simp
      refine (l1Own_any a n c xs _ hI'.drew).mono ?_
      rintro e w3 ⟨a2, c2, rfl, hO, hb2⟩
      dsimp only
      have R0a := R0.drew.below hb2
      have hS2 : (fun w1 : World => ∀ o, w1.cell? ⟨w.heap.size, o, none⟩ = (#[.int .i64 Wn, .int .i64 Hn, .slice a n c] : Array Value)[o]?) w3 := R0a.cell
      refine hK.out _ _ hS2 ?_
      clear hK K hS
      refine AtT.take (i := 7) (v := ?_) rfl (by kernel_rfl) (by kernel_rfl) (by kernel_rfl) (by kernel_rfl) (fun _ _ _ h => h) (Or.inl ⟨by kernel_rfl, ?_⟩) (by assumption) ?_
      rotate_left
      · (intro w hSw; (try dsimp only at hSw); go_simp; try with_reducible rfl)
      simp only [Act.put, List.setIfInBounds_toArray, List.set_cons_zero, List.set_cons_succ]
      refine AtT.only (i := 8) (by kernel_rfl) rfl rfl ?_
      intro K hK
      go_simp
      refine hK.out _ _ (R0a.alloc _).cell ?_
      clear hK K
      refine AtT.last (by kernel_rfl) rfl (by kernel_rfl) ?_
      intro K hK
      go_simp
      refine hK.out _ _ ?_
      clear hK K
      go_wp2_with fail
      go_meet
      have hs2 : w2.heap.size ≤ w3.heap.size := hb2.size
      exact ⟨w3.heap.size, a2, c2, rfl, Row.new _ _ rfl _ _, hO.alloc _, fun e => by have := hO.till _ e; omega, ((Far.refl w2).drew.ext hb2).alloc _, hs2⟩
    · intro K hK
      go_simp
      refine hK.out _ _ (R0.alloc _).drew.cell ?_
      clear hK K
      have hS1 : (fun w1 : World => ∀ o, w1.cell? ⟨w.heap.size, o, none⟩ = (#[.int .i64 Wn, .int .i64 Hn, .slice a n c] : Array Value)[o]?) (w2.alloc (.cells #[.int .i64 0, .int .i64 0, .slice none 0 0] 26)).drew := (R0.alloc _).drew.cell
      refine AtT.only (i := 6) (by kernel_rfl) rfl rfl ?_
      intro K hK
      go_simp
      refine (l1Own_any a n c xs _ (hI'.alloc _).drew).mono ?_
      rintro e w3 ⟨a2, c2, rfl, hO, hb2⟩
      dsimp only
      have R0a := (R0.alloc _).drew.below hb2
      have Rb := (Row.new w2 w2.heap.size rfl _ _).drew.below hb2
      have hS2 : (fun w1 : World => ∀ o, w1.cell? ⟨w.heap.size, o, none⟩ = (#[.int .i64 Wn, .int .i64 Hn, .slice a n c] : Array Value)[o]?) w3 := R0a.cell
      refine hK.out _ _ hS2 ?_
      clear hK K hS hS1
      refine AtT.take (i := 7) (v := ?_) rfl (by kernel_rfl) (by kernel_rfl) (by kernel_rfl) (by kernel_rfl) (fun _ _ _ h => h) (Or.inl ⟨by kernel_rfl, ?_⟩) (by assumption) ?_
      rotate_left
      · (intro w hSw; (try dsimp only at hSw); go_simp; try with_reducible rfl)
      simp only [Act.put, List.setIfInBounds_toArray, List.set_cons_zero, List.set_cons_succ]
      refine AtT.last (by kernel_rfl) rfl (by kernel_rfl) ?_
      intro K hK
      obtain ⟨k2, f2, l2⟩ := Rb
      have Rb : Row w3 w2.heap.size _ := ⟨k2, f2, l2⟩
      go_simp
      refine hK.out _ _ ?_
      clear hK K
      go_wp2_with fail
      go_meet
      have hap : ¬ blockOf a2 w2.heap.size := hO.apart (by simp)
      refine ⟨w2.heap.size, a2, c2, rfl, ((Rb.set 0 _ (by simp)).set 1 _ (by simp)).set 2 _ (by simp), ?_, hap, ?_, Nat.le_refl _⟩
      · exact (((hO.mono (by simp)).setCell_far hap _).setCell_far hap _).setCell_far hap _
      · exact ⟨by (repeat' (first | exact Below.refl _ _ | with_reducible refine Below.setCell ?_ (by first | omega | (simp; done) | (simp; omega)) _ | with_reducible refine Below.alloc ?_ (by first | omega | (simp; done) | (simp; omega)) _ | with_reducible refine Below.drew ?_ | with_reducible refine bdrewN ?_ _ | with_reducible refine Below.trans ?_ (Below.mono hb2 (by first | omega | (simp; done) | (simp; omega)))))⟩
  case rest =>
    obtain ⟨bo, a2, c2, rfl, R2, hO, hnb, hF, hbo⟩ := hcut
    clear k0 f0 hb
    have hR0 := R0.ext hF.below
    have hR1 := R1.ext hF.below
    clear R0 R1
    obtain ⟨g, rfl, hgB, hgs, _, _⟩ := hO.head hnp
    have hgb : g ≠ bo := fun e => hnb ⟨_, rfl, e.symm⟩
    go_wp2
    go_loopw [9] (fun i wr => ∃ k : Nat, k ≤ n' ∧ i = .int .i64 k ∧ Row wr w.heap.size #[.int .i64 Wn, .int .i64 Hn, .slice a n c] ∧ Row wr (w.heap.size + 1) #[.int .i64 0, .int .i64 0, .slice none 0 0] ∧
        Row wr bo #[.int .i64 Wn, .int .i64 Hn, .slice (some ⟨g, 0, none⟩) n c2] ∧ Own w2.heap.size wr (some ⟨g, 0, none⟩) n c2 (addL xs (cells.take k) p) ∧ Far w2 wr)
      (fun i _ => n' - (intOf i).toNat)
    case atStart => exact ⟨0, Nat.zero_le _, rfl, hR0, hR1, R2, by simpa [addL] using hO, hF⟩
    case round =>
      obtain ⟨k, hk, rfl, hR0, hR1, hR2, hOk, hFr⟩ := hrel
      by_cases hlt : k < n'
      · obtain ⟨b, off, rfl, hbb, hcell⟩ := ((h'.below hb').ext hFr.below).at' _ hlt
        have hck := hcell k hlt
        clear hcell
        obtain ⟨m, hm, hmn, y0, y1⟩ := HAF.out k (by rw [HL'.out]; exact hlt)
        rw [hm] at hck
        have hdk := hOk.cellAt hmn
        have hfk := hOk.freeAt m
        obtain ⟨y, hy⟩ : ∃ y, (addL xs (cells.take k) p).getD m 0 = y := ⟨_, rfl⟩
        rw [hy] at hdk y0 y1
        have HY := Lib.hid hy; clear hy
        have HM := Lib.hid hm; clear hm
        have hwrap : IntKind.i64.wrap (y + p) = y + p := wrap_in (by omega)
        have i0 : (0 : Int) ≤ (k : Int) := by omega
        have i1 : (k : Int) < (n' : Int) := by omega
        have m0 : (0 : Int) ≤ (m : Int) := by omega
        have m1 : (m : Int) < (n : Int) := by omega
        have q2 := hR2.cell
        go_wp2
        have hS : (fun w1 : World => (∀ o, w1.cell? ⟨bo, o, none⟩ = (#[.int .i64 Wn, .int .i64 Hn, .slice (some ⟨g, 0, none⟩) n c2] : Array Value)[o]?) ∧ w1.cell? ⟨g, m, none⟩ = some (.int .i64 y)) wr.drew := ⟨hR2.drew.cell, hdk⟩
        clear q2
        refine AtT.start (S := (fun w1 : World => (∀ o, w1.cell? ⟨bo, o, none⟩ = (#[.int .i64 Wn, .int .i64 Hn, .slice (some ⟨g, 0, none⟩) n c2] : Array Value)[o]?) ∧ w1.cell? ⟨g, m, none⟩ = some (.int .i64 y))) 11 (by kernel_rfl) ?_
        refine AtT.take (i := 0) (v := ?_) rfl (by kernel_rfl) (by kernel_rfl) (by kernel_rfl) (by kernel_rfl) (fun _ _ _ h => h) (Or.inl ⟨by kernel_rfl, ?_⟩) (by assumption) ?_
        rotate_left
        · (intro w hSw; (try dsimp only at hSw); go_simp; try with_reducible rfl)
        simp only [Act.put, List.setIfInBounds_toArray, List.set_cons_zero, List.set_cons_succ]
        refine AtT.take (i := 1) (v := ?_) rfl (by kernel_rfl) (by kernel_rfl) (by kernel_rfl) (by kernel_rfl) (fun _ _ _ h => h) (Or.inl ⟨by kernel_rfl, ?_⟩) (by assumption) ?_
        rotate_left
        · (intro w hSw; (try dsimp only at hSw); go_simp; try with_reducible rfl)
        simp only [Act.put, List.setIfInBounds_toArray, List.set_cons_zero, List.set_cons_succ]
        refine AtT.take (i := 2) (v := ?_) rfl (by kernel_rfl) (by kernel_rfl) (by kernel_rfl) (by kernel_rfl) (fun _ _ _ h => h) (Or.inl ⟨by kernel_rfl, ?_⟩) (by assumption) ?_
        rotate_left
        · (intro w hSw; (try dsimp only at hSw); go_simp; try with_reducible rfl)
        simp only [Act.put, List.setIfInBounds_toArray, List.set_cons_zero, List.set_cons_succ]
        refine AtT.take (i := 3) (v := ?_) rfl (by kernel_rfl) (by kernel_rfl) (by kernel_rfl) (by kernel_rfl) (fun _ _ _ h => h) (Or.inl ⟨by kernel_rfl, ?_⟩) (by assumption) ?_
        rotate_left
        · (intro w hSw; (try dsimp only at hSw); go_simp; try with_reducible rfl)
        simp only [Act.put, List.setIfInBounds_toArray, List.set_cons_zero, List.set_cons_succ]
        refine AtT.take (i := 4) (v := ?_) rfl (by kernel_rfl) (by kernel_rfl) (by kernel_rfl) (by kernel_rfl) (fun _ _ _ h => h) (Or.inl ⟨by kernel_rfl, ?_⟩) (by assumption) ?_
        rotate_left
        · (intro w hSw; (try dsimp only at hSw); go_simp; try with_reducible rfl)
        simp only [Act.put, List.setIfInBounds_toArray, List.set_cons_zero, List.set_cons_succ]
        refine AtT.take (i := 5) (v := ?_) rfl (by kernel_rfl) (by kernel_rfl) (by kernel_rfl) (by kernel_rfl) (fun _ _ _ h => h) (Or.inl ⟨by kernel_rfl, ?_⟩) (by assumption) ?_
        rotate_left
        · (intro w hSw; (try dsimp only at hSw); go_simp; try with_reducible rfl)
        simp only [Act.put, List.setIfInBounds_toArray, List.set_cons_zero, List.set_cons_succ]
        refine AtT.take (i := 6) (v := ?_) rfl (by kernel_rfl) (by kernel_rfl) (by kernel_rfl) (by kernel_rfl) (fun _ _ _ h => h) (Or.inl ⟨by kernel_rfl, ?_⟩) (by assumption) ?_
        rotate_left
        · (intro w hSw; (try dsimp only at hSw); go_simp; try with_reducible rfl)
        simp only [Act.put, List.setIfInBounds_toArray, List.set_cons_zero, List.set_cons_succ]
        refine AtT.take (i := 7) (v := ?_) rfl (by kernel_rfl) (by kernel_rfl) (by kernel_rfl) (by kernel_rfl) (fun _ _ _ h => h) (Or.inl ⟨by kernel_rfl, ?_⟩) (by assumption) ?_
        rotate_left
        · (intro w hSw; (try dsimp only at hSw); go_simp; try with_reducible rfl)
        simp only [Act.put, List.setIfInBounds_toArray, List.set_cons_zero, List.set_cons_succ]
        refine AtT.take (i := 8) (v := ?_) rfl (by kernel_rfl) (by kernel_rfl) (by kernel_rfl) (by kernel_rfl) (fun _ _ _ h => h) (Or.inl ⟨by kernel_rfl, ?_⟩) (by assumption) ?_
        rotate_left
        · (intro w hSw; (try dsimp only at hSw); go_simp; try with_reducible rfl)
        simp only [Act.put, List.setIfInBounds_toArray, List.set_cons_zero, List.set_cons_succ]
        refine AtT.take (i := 9) (v := ?_) rfl (by kernel_rfl) (by kernel_rfl) (by kernel_rfl) (by kernel_rfl) (fun _ _ _ h => h) (Or.inl ⟨by kernel_rfl, ?_⟩) (by assumption) ?_
        rotate_left
        · (intro w hSw; (try dsimp only at hSw); go_simp; try with_reducible rfl)
        simp only [Act.put, List.setIfInBounds_toArray, List.set_cons_zero, List.set_cons_succ]
        refine AtT.take (i := 10) (v := ?_) rfl (by kernel_rfl) (by kernel_rfl) (by kernel_rfl) (by kernel_rfl) (fun _ _ _ h => h) (Or.inl ⟨by kernel_rfl, ?_⟩) (by assumption) ?_
        rotate_left
        · (intro w hSw; (try dsimp only at hSw); go_simp; try with_reducible rfl)
        simp only [Act.put, List.setIfInBounds_toArray, List.set_cons_zero, List.set_cons_succ]
        refine AtT.last (by kernel_rfl) rfl (by kernel_rfl) ?_
        intro K hK
        clear hS
        go_simp
        refine hK.out _ _ ?_
        clear hK K hwrap
        go_wp2
        go_roundw
        case rel =>
          have hO2 := hOk.set m (y + p) (by unfold I64; omega)
          have e1 := addL_succ (xs := xs) (cells := cells) (g := p) (k := k) (by rw [HL'.out]; exact hlt)
          rw [HM.out, Int.toNat_natCast, HY.out] at e1
          rw [← e1] at hO2
          exact ⟨k + 1, by omega, by go_num, (hR0.far _ _ (by first | omega | (simp; done) | (simp; omega))).drew, (hR1.far _ _ (by first | omega | (simp; done) | (simp; omega))).drew, (hR2.far _ _ hgb).drew, hO2.drew, (hFr.set _ _ (by first | omega | (simp; done) | (simp; omega))).drew⟩
        case measure => simp [intOf]; omega
      · obtain rfl : k = n' := by omega
        rw [List.take_of_length_le (by rw [HL'.out]; exact Nat.le_refl _)] at hOk
        obtain ⟨k2, f2, m2⟩ := hR2
        have hbf := hFr.below
        have hs0 := hb'.size
        have hs1 := hbf.size
        cases hg2 : goodB 10000 Wn Hn (addL xs cells p)
        · go_wp2_with (go_at_call 68; refine (l19Good_any _ _ _ n c2 _ _ hOk.ints).mono ?_; rintro e w' ⟨rfl, hb3⟩; rw [hg2]; obtain ⟨k1, f1, m1⟩ := hR1.ext hb3)
          rw [HF.out, hg2]
          refine bodyPost_ret (v := .tuple #[.agg #[.int .i64 0, .int .i64 0, .slice none 0 0], .bool false]) (by simp [results, Try.results26, go_sem, k1]) rfl ⟨none, 0, 0, rfl, own_nil _ _, ?_⟩
          (repeat' (first | exact Below.refl _ _ | with_reducible refine Below.setCell ?_ (by first | omega | (simp; done) | (simp; omega)) _ | with_reducible refine Below.alloc ?_ (by first | omega | (simp; done) | (simp; omega)) _ | with_reducible refine Below.drew ?_ | with_reducible refine bdrewN ?_ _ | with_reducible refine Below.trans ?_ (Below.mono hb' (by first | omega | (simp; done) | (simp; omega))) | with_reducible refine Below.trans ?_ (Below.mono hbf (by first | omega | (simp; done) | (simp; omega))) | with_reducible refine Below.trans ?_ (Below.mono hb3 (by first | omega | (simp; done) | (simp; omega)))))
        · go_wp2_with (go_at_call 68; refine (l19Good_any _ _ _ n c2 _ _ hOk.ints).mono ?_; rintro e w' ⟨rfl, hb3⟩; rw [hg2]; obtain ⟨k1, f1, m1⟩ := hR1.ext hb3; replace k2 := keepRow hb3 m2 k2)
          rw [HF.out, hg2]
          have hO3 := hOk.ext hb3
          refine bodyPost_ret (v := .tuple #[.agg #[.int .i64 Wn, .int .i64 Hn, .slice (some ⟨g, 0, none⟩) n c2], .bool true]) (by simp [results, Try.results26, go_sem, k1]) rfl ⟨_, n, c2, rfl, ?_, ?_⟩
          · ((repeat with_reducible refine Own.setCell_far ?_ (hO3.apart (by first | omega | (simp; done) | (simp; omega))) _); exact hO3.mono (by first | omega | (simp; done) | (simp; omega)))
          · (repeat' (first | exact Below.refl _ _ | with_reducible refine Below.setCell ?_ (by first | omega | (simp; done) | (simp; omega)) _ | with_reducible refine Below.alloc ?_ (by first | omega | (simp; done) | (simp; omega)) _ | with_reducible refine Below.drew ?_ | with_reducible refine bdrewN ?_ _ | with_reducible refine Below.trans ?_ (Below.mono hb' (by first | omega | (simp; done) | (simp; omega))) | with_reducible refine Below.trans ?_ (Below.mono hbf (by first | omega | (simp; done) | (simp; omega))) | with_reducible refine Below.trans ?_ (Below.mono hb3 (by first | omega | (simp; done) | (simp; omega)))))

end Go.Proofs.Ytdhgkfmehegeoaa
