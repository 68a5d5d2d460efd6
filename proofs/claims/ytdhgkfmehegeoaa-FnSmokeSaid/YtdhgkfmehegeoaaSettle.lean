import Derived.Test.YtdhgkfmehegeoaaMir
import Derived.Test.YtdhgkfmehegeoaaReg
import Derived.Deep.DeepCutAuto
namespace Go.Proofs.Ytdhgkfmehegeoaa
set_option linter.unusedSimpArgs false
set_option linter.unusedVariables false
open Go.RowKit

set_option maxRecDepth 100000 in
set_option maxHeartbeats 4000000 in
theorem specSettle_any (W H : Int) (a : Option Addr) (n c : Nat) (xs : List Int) (p : Int) (w : World) (h : Ints w a n c xs) (_hp : I64 p) :
    Calls Try.prog 21 #[.agg #[.int .i64 W, .int .i64 H, .slice a n c], .int .i64 p] w (Grid3Res w (settleR W H xs p).g.W (settleR W H xs p).g.H (settleR W H xs p).g.zs (settleR W H xs p).t (settleR W H xs p).ok) := by
  have hn := h.cap
  have hc := h.room
  have HL := Lib.hid h.len
  cases hg : goodB 10000 W H xs
  · have HF := Lib.hid (show settleR W H xs p = ⟨⟨0, 0, []⟩, 0, false⟩ by simp [settleR, hg])
    go_enter Try.func21, Try.ntmps21
    go_wp2_with (go_at_call 68; refine (l19Good_any W H a n c xs _ (by exact (h.alloc _).alloc _)).mono ?_; rintro e w' ⟨rfl, hb⟩; obtain ⟨k1, f1, l1⟩ := (Row.new _ (w.heap.size + 1) (by simp) _ _).below hb)
    rw [HF.out]
    refine bodyPost_ret (v := .tuple #[.agg #[.int .i64 0, .int .i64 0, .slice none 0 0], .int .i64 0, .bool false]) (by simp [results, Try.results21, go_sem, k1]) rfl ⟨none, 0, 0, rfl, own_nil _ _, ?_⟩
    (repeat' (first | exact Below.refl _ _ | with_reducible refine Below.setCell ?_ (by first | omega | (simp; done) | (simp; omega)) _ | with_reducible refine Below.alloc ?_ (by first | omega | (simp; done) | (simp; omega)) _ | with_reducible refine Below.drew ?_ | with_reducible refine bdrewN ?_ _ | with_reducible refine Below.trans ?_ (Below.mono hb (by first | omega | (simp; done) | (simp; omega)))))
  cases hq : inB p 0 100
  · have HF := Lib.hid (show settleR W H xs p = ⟨⟨0, 0, []⟩, 0, false⟩ by simp [settleR, hg, hq])
    go_enter Try.func21, Try.ntmps21
    go_wp2_with (first | (go_at_call 68; refine (l19Good_any W H a n c xs _ (by exact (h.alloc _).alloc _)).mono ?_; rintro e w' ⟨rfl, hb⟩; obtain ⟨k1, f1, l1⟩ := (Row.new _ (w.heap.size + 1) (by simp) _ _).below hb) | (go_at_call 78; refine (l1In_any _ _ _ _).mono ?_; rintro e w' ⟨rfl, rfl⟩))
    rw [HF.out]
    refine bodyPost_ret (v := .tuple #[.agg #[.int .i64 0, .int .i64 0, .slice none 0 0], .int .i64 0, .bool false]) (by simp [results, Try.results21, go_sem, k1]) rfl ⟨none, 0, 0, rfl, own_nil _ _, ?_⟩
    (repeat' (first | exact Below.refl _ _ | with_reducible refine Below.setCell ?_ (by first | omega | (simp; done) | (simp; omega)) _ | with_reducible refine Below.alloc ?_ (by first | omega | (simp; done) | (simp; omega)) _ | with_reducible refine Below.drew ?_ | with_reducible refine bdrewN ?_ _ | with_reducible refine Below.trans ?_ (Below.mono hb (by first | omega | (simp; done) | (simp; omega)))))
  have HF := Lib.hid (show settleR W H xs p = ⟨⟨W, H, settleL p xs⟩, settleT p xs, true⟩ by simp [settleR, hg, hq])
  obtain ⟨p0, p1⟩ := inB_true hq
  obtain ⟨Wn, Hn, rfl, rfl, a1, a2, b1, b2, hlen, h25, hall⟩ := goodB_true hg
  have HA := Lib.hid hall; clear hall
  have hn25 : n ≤ 25 := by rw [← HL.out]; exact h25
  have hnp : 0 < n := by rw [← HL.out, hlen]; exact Nat.mul_pos a1 b1
  clear h25 hlen
  go_enter Try.func21, Try.ntmps21
  go_upto_region 3 with (first | (go_at_call 68; refine (l19Good_any _ _ a n c xs _ (by exact (h.alloc _).alloc _)).mono ?_; rintro e w' ⟨rfl, hb⟩; obtain ⟨k0, f0, l0⟩ := ((Row.new _ w.heap.size rfl _ _).alloc _).below hb; obtain ⟨k1, f1, l1⟩ := (Row.new _ (w.heap.size + 1) (by simp) _ _).below hb) | (go_at_call 78; refine (l1In_any _ _ _ _).mono ?_; rintro e w' ⟨rfl, rfl⟩))
  have R0 : Row w' w.heap.size _ := ⟨k0, f0, l0⟩
  have R1 : Row w' (w.heap.size + 1) _ := ⟨k1, f1, l1⟩
  have hb' : Below w.heap.size w w' := by (repeat' (first | exact Below.refl _ _ | with_reducible refine Below.setCell ?_ (by first | omega | (simp; done) | (simp; omega)) _ | with_reducible refine Below.alloc ?_ (by first | omega | (simp; done) | (simp; omega)) _ | with_reducible refine Below.drew ?_ | with_reducible refine bdrewN ?_ _ | with_reducible refine Below.trans ?_ (Below.mono hb (by first | omega | (simp; done) | (simp; omega)))))
  clear k1 f1
  go_cut [7] (fun s7 wx => ∃ bo a2 c2, s7 = .pointer (some ⟨bo, 0, none⟩) ∧ Row wx bo #[.int .i64 Wn, .int .i64 Hn, .slice a2 n c2] ∧ Own w'.heap.size wx a2 n c2 xs ∧ ¬ blockOf a2 bo ∧ Far w' wx ∧ w'.heap.size ≤ bo)
  case first =>
    have hI' := h.below hb'
    have hS : (fun w1 : World => ∀ o, w1.cell? ⟨w.heap.size, o, none⟩ = (#[.int .i64 Wn, .int .i64 Hn, .slice a n c] : Array Value)[o]?) w'.drew := R0.drew.cell
    refine AtT.start (S := (fun w1 : World => ∀ o, w1.cell? ⟨w.heap.size, o, none⟩ = (#[.int .i64 Wn, .int .i64 Hn, .slice a n c] : Array Value)[o]?)) 9 (by kernel_rfl) ?_
    refine AtT.take (i := 0) (v := ?_) rfl (by kernel_rfl) (by kernel_rfl) (by kernel_rfl) (by kernel_rfl) (fun _ _ _ h => h) (Or.inl ⟨by kernel_rfl, ?_⟩) (by assumption) ?_
    rotate_left
    · (intro w hSw; (try dsimp only at hSw); go_simp; try with_reducible rfl)
    simp only [Act.put, List.setIfInBounds_toArray, List.set_cons_zero, List.set_cons_succ]
    refine AtT.take (i := 1) (v := ?_) rfl (by kernel_rfl) (by kernel_rfl) (by kernel_rfl) (by kernel_rfl) (fun _ _ _ h => h) (Or.inl ⟨by kernel_rfl, ?_⟩) (by assumption) ?_
    rotate_left
    · (intro w hSw; (try dsimp only at hSw); go_simp; try with_reducible rfl)
    simp only [Act.put, List.setIfInBounds_toArray, List.set_cons_zero, List.set_cons_succ]
    refine AtT.take (i := 2) (v := ?_) rfl (by kernel_rfl) (by kernel_rfl) (by kernel_rfl) (by kernel_rfl) (fun _ _ _ h => h) (Or.inl ⟨by kernel_rfl, ?_⟩) (by assumption) ?_
    rotate_left
    · (intro w hSw; (try dsimp only at hSw); go_simp; try with_reducible rfl)
    simp only [Act.put, List.setIfInBounds_toArray, List.set_cons_zero, List.set_cons_succ]
    refine AtT.take (i := 3) (v := ?_) rfl (by kernel_rfl) (by kernel_rfl) (by kernel_rfl) (by kernel_rfl) (fun _ _ _ h => h) (Or.inl ⟨by kernel_rfl, ?_⟩) (by assumption) ?_
    rotate_left
    · (intro w hSw; (try dsimp only at hSw); go_simp; try with_reducible rfl)
    simp only [Act.put, List.setIfInBounds_toArray, List.set_cons_zero, List.set_cons_succ]
    refine AtT.take (i := 4) (v := ?_) rfl (by kernel_rfl) (by kernel_rfl) (by kernel_rfl) (by kernel_rfl) (fun _ _ _ h => h) (Or.inl ⟨by kernel_rfl, ?_⟩) (by assumption) ?_
    rotate_left
    · (intro w hSw; (try dsimp only at hSw); go_simp; try with_reducible rfl)
    simp only [Act.put, List.setIfInBounds_toArray, List.set_cons_zero, List.set_cons_succ]
    refine AtT.take (i := 5) (v := ?_) rfl (by kernel_rfl) (by kernel_rfl) (by kernel_rfl) (by kernel_rfl) (fun _ _ _ h => h) (Or.inl ⟨by kernel_rfl, ?_⟩) (by assumption) ?_
    rotate_left
    · (intro w hSw; (try dsimp only at hSw); go_simp; try with_reducible rfl)
    simp only [Act.put, List.setIfInBounds_toArray, List.set_cons_zero, List.set_cons_succ]
    refine AtT.two (i := 6) (j := 8) (by kernel_rfl) rfl rfl rfl rfl ?_ ?_
    · intro K hK
      go_simp
      refine (l1Own_any a n c xs _ hI'.drew).mono ?_
      rintro e w2 ⟨a2, c2, rfl, hO, hb2⟩
      dsimp only
      have R0a := R0.drew.below hb2
      have hS2 : (fun w1 : World => ∀ o, w1.cell? ⟨w.heap.size, o, none⟩ = (#[.int .i64 Wn, .int .i64 Hn, .slice a n c] : Array Value)[o]?) w2 := R0a.cell
      refine hK.out _ _ hS2 ?_
      clear hK K hS
      refine AtT.take (i := 7) (v := ?_) rfl (by kernel_rfl) (by kernel_rfl) (by kernel_rfl) (by kernel_rfl) (fun _ _ _ h => h) (Or.inl ⟨by kernel_rfl, ?_⟩) (by assumption) ?_
      rotate_left
      · (intro w hSw; (try dsimp only at hSw); go_simp; try with_reducible rfl)
      simp only [Act.put, List.setIfInBounds_toArray, List.set_cons_zero, List.set_cons_succ]
      refine AtT.only (i := 8) (by kernel_rfl) rfl rfl ?_
      intro K hK
      go_simp
      refine hK.out _ _ (R0a.alloc _).cell ?_
      clear hK K
      refine AtT.last (by kernel_rfl) rfl (by kernel_rfl) ?_
      intro K hK
      go_simp
      refine hK.out _ _ ?_
      clear hK K
      go_wp2_with fail
      go_meet
      have hs2 : w'.heap.size ≤ w2.heap.size := hb2.size
      exact ⟨w2.heap.size, a2, c2, rfl, Row.new _ _ rfl _ _, hO.alloc _, fun e => by have := hO.till _ e; omega, ((Far.refl w').drew.ext hb2).alloc _, hs2⟩
    · intro K hK
      go_simp
      refine hK.out _ _ (R0.alloc _).drew.cell ?_
      clear hK K
      have hS1 : (fun w1 : World => ∀ o, w1.cell? ⟨w.heap.size, o, none⟩ = (#[.int .i64 Wn, .int .i64 Hn, .slice a n c] : Array Value)[o]?) (w'.alloc (.cells #[.int .i64 0, .int .i64 0, .slice none 0 0] 26)).drew := (R0.alloc _).drew.cell
      refine AtT.only (i := 6) (by kernel_rfl) rfl rfl ?_
      intro K hK
      go_simp
      refine (l1Own_any a n c xs _ (hI'.alloc _).drew).mono ?_
      rintro e w2 ⟨a2, c2, rfl, hO, hb2⟩
      dsimp only
      have R0a := (R0.alloc _).drew.below hb2
      have Rb := (Row.new w' w'.heap.size rfl _ _).drew.below hb2
      have hS2 : (fun w1 : World => ∀ o, w1.cell? ⟨w.heap.size, o, none⟩ = (#[.int .i64 Wn, .int .i64 Hn, .slice a n c] : Array Value)[o]?) w2 := R0a.cell
      refine hK.out _ _ hS2 ?_
      clear hK K hS hS1
      refine AtT.take (i := 7) (v := ?_) rfl (by kernel_rfl) (by kernel_rfl) (by kernel_rfl) (by kernel_rfl) (fun _ _ _ h => h) (Or.inl ⟨by kernel_rfl, ?_⟩) (by assumption) ?_
      rotate_left
      · (intro w hSw; (try dsimp only at hSw); go_simp; try with_reducible rfl)
      simp only [Act.put, List.setIfInBounds_toArray, List.set_cons_zero, List.set_cons_succ]
      refine AtT.last (by kernel_rfl) rfl (by kernel_rfl) ?_
      intro K hK
      obtain ⟨k2, f2, l2⟩ := Rb
      have Rb : Row w2 w'.heap.size _ := ⟨k2, f2, l2⟩
      go_simp
      refine hK.out _ _ ?_
      clear hK K
      go_wp2_with fail
      go_meet
      have hap : ¬ blockOf a2 w'.heap.size := hO.apart (by simp)
      refine ⟨w'.heap.size, a2, c2, rfl, ((Rb.set 0 _ (by simp)).set 1 _ (by simp)).set 2 _ (by simp), ?_, hap, ?_, Nat.le_refl _⟩
      · exact (((hO.mono (by simp)).setCell_far hap _).setCell_far hap _).setCell_far hap _
      · exact ⟨by (repeat' (first | exact Below.refl _ _ | with_reducible refine Below.setCell ?_ (by first | omega | (simp; done) | (simp; omega)) _ | with_reducible refine Below.alloc ?_ (by first | omega | (simp; done) | (simp; omega)) _ | with_reducible refine Below.drew ?_ | with_reducible refine bdrewN ?_ _ | with_reducible refine Below.trans ?_ (Below.mono hb2 (by first | omega | (simp; done) | (simp; omega)))))⟩
  case rest =>
    obtain ⟨bo, a2, c2, rfl, R2, hO, hnb, hF, hbo⟩ := hcut
    clear k0 f0 hb
    have hR0 := R0.ext hF.below
    have hR1 := R1.ext hF.below
    clear R0 R1
    obtain ⟨g, rfl, hgB, hgs, _, _⟩ := hO.head hnp
    have hgb : g ≠ bo := fun e => hnb ⟨_, rfl, e.symm⟩
    go_wp2
    go_loopw [8, 9] (fun t i wr => ∃ k : Nat, k ≤ n ∧ i = .int .i64 k ∧ t = .int .i64 (settleT p (xs.take k)) ∧ Row wr w.heap.size #[.int .i64 Wn, .int .i64 Hn, .slice a n c] ∧ Row wr (w.heap.size + 1) #[.int .i64 0, .int .i64 0, .slice none 0 0] ∧
        Row wr bo #[.int .i64 Wn, .int .i64 Hn, .slice (some ⟨g, 0, none⟩) n c2] ∧ Own w'.heap.size wr (some ⟨g, 0, none⟩) n c2 (settleL p (xs.take k) ++ xs.drop k) ∧ Far w' wr)
      (fun _ i _ => n - (intOf i).toNat)
    case atStart => exact ⟨0, Nat.zero_le _, rfl, by simp [settleT], hR0, hR1, R2, by simpa [settleL] using hO, hF⟩
    case round =>
      obtain ⟨k, hk, rfl, rfl, hR0, hR1, hR2, hOk, hFr⟩ := hrel
      have HTB := Lib.hid (settleT_bound (p := p) ⟨p0, p1⟩ (xs := xs.take k) (fun x hx => HA.out x (List.mem_of_mem_take hx)))
      obtain ⟨t, ht⟩ : ∃ t, settleT p (xs.take k) = t := ⟨_, rfl⟩
      have htb : 0 ≤ t ∧ t ≤ 250000 := by
        have h1 := HTB.out
        rw [ht] at h1
        have : (xs.take k).length ≤ 25 := by rw [List.length_take]; omega
        omega
      obtain ⟨t0, t1⟩ := htb
      rw [ht]
      have HT := Lib.hid ht; clear ht
      by_cases hlt : k < n
      · obtain ⟨b, off, rfl, hbb, hcell⟩ := ((h.below hb').ext hFr.below).at' _ hlt
        have hck := hcell k hlt
        clear hcell
        have hmem := HA.out _ (getD_mem (xs := xs) (k := k) (by rw [HL.out]; exact hlt))
        obtain ⟨x, hx⟩ : ∃ x, xs.getD k 0 = x := ⟨_, rfl⟩
        rw [hx] at hck hmem
        have HX := Lib.hid hx; clear hx
        obtain ⟨x0, x1⟩ := hmem
        obtain ⟨y0, y1⟩ := mul_bound (a := 10000) (b := 100) x0 x1 p0 p1
        have hdiv : x * p / 100 ≤ 10000 := by omega
        have hwrap : IntKind.i64.wrap (x - x * p / 100) = x - x * p / 100 := wrap_in (by omega)
        have HWR := Lib.hid hwrap; clear hwrap
        have i0 : (0 : Int) ≤ (k : Int) := by omega
        have i1 : (k : Int) < (n : Int) := by omega
        have hdk := hOk.cellAt hlt
        have hfk := hOk.freeAt k
        have q0 := hR0.cell
        have q2 := hR2.cell
        go_wp2
        have hwrap := HWR.out
        have hS : (fun w1 : World => (∀ o, w1.cell? ⟨w.heap.size, o, none⟩ = (#[.int .i64 Wn, .int .i64 Hn, .slice (some ⟨b, off, none⟩) n c] : Array Value)[o]?) ∧ (∀ o, w1.cell? ⟨bo, o, none⟩ = (#[.int .i64 Wn, .int .i64 Hn, .slice (some ⟨g, 0, none⟩) n c2] : Array Value)[o]?) ∧ w1.cell? ⟨b, off + k, none⟩ = some (.int .i64 x)) wr.drew := ⟨hR0.drew.cell, hR2.drew.cell, hck⟩
        clear q0 q2
        refine AtT.start (S := (fun w1 : World => (∀ o, w1.cell? ⟨w.heap.size, o, none⟩ = (#[.int .i64 Wn, .int .i64 Hn, .slice (some ⟨b, off, none⟩) n c] : Array Value)[o]?) ∧ (∀ o, w1.cell? ⟨bo, o, none⟩ = (#[.int .i64 Wn, .int .i64 Hn, .slice (some ⟨g, 0, none⟩) n c2] : Array Value)[o]?) ∧ w1.cell? ⟨b, off + k, none⟩ = some (.int .i64 x))) 11 (by kernel_rfl) ?_
        refine AtT.take (i := 0) (v := ?_) rfl (by kernel_rfl) (by kernel_rfl) (by kernel_rfl) (by kernel_rfl) (fun _ _ _ h => h) (Or.inl ⟨by kernel_rfl, ?_⟩) (by assumption) ?_
        rotate_left
        · (intro w hSw; (try dsimp only at hSw); go_simp; try with_reducible rfl)
        simp only [Act.put, List.setIfInBounds_toArray, List.set_cons_zero, List.set_cons_succ]
        refine AtT.take (i := 1) (v := ?_) rfl (by kernel_rfl) (by kernel_rfl) (by kernel_rfl) (by kernel_rfl) (fun _ _ _ h => h) (Or.inl ⟨by kernel_rfl, ?_⟩) (by assumption) ?_
        rotate_left
        · (intro w hSw; (try dsimp only at hSw); go_simp; try with_reducible rfl)
        simp only [Act.put, List.setIfInBounds_toArray, List.set_cons_zero, List.set_cons_succ]
        refine AtT.take (i := 2) (v := ?_) rfl (by kernel_rfl) (by kernel_rfl) (by kernel_rfl) (by kernel_rfl) (fun _ _ _ h => h) (Or.inl ⟨by kernel_rfl, ?_⟩) (by assumption) ?_
        rotate_left
        · (intro w hSw; (try dsimp only at hSw); go_simp; try with_reducible rfl)
        simp only [Act.put, List.setIfInBounds_toArray, List.set_cons_zero, List.set_cons_succ]
        refine AtT.take (i := 3) (v := ?_) rfl (by kernel_rfl) (by kernel_rfl) (by kernel_rfl) (by kernel_rfl) (fun _ _ _ h => h) (Or.inl ⟨by kernel_rfl, ?_⟩) (by assumption) ?_
        rotate_left
        · (intro w hSw; (try dsimp only at hSw); go_simp; try with_reducible rfl)
        simp only [Act.put, List.setIfInBounds_toArray, List.set_cons_zero, List.set_cons_succ]
        refine AtT.take (i := 4) (v := ?_) rfl (by kernel_rfl) (by kernel_rfl) (by kernel_rfl) (by kernel_rfl) (fun _ _ _ h => h) (Or.inl ⟨by kernel_rfl, ?_⟩) (by assumption) ?_
        rotate_left
        · (intro w hSw; (try dsimp only at hSw); go_simp; try with_reducible rfl)
        simp only [Act.put, List.setIfInBounds_toArray, List.set_cons_zero, List.set_cons_succ]
        refine AtT.take (i := 5) (v := ?_) rfl (by kernel_rfl) (by kernel_rfl) (by kernel_rfl) (by kernel_rfl) (fun _ _ _ h => h) (Or.inl ⟨by kernel_rfl, ?_⟩) (by assumption) ?_
        rotate_left
        · (intro w hSw; (try dsimp only at hSw); go_simp; try with_reducible rfl)
        simp only [Act.put, List.setIfInBounds_toArray, List.set_cons_zero, List.set_cons_succ]
        refine AtT.take (i := 6) (v := ?_) rfl (by kernel_rfl) (by kernel_rfl) (by kernel_rfl) (by kernel_rfl) (fun _ _ _ h => h) (Or.inl ⟨by kernel_rfl, ?_⟩) (by assumption) ?_
        rotate_left
        · (intro w hSw; (try dsimp only at hSw); go_simp; try with_reducible rfl)
        simp only [Act.put, List.setIfInBounds_toArray, List.set_cons_zero, List.set_cons_succ]
        refine AtT.take (i := 7) (v := ?_) rfl (by kernel_rfl) (by kernel_rfl) (by kernel_rfl) (by kernel_rfl) (fun _ _ _ h => h) (Or.inl ⟨by kernel_rfl, ?_⟩) (by assumption) ?_
        rotate_left
        · (intro w hSw; (try dsimp only at hSw); go_simp; try with_reducible rfl)
        simp only [Act.put, List.setIfInBounds_toArray, List.set_cons_zero, List.set_cons_succ]
        refine AtT.take (i := 8) (v := ?_) rfl (by kernel_rfl) (by kernel_rfl) (by kernel_rfl) (by kernel_rfl) (fun _ _ _ h => h) (Or.inl ⟨by kernel_rfl, ?_⟩) (by assumption) ?_
        rotate_left
        · (intro w hSw; (try dsimp only at hSw); go_simp; try with_reducible rfl)
        simp only [Act.put, List.setIfInBounds_toArray, List.set_cons_zero, List.set_cons_succ]
        refine AtT.take (i := 9) (v := ?_) rfl (by kernel_rfl) (by kernel_rfl) (by kernel_rfl) (by kernel_rfl) (fun _ _ _ h => h) (Or.inl ⟨by kernel_rfl, ?_⟩) (by assumption) ?_
        rotate_left
        · (intro w hSw; (try dsimp only at hSw); go_simp; try with_reducible rfl)
        simp only [Act.put, List.setIfInBounds_toArray, List.set_cons_zero, List.set_cons_succ]
        refine AtT.take (i := 10) (v := ?_) rfl (by kernel_rfl) (by kernel_rfl) (by kernel_rfl) (by kernel_rfl) (fun _ _ _ h => h) (Or.inl ⟨by kernel_rfl, ?_⟩) (by assumption) ?_
        rotate_left
        · (intro w hSw; (try dsimp only at hSw); go_simp; try with_reducible rfl)
        simp only [Act.put, List.setIfInBounds_toArray, List.set_cons_zero, List.set_cons_succ]
        refine AtT.last (by kernel_rfl) rfl (by kernel_rfl) ?_
        intro K hK
        clear hS
        go_simp
        refine hK.out _ _ ?_
        clear hK K hwrap
        have hlb : b < w.heap.size := h.lt hnp
        go_wp2
        go_roundw
        case rel =>
          have hO2 := hOk.set k (x - x * p / 100) (by unfold I64; omega)
          rw [settle_set (by rw [HL.out]; exact hlt) HX.out] at hO2
          refine ⟨k + 1, by omega, by go_num, ?_, (hR0.far _ _ (by first | omega | (simp; done) | (simp; omega))).drew, (hR1.far _ _ (by first | omega | (simp; done) | (simp; omega))).drew, (hR2.far _ _ hgb).drew, hO2.drew, (hFr.set _ _ (by first | omega | (simp; done) | (simp; omega))).drew⟩
          rw [settleT_succ (by rw [HL.out]; exact hlt) HX.out, HT.out]
        case measure => simp [intOf]; omega
      · obtain rfl : k = n := by omega
        have hO2 : Own w'.heap.size wr (some ⟨g, 0, none⟩) k c2 (settleL p xs) := by
          rw [List.take_of_length_le (by rw [HL.out]; exact Nat.le_refl _), List.drop_of_length_le (by rw [HL.out]; exact Nat.le_refl _), List.append_nil] at hOk
          exact hOk
        have HT2 := HT.out
        rw [List.take_of_length_le (by rw [HL.out]; exact Nat.le_refl _)] at HT2
        have HT3 := Lib.hid HT2; clear HT2
        obtain ⟨k2, f2, m2⟩ := hR2
        obtain ⟨k1, f1, m1⟩ := hR1
        obtain ⟨k0, f0, m0⟩ := hR0
        have hbf := hFr.below
        go_wp2
        rw [HF.out]
        dsimp only
        rw [HT3.out]
        refine bodyPost_ret (v := .tuple #[.agg #[.int .i64 Wn, .int .i64 Hn, .slice (some ⟨g, 0, none⟩) k c2], .int .i64 t, .bool true]) (by simp [results, Try.results21, go_sem, k1]) rfl ⟨_, k, c2, rfl, ?_, ?_⟩
        · ((repeat with_reducible refine Own.setCell_far ?_ (hO2.apart (by first | omega | (simp; done) | (simp; omega))) _); exact hO2.mono (by first | omega | (simp; done) | (simp; omega)))
        · (repeat' (first | exact Below.refl _ _ | with_reducible refine Below.setCell ?_ (by first | omega | (simp; done) | (simp; omega)) _ | with_reducible refine Below.alloc ?_ (by first | omega | (simp; done) | (simp; omega)) _ | with_reducible refine Below.drew ?_ | with_reducible refine bdrewN ?_ _ | with_reducible refine Below.trans ?_ (Below.mono hb' (by first | omega | (simp; done) | (simp; omega))) | with_reducible refine Below.trans ?_ (Below.mono hbf (by first | omega | (simp; done) | (simp; omega)))))

end Go.Proofs.Ytdhgkfmehegeoaa
