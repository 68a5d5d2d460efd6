/- Lemmas. -/
import Derived.Test.YtpoabdmapbdmfaaDoorTMir
import Derived.Test.YtpoabdmapbdmfaaDoorTReg
namespace Go.Proofs.YtpoabdmapbdmfaaDoor
set_option linter.unusedSimpArgs false
set_option linter.unusedVariables false
open Go.RowKit

set_option maxRecDepth 100000 in
set_option maxHeartbeats 400000 in
theorem implMirror_any (W H : Int) (a : Option Addr) (n c : Nat) (xs : List Int) (w : World) (h : Ints w a n c xs) :
    Calls Tryd.prog 32 #[.agg #[.int .i64 W, .int .i64 H, .slice a n c]] w (GridRes w (mirR W H xs).W (mirR W H xs).H (mirR W H xs).zs (goodB 20 W H xs)) := by
  have hn := h.cap
  have hc := h.room
  have HL := Lib.hid h.len
  cases hg : goodB 20 W H xs
  · have HF := Lib.hid (show mirR W H xs = ⟨0, 0, []⟩ by simp [mirR, hg])
    go_enter Tryd.func32, Tryd.ntmps32
    go_wp2_with (go_at_call 27; refine (IsTerrain_any W H a n c xs _ (by exact (h.alloc _).alloc _)).mono ?_; rintro e w' ⟨rfl, hb⟩; obtain ⟨k0, f0, l0⟩ := ((Row.new _ (w.heap.size) rfl _ _).alloc _).below hb; obtain ⟨k1, f1, l1⟩ := (Row.new _ (w.heap.size + 1) (by simp) _ _).below hb)
    rw [HF.out]
    refine bodyPost_ret (v := .tuple #[.agg #[.int .i64 0, .int .i64 0, .slice none 0 0], .bool false]) (by simp [results, Tryd.results32, go_sem, k1]) rfl ⟨none, 0, 0, rfl, own_nil _ _, ?_⟩
    (repeat' (first | exact Below.refl _ _ | with_reducible refine Below.setCell ?_ (by first | omega | (simp; done) | (simp; omega)) _ | with_reducible refine Below.alloc ?_ (by first | omega | (simp; done) | (simp; omega)) _ | with_reducible refine Below.drew ?_ | with_reducible refine bdrewN ?_ _ | with_reducible refine Below.trans ?_ (Below.mono hb (by first | omega | (simp; done) | (simp; omega)))))
  · obtain ⟨Wn, Hn, rfl, rfl, a1, a2, b1, b2, hlen, h25, hall⟩ := goodB_true hg
    have HF := Lib.hid (show mirR Wn Hn xs = ⟨Wn, Hn, mirL Wn xs⟩ by simp [mirR, hg])
    have HA := Lib.hid hall; clear hall
    have HN := Lib.hid hlen; clear hlen
    have hn25 : n ≤ 25 := by rw [← HL.out]; exact h25
    have HW := Lib.hid h.wf
    clear h25
    go_enter Tryd.func32, Tryd.ntmps32
    go_wp2_with (go_at_call 27; refine (IsTerrain_any _ _ a n c xs _ (by exact (h.alloc _).alloc _)).mono ?_; rintro e w' ⟨rfl, hb⟩; obtain ⟨k0, f0, l0⟩ := ((Row.new _ (w.heap.size) rfl _ _).alloc _).below hb; obtain ⟨k1, f1, l1⟩ := (Row.new _ (w.heap.size + 1) (by simp) _ _).below hb)
    have R0 : Row w' w.heap.size _ := ⟨k0, f0, l0⟩
    have R1 : Row w' (w.heap.size + 1) _ := ⟨k1, f1, l1⟩
    have hb' : Below w.heap.size w w' := by (repeat' (first | exact Below.refl _ _ | with_reducible refine Below.setCell ?_ (by first | omega | (simp; done) | (simp; omega)) _ | with_reducible refine Below.alloc ?_ (by first | omega | (simp; done) | (simp; omega)) _ | with_reducible refine Below.drew ?_ | with_reducible refine bdrewN ?_ _ | with_reducible refine Below.trans ?_ (Below.mono hb (by first | omega | (simp; done) | (simp; omega)))))
    clear k0 f0 k1 f1 hb
    refine (copiedTerrain_any _ _ a n c xs _ (h.below hb')).mono ?_
    rintro e w2 ⟨a2, c2, rfl, hO, hb2⟩
    have hb3 : Below w.heap.size w w2 := by (repeat' (first | exact Below.refl _ _ | with_reducible refine Below.setCell ?_ (by first | omega | (simp; done) | (simp; omega)) _ | with_reducible refine Below.alloc ?_ (by first | omega | (simp; done) | (simp; omega)) _ | with_reducible refine Below.drew ?_ | with_reducible refine bdrewN ?_ _ | with_reducible refine Below.trans ?_ (Below.mono hb' (by first | omega | (simp; done) | (simp; omega))) | with_reducible refine Below.trans ?_ (Below.mono hb2 (by first | omega | (simp; done) | (simp; omega)))))
    obtain ⟨k0, f0, m0⟩ := R0.below hb2
    have HR1 := Lib.hid (R1.below hb2)
    go_wp2_with fail
    obtain ⟨g, rfl, hgB, hgs, _, _⟩ := hO.head (by rw [← HL.out, HN.out]; exact Nat.mul_pos a1 b1)
    go_loopw [15] (fun i wr => ∃ k : Nat, k ≤ n ∧ i = .int .i64 k ∧ Row wr w.heap.size #[.int .i64 Wn, .int .i64 Hn, .slice a n c] ∧ Row wr (w.heap.size + 1) #[.int .i64 0, .int .i64 0, .slice none 0 0] ∧
        Row wr w2.heap.size #[.int .i64 Wn, .int .i64 Hn, .slice (some ⟨g, 0, none⟩) n c2] ∧ Own w'.heap.size wr (some ⟨g, 0, none⟩) n c2 (mirK Wn xs k) ∧ Below w.heap.size w wr)
      (fun i _ => n - (intOf i).toNat)
    case atStart =>
      refine ⟨0, Nat.zero_le _, rfl, (⟨k0, f0, m0⟩ : Row w2 w.heap.size _).alloc _, HR1.out.alloc _, Row.new _ _ rfl _ _, ?_, by (repeat' (first | exact Below.refl _ _ | with_reducible refine Below.setCell ?_ (by first | omega | (simp; done) | (simp; omega)) _ | with_reducible refine Below.alloc ?_ (by first | omega | (simp; done) | (simp; omega)) _ | with_reducible refine Below.drew ?_ | with_reducible refine bdrewN ?_ _ | with_reducible refine Below.trans ?_ (Below.mono hb3 (by first | omega | (simp; done) | (simp; omega)))))⟩
      rw [mirK_zero]
      exact hO.below (B' := w2.heap.size) (by (repeat' (first | exact Below.refl _ _ | with_reducible refine Below.setCell ?_ (by first | omega | (simp; done) | (simp; omega)) _ | with_reducible refine Below.alloc ?_ (by first | omega | (simp; done) | (simp; omega)) _ | with_reducible refine Below.drew ?_ | with_reducible refine bdrewN ?_ _))) (fun ad had => (hO.where ad had).2)
    case round =>
      obtain ⟨k, hk, rfl, hR0, hR1, hR2, hOk, hbr⟩ := hrel
      clear k0 f0
      by_cases hlt : k < n
      · obtain ⟨q, p, s, u, r, e1, e2, e3, e4, e5, e6⟩ := mir_steps2 (k := k) a1 a2 b2 (by rw [← HN.out, HL.out]; exact hlt)
        have hj : mirI Wn k < n := by rw [← HL.out, HN.out]; exact mirI_lt a1 (by rw [← HN.out, HL.out]; exact hlt)
        obtain ⟨j, hj'⟩ : ∃ j, mirI Wn k = j := ⟨_, rfl⟩
        rw [hj'] at e6 hj
        have HJ := Lib.hid hj'; clear hj'
        have E1 := Lib.hid e1; clear e1
        have E5 := Lib.hid e5; clear e5
        obtain ⟨b, off, rfl, hbb, hcell⟩ := (h.below hbr).at' _ hlt
        have hck := hcell k hlt
        clear hcell
        have hmem : I64 (xs.getD k 0) := HW.out _ (getD_mem (by rw [HL.out]; exact hlt))
        obtain ⟨x, hx⟩ : ∃ x, xs.getD k 0 = x := ⟨_, rfl⟩
        rw [hx] at hck hmem
        have HX := Lib.hid hx; clear hx
        have HM := Lib.hid hmem; clear hmem
        have hW0 : ¬ Wn = 0 := by omega
        have j0 : (0 : Int) ≤ (j : Int) := by omega
        have j1 : (j : Int) < (n : Int) := by omega
        have i0 : (0 : Int) ≤ (k : Int) := by omega
        have i1 : (k : Int) < (n : Int) := by omega
        obtain ⟨k0, f0, m0⟩ := hR0
        have R0 : Row wr w.heap.size _ := ⟨k0, f0, m0⟩
        go_wp2
        clear k0 f0
        have hS : (fun w1 : World => (∀ o, w1.cell? ⟨w.heap.size, o, none⟩ = (#[.int .i64 Wn, .int .i64 Hn, .slice (some ⟨b, off, none⟩) n c] : Array Value)[o]?) ∧ (∀ o, w1.cell? ⟨w2.heap.size, o, none⟩ = (#[.int .i64 Wn, .int .i64 Hn, .slice (some ⟨g, 0, none⟩) n c2] : Array Value)[o]?) ∧ w1.cell? ⟨b, off + k, none⟩ = some (.int .i64 x)) wr.drew := ⟨R0.drew.cell, hR2.drew.cell, hck⟩
        refine AtT.start (S := (fun w1 : World => (∀ o, w1.cell? ⟨w.heap.size, o, none⟩ = (#[.int .i64 Wn, .int .i64 Hn, .slice (some ⟨b, off, none⟩) n c] : Array Value)[o]?) ∧ (∀ o, w1.cell? ⟨w2.heap.size, o, none⟩ = (#[.int .i64 Wn, .int .i64 Hn, .slice (some ⟨g, 0, none⟩) n c2] : Array Value)[o]?) ∧ w1.cell? ⟨b, off + k, none⟩ = some (.int .i64 x))) 22 (by kernel_rfl) ?_
        refine AtT.take (i := 0) (v := ?_) rfl (by kernel_rfl) (by kernel_rfl) (by kernel_rfl) (by kernel_rfl) (fun _ _ _ h => h) (Or.inl ⟨by kernel_rfl, ?_⟩) (by assumption) ?_
        rotate_left
        · (intro w hSw; (try dsimp only at hSw); go_simp; try with_reducible rfl)
        simp only [Act.put, List.setIfInBounds_toArray, List.set_cons_zero, List.set_cons_succ]
        refine AtT.take (i := 1) (v := ?_) rfl (by kernel_rfl) (by kernel_rfl) (by kernel_rfl) (by kernel_rfl) (fun _ _ _ h => h) (Or.inl ⟨by kernel_rfl, ?_⟩) (by assumption) ?_
        rotate_left
        · (intro w hSw; (try dsimp only at hSw); go_simp; try with_reducible rfl)
        simp only [Act.put, List.setIfInBounds_toArray, List.set_cons_zero, List.set_cons_succ]
        refine AtT.take (i := 2) (v := ?_) rfl (by kernel_rfl) (by kernel_rfl) (by kernel_rfl) (by kernel_rfl) (fun _ _ _ h => h) (Or.inl ⟨by kernel_rfl, ?_⟩) (by assumption) ?_
        rotate_left
        · (intro w hSw; (try dsimp only at hSw); go_simp; try with_reducible rfl)
        simp only [Act.put, List.setIfInBounds_toArray, List.set_cons_zero, List.set_cons_succ]
        refine AtT.take (i := 3) (v := ?_) rfl (by kernel_rfl) (by kernel_rfl) (by kernel_rfl) (by kernel_rfl) (fun _ _ _ h => h) (Or.inl ⟨by kernel_rfl, ?_⟩) (by assumption) ?_
        rotate_left
        · (intro w hSw; (try dsimp only at hSw); go_simp; try with_reducible rfl)
        simp only [Act.put, List.setIfInBounds_toArray, List.set_cons_zero, List.set_cons_succ]
        refine AtT.take (i := 5) (v := ?_) rfl (by kernel_rfl) (by kernel_rfl) (by kernel_rfl) (by kernel_rfl) (fun _ _ _ h => h) (Or.inl ⟨by kernel_rfl, ?_⟩) (by assumption) ?_
        rotate_left
        · (intro w hSw; (try dsimp only at hSw); go_simp; try with_reducible rfl)
        simp only [Act.put, List.setIfInBounds_toArray, List.set_cons_zero, List.set_cons_succ]
        refine AtT.take (i := 6) (v := ?_) rfl (by kernel_rfl) (by kernel_rfl) (by kernel_rfl) (by kernel_rfl) (fun _ _ _ h => h) (Or.inl ⟨by kernel_rfl, ?_⟩) (by assumption) ?_
        rotate_left
        · (intro w hSw; (try dsimp only at hSw); go_simp; try with_reducible rfl)
        simp only [Act.put, List.setIfInBounds_toArray, List.set_cons_zero, List.set_cons_succ]
        refine AtT.take (i := 8) (v := ?_) rfl (by kernel_rfl) (by kernel_rfl) (by kernel_rfl) (by kernel_rfl) (fun _ _ _ h => h) (Or.inl ⟨by kernel_rfl, ?_⟩) (by assumption) ?_
        rotate_left
        · (intro w hSw; (try dsimp only at hSw); go_simp; try with_reducible rfl)
        simp only [Act.put, List.setIfInBounds_toArray, List.set_cons_zero, List.set_cons_succ]
        refine AtT.take (i := 9) (v := ?_) rfl (by kernel_rfl) (by kernel_rfl) (by kernel_rfl) (by kernel_rfl) (fun _ _ _ h => h) (Or.inl ⟨by kernel_rfl, ?_⟩) (by assumption) ?_
        rotate_left
        · (intro w hSw; (try dsimp only at hSw); go_simp; try with_reducible rfl)
        simp only [Act.put, List.setIfInBounds_toArray, List.set_cons_zero, List.set_cons_succ]
        refine AtT.take (i := 12) (v := ?_) rfl (by kernel_rfl) (by kernel_rfl) (by kernel_rfl) (by kernel_rfl) (fun _ _ _ h => h) (Or.inl ⟨by kernel_rfl, ?_⟩) (by assumption) ?_
        rotate_left
        · (intro w hSw; (try dsimp only at hSw); go_simp; try with_reducible rfl)
        simp only [Act.put, List.setIfInBounds_toArray, List.set_cons_zero, List.set_cons_succ]
        refine AtT.take (i := 13) (v := ?_) rfl (by kernel_rfl) (by kernel_rfl) (by kernel_rfl) (by kernel_rfl) (fun _ _ _ h => h) (Or.inl ⟨by kernel_rfl, ?_⟩) (by assumption) ?_
        rotate_left
        · (intro w hSw; (try dsimp only at hSw); go_simp; try with_reducible rfl)
        simp only [Act.put, List.setIfInBounds_toArray, List.set_cons_zero, List.set_cons_succ]
        refine AtT.take (i := 16) (v := ?_) rfl (by kernel_rfl) (by kernel_rfl) (by kernel_rfl) (by kernel_rfl) (fun _ _ _ h => h) (Or.inl ⟨by kernel_rfl, ?_⟩) (by assumption) ?_
        rotate_left
        · (intro w hSw; (try dsimp only at hSw); go_simp; try with_reducible rfl)
        simp only [Act.put, List.setIfInBounds_toArray, List.set_cons_zero, List.set_cons_succ]
        refine AtT.take (i := 17) (v := ?_) rfl (by kernel_rfl) (by kernel_rfl) (by kernel_rfl) (by kernel_rfl) (fun _ _ _ h => h) (Or.inl ⟨by kernel_rfl, ?_⟩) (by assumption) ?_
        rotate_left
        · (intro w hSw; (try dsimp only at hSw); go_simp; try with_reducible rfl)
        simp only [Act.put, List.setIfInBounds_toArray, List.set_cons_zero, List.set_cons_succ]
        refine AtT.take (i := 18) (v := ?_) rfl (by kernel_rfl) (by kernel_rfl) (by kernel_rfl) (by kernel_rfl) (fun _ _ _ h => h) (Or.inl ⟨by kernel_rfl, ?_⟩) (by assumption) ?_
        rotate_left
        · (intro w hSw; (try dsimp only at hSw); go_simp; try with_reducible rfl)
        simp only [Act.put, List.setIfInBounds_toArray, List.set_cons_zero, List.set_cons_succ]
        refine AtT.take (i := 19) (v := ?_) rfl (by kernel_rfl) (by kernel_rfl) (by kernel_rfl) (by kernel_rfl) (fun _ _ _ h => h) (Or.inl ⟨by kernel_rfl, ?_⟩) (by assumption) ?_
        rotate_left
        · (intro w hSw; (try dsimp only at hSw); go_simp; try with_reducible rfl)
        simp only [Act.put, List.setIfInBounds_toArray, List.set_cons_zero, List.set_cons_succ]
        refine AtT.take (i := 20) (v := ?_) rfl (by kernel_rfl) (by kernel_rfl) (by kernel_rfl) (by kernel_rfl) (fun _ _ _ h => h) (Or.inl ⟨by kernel_rfl, ?_⟩) (by assumption) ?_
        rotate_left
        · (intro w hSw; (try dsimp only at hSw); go_simp; try with_reducible rfl)
        simp only [Act.put, List.setIfInBounds_toArray, List.set_cons_zero, List.set_cons_succ]
        refine AtT.only (i := 4) (by kernel_rfl) rfl rfl ?_
        intro K hK
        go_simp
        refine (row_any _ _ _ _ _ (by omega) (by omega)).mono ?_
        rintro e w3 ⟨rfl, hbb1⟩
        rw [E1.out]
        dsimp only
        have R0a := R0.drew.below hbb1
        have R2a := hR2.drew.below hbb1
        have hca := keepCell hbb1 (show wr.drew.cell? _ = _ from hck)
        have hS3 : (fun w1 : World => (∀ o, w1.cell? ⟨w.heap.size, o, none⟩ = (#[.int .i64 Wn, .int .i64 Hn, .slice (some ⟨b, off, none⟩) n c] : Array Value)[o]?) ∧ (∀ o, w1.cell? ⟨w2.heap.size, o, none⟩ = (#[.int .i64 Wn, .int .i64 Hn, .slice (some ⟨g, 0, none⟩) n c2] : Array Value)[o]?) ∧ w1.cell? ⟨b, off + k, none⟩ = some (.int .i64 x)) w3 := ⟨R0a.cell, R2a.cell, hca⟩
        refine hK.out _ _ hS3 ?_
        clear hS
        refine AtT.take (i := 7) (v := ?_) rfl (by kernel_rfl) (by kernel_rfl) (by kernel_rfl) (by kernel_rfl) (fun _ _ _ h => h) (Or.inl ⟨by kernel_rfl, ?_⟩) (by assumption) ?_
        rotate_left
        · (intro w hSw; (try dsimp only at hSw); go_simp; try with_reducible rfl)
        simp only [Act.put, List.setIfInBounds_toArray, List.set_cons_zero, List.set_cons_succ]
        refine AtT.take (i := 10) (v := ?_) rfl (by kernel_rfl) (by kernel_rfl) (by kernel_rfl) (by kernel_rfl) (fun _ _ _ h => h) (Or.inl ⟨by kernel_rfl, ?_⟩) (by assumption) ?_
        rotate_left
        · (intro w hSw; (try dsimp only at hSw); go_simp; try with_reducible rfl)
        simp only [Act.put, List.setIfInBounds_toArray, List.set_cons_zero, List.set_cons_succ]
        refine AtT.take (i := 11) (v := ?_) rfl (by kernel_rfl) (by kernel_rfl) (by kernel_rfl) (by kernel_rfl) (fun _ _ _ h => h) (Or.inl ⟨by kernel_rfl, ?_⟩) (by assumption) ?_
        rotate_left
        · (intro w hSw; (try dsimp only at hSw); go_simp; try with_reducible rfl)
        simp only [Act.put, List.setIfInBounds_toArray, List.set_cons_zero, List.set_cons_succ]
        refine AtT.only (i := 14) (by kernel_rfl) rfl rfl ?_
        intro K1 hK1
        go_simp
        refine (column_any _ _ _ _ _ (by omega) (by omega)).mono ?_
        rintro e w4 ⟨rfl, hbb2⟩
        rw [E5.out]
        dsimp only
        have R0b := R0a.below hbb2
        have R2b := R2a.below hbb2
        have hcb := keepCell hbb2 hca
        have hS4 : (fun w1 : World => (∀ o, w1.cell? ⟨w.heap.size, o, none⟩ = (#[.int .i64 Wn, .int .i64 Hn, .slice (some ⟨b, off, none⟩) n c] : Array Value)[o]?) ∧ (∀ o, w1.cell? ⟨w2.heap.size, o, none⟩ = (#[.int .i64 Wn, .int .i64 Hn, .slice (some ⟨g, 0, none⟩) n c2] : Array Value)[o]?) ∧ w1.cell? ⟨b, off + k, none⟩ = some (.int .i64 x)) w4 := ⟨R0b.cell, R2b.cell, hcb⟩
        refine hK1.out _ _ hS4 ?_
        clear hS3
        refine AtT.take (i := 15) (v := ?_) rfl (by kernel_rfl) (by kernel_rfl) (by kernel_rfl) (by kernel_rfl) (fun _ _ _ h => h) (Or.inl ⟨by kernel_rfl, ?_⟩) (by assumption) ?_
        rotate_left
        · (intro w hSw; (try dsimp only at hSw); go_simp; try with_reducible rfl)
        simp only [Act.put, List.setIfInBounds_toArray, List.set_cons_zero, List.set_cons_succ]
        refine AtT.take (i := 21) (v := ?_) rfl (by kernel_rfl) (by kernel_rfl) (by kernel_rfl) (by kernel_rfl) (fun _ _ _ h => h) (Or.inl ⟨by kernel_rfl, ?_⟩) (by assumption) ?_
        rotate_left
        · (intro w hSw; (try dsimp only at hSw); go_simp; try with_reducible rfl)
        simp only [Act.put, List.setIfInBounds_toArray, List.set_cons_zero, List.set_cons_succ]
        refine AtT.last (by kernel_rfl) rfl (by kernel_rfl) ?_
        intro K2 hK2
        have hs1 : wr.heap.size ≤ w3.heap.size := hbb1.size
        have hs0 : w.heap.size ≤ wr.heap.size := hbr.size
        have hb34 : Below wr.heap.size wr w4 := by (repeat' (first | exact Below.refl _ _ | with_reducible refine Below.setCell ?_ (by first | omega | (simp; done) | (simp; omega)) _ | with_reducible refine Below.alloc ?_ (by first | omega | (simp; done) | (simp; omega)) _ | with_reducible refine Below.drew ?_ | with_reducible refine bdrewN ?_ _ | with_reducible refine Below.trans ?_ (Below.mono hbb1 (by first | omega | (simp; done) | (simp; omega))) | with_reducible refine Below.trans ?_ (Below.mono hbb2 (by first | omega | (simp; done) | (simp; omega)))))
        have hOb := hOk.below hb34 (fun ad had => (hOk.where ad had).2)
        have hR1b := hR1.below hb34
        obtain ⟨g', hg', hgB', hgs', hd, hfz⟩ := hOb.head (by omega)
        obtain rfl : g = g' := by simpa using hg'
        have hdk := hd j hj
        have hfk := hfz j
        clear hd hfz hg'
        go_simp
        refine hK2.out _ _ ?_
        have hws := h.lt (by omega)
        have hsz2 := hb2.size
        go_wp2
        go_roundw
        case rel =>
          refine ⟨k + 1, by omega, by go_num, R0b.far _ _ (by first | omega | (simp; done) | (simp; omega)), hR1b.far _ _ (by first | omega | (simp; done) | (simp; omega)), R2b.far _ _ (by first | omega | (simp; done) | (simp; omega)), ?_, by (repeat' (first | exact Below.refl _ _ | with_reducible refine Below.setCell ?_ (by first | omega | (simp; done) | (simp; omega)) _ | with_reducible refine Below.alloc ?_ (by first | omega | (simp; done) | (simp; omega)) _ | with_reducible refine Below.drew ?_ | with_reducible refine bdrewN ?_ _ | with_reducible refine Below.trans ?_ (Below.mono hbr (by first | omega | (simp; done) | (simp; omega))) | with_reducible refine Below.trans ?_ (Below.mono hb34 (by first | omega | (simp; done) | (simp; omega)))))⟩
          have := hOb.set j x HM.out
          rw [← HJ.out, ← HX.out, mirK_succ a1] at this
          rw [← HJ.out, ← HX.out]
          exact this
        case measure => simp [intOf]; omega
      · obtain rfl : k = n := by omega
        have HO : Own w'.heap.size wr (some ⟨g, 0, none⟩) k c2 (mirL Wn xs) := by
          rw [← mirK_last a1 HN.out, HL.out]
          exact hOk
        obtain ⟨k2, f2, m2⟩ := hR2
        obtain ⟨k1, f1, m1⟩ := hR1
        go_wp2
        rw [HF.out]
        refine bodyPost_ret (v := .tuple #[.agg #[.int .i64 Wn, .int .i64 Hn, .slice (some ⟨g, 0, none⟩) k c2], .bool true]) (by simp [results, Tryd.results32, go_sem, k1]) rfl ⟨_, k, c2, rfl, ?_, ?_⟩
        · ((repeat with_reducible refine Own.setCell_far ?_ (HO.apart (by first | omega | (simp; done) | (simp; omega))) _); exact HO.mono (by first | omega | (simp; done) | (simp; omega)))
        · (repeat' (first | exact Below.refl _ _ | with_reducible refine Below.setCell ?_ (by first | omega | (simp; done) | (simp; omega)) _ | with_reducible refine Below.alloc ?_ (by first | omega | (simp; done) | (simp; omega)) _ | with_reducible refine Below.drew ?_ | with_reducible refine bdrewN ?_ _ | with_reducible refine Below.trans ?_ (Below.mono hbr (by first | omega | (simp; done) | (simp; omega)))))
end Go.Proofs.YtpoabdmapbdmfaaDoor
