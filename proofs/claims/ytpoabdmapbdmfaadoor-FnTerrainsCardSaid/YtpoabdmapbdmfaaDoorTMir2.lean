/- Lemmas. -/
import Derived.Test.YtpoabdmapbdmfaaDoorTMir
import Derived.Test.YtpoabdmapbdmfaaDoorTReg
namespace Go.Proofs.YtpoabdmapbdmfaaDoor
set_option linter.unusedSimpArgs false
set_option linter.unusedVariables false
open Go.RowKit

set_option maxRecDepth 100000 in
set_option maxHeartbeats 400000 in
theorem specMirror_any (W H : Int) (a : Option Addr) (n c : Nat) (xs : List Int) (w : World) (h : Ints w a n c xs) :
    Calls Tryd.prog 33 #[.agg #[.int .i64 W, .int .i64 H, .slice a n c]] w (GridRes w (mirR W H xs).W (mirR W H xs).H (mirR W H xs).zs (goodB 20 W H xs)) := by
  have hn := h.cap
  have hc := h.room
  have HL := Lib.hid h.len
  cases hg : goodB 20 W H xs
  · have HF := Lib.hid (show mirR W H xs = ⟨0, 0, []⟩ by simp [mirR, hg])
    go_enter Tryd.func33, Tryd.ntmps33
    go_wp2_with (go_at_call 73; refine (l2Good_any W H a n c xs _ (by exact (h.alloc _).alloc _)).mono ?_; rintro e w' ⟨rfl, hb⟩; obtain ⟨k0, f0, l0⟩ := ((Row.new _ (w.heap.size) rfl _ _).alloc _).below hb; obtain ⟨k1, f1, l1⟩ := (Row.new _ (w.heap.size + 1) (by simp) _ _).below hb)
    rw [HF.out]
    refine bodyPost_ret (v := .tuple #[.agg #[.int .i64 0, .int .i64 0, .slice none 0 0], .bool false]) (by simp [results, Tryd.results33, go_sem, k1]) rfl ⟨none, 0, 0, rfl, own_nil _ _, ?_⟩
    (repeat' (first | exact Below.refl _ _ | with_reducible refine Below.setCell ?_ (by first | omega | (simp; done) | (simp; omega)) _ | with_reducible refine Below.alloc ?_ (by first | omega | (simp; done) | (simp; omega)) _ | with_reducible refine Below.drew ?_ | with_reducible refine bdrewN ?_ _ | with_reducible refine Below.trans ?_ (Below.mono hb (by first | omega | (simp; done) | (simp; omega)))))
  · obtain ⟨Wn, Hn, rfl, rfl, a1, a2, b1, b2, hlen, h25, hall⟩ := goodB_true hg
    have HF := Lib.hid (show mirR Wn Hn xs = ⟨Wn, Hn, mirL Wn xs⟩ by simp [mirR, hg])
    have HA := Lib.hid hall; clear hall
    have HN := Lib.hid hlen; clear hlen
    have hn25 : n ≤ 25 := by rw [← HL.out]; exact h25
    have HW := Lib.hid h.wf
    obtain ⟨i0, hi, hz0, hz1, hz2⟩ := info_parts Tryd.info3
    clear h25
    go_enter Tryd.func33, Tryd.ntmps33
    go_wp2_with (go_at_call 73; refine (l2Good_any _ _ a n c xs _ (by exact (h.alloc _).alloc _)).mono ?_; rintro e w' ⟨rfl, hb⟩; obtain ⟨k0, f0, l0⟩ := ((Row.new _ (w.heap.size) rfl _ _).alloc _).below hb; obtain ⟨k1, f1, l1⟩ := (Row.new _ (w.heap.size + 1) (by simp) _ _).below hb)
    have R0 : Row w' w.heap.size _ := ⟨k0, f0, l0⟩
    have R1 : Row w' (w.heap.size + 1) _ := ⟨k1, f1, l1⟩
    have hb' : Below w.heap.size w w' := by (repeat' (first | exact Below.refl _ _ | with_reducible refine Below.setCell ?_ (by first | omega | (simp; done) | (simp; omega)) _ | with_reducible refine Below.alloc ?_ (by first | omega | (simp; done) | (simp; omega)) _ | with_reducible refine Below.drew ?_ | with_reducible refine bdrewN ?_ _ | with_reducible refine Below.trans ?_ (Below.mono hb (by first | omega | (simp; done) | (simp; omega)))))
    clear hb k0 f0 k1 f1
    go_loopw [5] (fun i wr => ∃ k : Nat, k ≤ n ∧ i = .int .i64 k ∧ Row wr w.heap.size #[.int .i64 Wn, .int .i64 Hn, .slice a n c] ∧ Row wr (w.heap.size + 1) #[.int .i64 0, .int .i64 0, .slice none 0 0] ∧
        (∃ a' c', Row wr (w'.heap.size + 1) #[.int .i64 Wn, .int .i64 Hn, .slice a' k c'] ∧ wr.ownsRow w'.heap.size 3 1 (.slice a' k c') k (cellsI ((mirL Wn xs).take k)) ∧ ¬ blockOf a' (w'.heap.size + 1)) ∧ Below w.heap.size w wr ∧ w'.heap.size + 2 ≤ wr.heap.size)
      (fun i _ => n - (intOf i).toNat)
    case atStart =>
      refine ⟨0, Nat.zero_le _, rfl, (R0.alloc _).alloc _, (R1.alloc _).alloc _, ⟨some ⟨w'.heap.size, 0, none⟩, 0, Row.new _ _ (by simp) _ _, ?_, ?_⟩, by (repeat' (first | exact Below.refl _ _ | with_reducible refine Below.setCell ?_ (by first | omega | (simp; done) | (simp; omega)) _ | with_reducible refine Below.alloc ?_ (by first | omega | (simp; done) | (simp; omega)) _ | with_reducible refine Below.drew ?_ | with_reducible refine bdrewN ?_ _ | with_reducible refine Below.trans ?_ (Below.mono hb' (by first | omega | (simp; done) | (simp; omega))))), by simp⟩
      · exact (World.ownsRow_made w' #[] 0 (Nat.le_refl _) (Nat.zero_le _) rfl).alloc _
      · rintro ⟨ad, e, e2⟩
        simp at e
        subst e
        simp at e2
    case round =>
      obtain ⟨k, hk, rfl, ⟨k0, f0, m0⟩, hR1, ⟨a', c', ⟨k2, f2, m2⟩, hown, hnb⟩, hbr, hsz⟩ := hrel
      have HR1 := Lib.hid hR1; clear hR1
      by_cases hlt : k < n
      · obtain ⟨q, p, s, u, r, e1, e2, e3, e4, e5, e6, hq, hr, hp, hs, hu, hs1, hru⟩ := mir_steps (k := k) a1 a2 b2 (by rw [← HN.out, HL.out]; exact hlt)
        have hj : mirI Wn k < n := by rw [← HL.out, HN.out]; exact mirI_lt a1 (by rw [← HN.out, HL.out]; exact hlt)
        obtain ⟨j, hj'⟩ : ∃ j, mirI Wn k = j := ⟨_, rfl⟩
        rw [hj'] at e6 hj
        have HJ := Lib.hid hj'; clear hj' hq hr
        obtain ⟨b, off, rfl, hbb, hcell⟩ := (h.below hbr).at' _ hj
        have hck := hcell j hj
        clear hcell
        have hmem : I64 (xs.getD j 0) := HW.out _ (getD_mem (by rw [HL.out]; exact hj))
        obtain ⟨x, hx⟩ : ∃ x, xs.getD j 0 = x := ⟨_, rfl⟩
        rw [hx] at hck hmem
        have HX := Lib.hid hx; clear hx
        have HM := Lib.hid hmem; clear hmem
        have hW0 : ¬ Wn = 0 := by omega
        have j0 : (0 : Int) ≤ (j : Int) := by omega
        have j1 : (j : Int) < (n : Int) := by omega
        have R0 : Row wr w.heap.size _ := ⟨k0, f0, m0⟩
        have R2 : Row wr (w'.heap.size + 1) _ := ⟨k2, f2, m2⟩
        go_wp2
        have hS : (fun w1 : World => (∀ o, w1.cell? ⟨w.heap.size, o, none⟩ = (#[.int .i64 Wn, .int .i64 Hn, .slice (some ⟨b, off, none⟩) n c] : Array Value)[o]?) ∧ (∀ o, w1.cell? ⟨w'.heap.size + 1, o, none⟩ = (#[.int .i64 Wn, .int .i64 Hn, .slice a' k c'] : Array Value)[o]?) ∧ w1.cell? ⟨b, off + j, none⟩ = some (.int .i64 x)) wr.drew := ⟨R0.drew.cell, R2.drew.cell, hck⟩
        refine AtT.start (S := (fun w1 : World => (∀ o, w1.cell? ⟨w.heap.size, o, none⟩ = (#[.int .i64 Wn, .int .i64 Hn, .slice (some ⟨b, off, none⟩) n c] : Array Value)[o]?) ∧ (∀ o, w1.cell? ⟨w'.heap.size + 1, o, none⟩ = (#[.int .i64 Wn, .int .i64 Hn, .slice a' k c'] : Array Value)[o]?) ∧ w1.cell? ⟨b, off + j, none⟩ = some (.int .i64 x))) 25 (by kernel_rfl) ?_
        refine AtT.take (i := 0) (v := ?_) rfl (by kernel_rfl) (by kernel_rfl) (by kernel_rfl) (by kernel_rfl) (fun _ _ _ h => h) (Or.inl ⟨by kernel_rfl, ?_⟩) (by assumption) ?_
        rotate_left
        · (intro w hSw; (try dsimp only at hSw); go_simp; try with_reducible rfl)
        simp only [Act.put, List.setIfInBounds_toArray, List.set_cons_zero, List.set_cons_succ]
        refine AtT.take (i := 1) (v := ?_) rfl (by kernel_rfl) (by kernel_rfl) (by kernel_rfl) (by kernel_rfl) (fun _ _ _ h => h) (Or.inl ⟨by kernel_rfl, ?_⟩) (by assumption) ?_
        rotate_left
        · (intro w hSw; (try dsimp only at hSw); go_simp; try with_reducible rfl)
        simp only [Act.put, List.setIfInBounds_toArray, List.set_cons_zero, List.set_cons_succ]
        refine AtT.take (i := 2) (v := ?_) rfl (by kernel_rfl) (by kernel_rfl) (by kernel_rfl) (by kernel_rfl) (fun _ _ _ h => h) (Or.inl ⟨by kernel_rfl, ?_⟩) (by assumption) ?_
        rotate_left
        · (intro w hSw; (try dsimp only at hSw); go_simp; try with_reducible rfl)
        simp only [Act.put, List.setIfInBounds_toArray, List.set_cons_zero, List.set_cons_succ]
        refine AtT.take (i := 3) (v := ?_) rfl (by kernel_rfl) (by kernel_rfl) (by kernel_rfl) (by kernel_rfl) (fun _ _ _ h => h) (Or.inl ⟨by kernel_rfl, ?_⟩) (by assumption) ?_
        rotate_left
        · (intro w hSw; (try dsimp only at hSw); go_simp; try with_reducible rfl)
        simp only [Act.put, List.setIfInBounds_toArray, List.set_cons_zero, List.set_cons_succ]
        refine AtT.take (i := 4) (v := ?_) rfl (by kernel_rfl) (by kernel_rfl) (by kernel_rfl) (by kernel_rfl) (fun _ _ _ h => h) (Or.inl ⟨by kernel_rfl, ?_⟩) (by assumption) ?_
        rotate_left
        · (intro w hSw; (try dsimp only at hSw); go_simp; try with_reducible rfl)
        simp only [Act.put, List.setIfInBounds_toArray, List.set_cons_zero, List.set_cons_succ]
        refine AtT.take (i := 5) (v := ?_) rfl (by kernel_rfl) (by kernel_rfl) (by kernel_rfl) (by kernel_rfl) (fun _ _ _ h => h) (Or.inl ⟨by kernel_rfl, ?_⟩) (by assumption) ?_
        rotate_left
        · (intro w hSw; (try dsimp only at hSw); go_simp; try with_reducible rfl)
        simp only [Act.put, List.setIfInBounds_toArray, List.set_cons_zero, List.set_cons_succ]
        refine AtT.take (i := 6) (v := ?_) rfl (by kernel_rfl) (by kernel_rfl) (by kernel_rfl) (by kernel_rfl) (fun _ _ _ h => h) (Or.inl ⟨by kernel_rfl, ?_⟩) (by assumption) ?_
        rotate_left
        · (intro w hSw; (try dsimp only at hSw); go_simp; try with_reducible rfl)
        simp only [Act.put, List.setIfInBounds_toArray, List.set_cons_zero, List.set_cons_succ]
        refine AtT.take (i := 7) (v := ?_) rfl (by kernel_rfl) (by kernel_rfl) (by kernel_rfl) (by kernel_rfl) (fun _ _ _ h => h) (Or.inl ⟨by kernel_rfl, ?_⟩) (by assumption) ?_
        rotate_left
        · (intro w hSw; (try dsimp only at hSw); go_simp; try with_reducible rfl)
        simp only [Act.put, List.setIfInBounds_toArray, List.set_cons_zero, List.set_cons_succ]
        refine AtT.take (i := 8) (v := ?_) rfl (by kernel_rfl) (by kernel_rfl) (by kernel_rfl) (by kernel_rfl) (fun _ _ _ h => h) (Or.inl ⟨by kernel_rfl, ?_⟩) (by assumption) ?_
        rotate_left
        · (intro w hSw; (try dsimp only at hSw); go_simp; try with_reducible rfl)
        simp only [Act.put, List.setIfInBounds_toArray, List.set_cons_zero, List.set_cons_succ]
        refine AtT.take (i := 9) (v := ?_) rfl (by kernel_rfl) (by kernel_rfl) (by kernel_rfl) (by kernel_rfl) (fun _ _ _ h => h) (Or.inl ⟨by kernel_rfl, ?_⟩) (by assumption) ?_
        rotate_left
        · (intro w hSw; (try dsimp only at hSw); go_simp; try with_reducible rfl)
        simp only [Act.put, List.setIfInBounds_toArray, List.set_cons_zero, List.set_cons_succ]
        refine AtT.take (i := 10) (v := ?_) rfl (by kernel_rfl) (by kernel_rfl) (by kernel_rfl) (by kernel_rfl) (fun _ _ _ h => h) (Or.inl ⟨by kernel_rfl, ?_⟩) (by assumption) ?_
        rotate_left
        · (intro w hSw; (try dsimp only at hSw); go_simp; try with_reducible rfl)
        simp only [Act.put, List.setIfInBounds_toArray, List.set_cons_zero, List.set_cons_succ]
        refine AtT.take (i := 11) (v := ?_) rfl (by kernel_rfl) (by kernel_rfl) (by kernel_rfl) (by kernel_rfl) (fun _ _ _ h => h) (Or.inl ⟨by kernel_rfl, ?_⟩) (by assumption) ?_
        rotate_left
        · (intro w hSw; (try dsimp only at hSw); go_simp; try with_reducible rfl)
        simp only [Act.put, List.setIfInBounds_toArray, List.set_cons_zero, List.set_cons_succ]
        refine AtT.take (i := 12) (v := ?_) rfl (by kernel_rfl) (by kernel_rfl) (by kernel_rfl) (by kernel_rfl) (fun _ _ _ h => h) (Or.inl ⟨by kernel_rfl, ?_⟩) (by assumption) ?_
        rotate_left
        · (intro w hSw; (try dsimp only at hSw); go_simp; try with_reducible rfl)
        simp only [Act.put, List.setIfInBounds_toArray, List.set_cons_zero, List.set_cons_succ]
        refine AtT.take (i := 13) (v := ?_) rfl (by kernel_rfl) (by kernel_rfl) (by kernel_rfl) (by kernel_rfl) (fun _ _ _ h => h) (Or.inl ⟨by kernel_rfl, ?_⟩) (by assumption) ?_
        rotate_left
        · (intro w hSw; (try dsimp only at hSw); go_simp; try with_reducible rfl)
        simp only [Act.put, List.setIfInBounds_toArray, List.set_cons_zero, List.set_cons_succ]
        refine AtT.take (i := 14) (v := ?_) rfl (by kernel_rfl) (by kernel_rfl) (by kernel_rfl) (by kernel_rfl) (fun _ _ _ h => h) (Or.inl ⟨by kernel_rfl, ?_⟩) (by assumption) ?_
        rotate_left
        · (intro w hSw; (try dsimp only at hSw); go_simp; try with_reducible rfl)
        simp only [Act.put, List.setIfInBounds_toArray, List.set_cons_zero, List.set_cons_succ]
        refine AtT.take (i := 15) (v := ?_) rfl (by kernel_rfl) (by kernel_rfl) (by kernel_rfl) (by kernel_rfl) (fun _ _ _ h => h) (Or.inl ⟨by kernel_rfl, ?_⟩) (by assumption) ?_
        rotate_left
        · (intro w hSw; (try dsimp only at hSw); go_simp; try with_reducible rfl)
        simp only [Act.put, List.setIfInBounds_toArray, List.set_cons_zero, List.set_cons_succ]
        refine AtT.take (i := 16) (v := ?_) rfl (by kernel_rfl) (by kernel_rfl) (by kernel_rfl) (by kernel_rfl) (fun _ _ _ h => h) (Or.inl ⟨by kernel_rfl, ?_⟩) (by assumption) ?_
        rotate_left
        · (intro w hSw; (try dsimp only at hSw); go_simp; try with_reducible rfl)
        simp only [Act.put, List.setIfInBounds_toArray, List.set_cons_zero, List.set_cons_succ]
        refine AtT.take (i := 17) (v := ?_) rfl (by kernel_rfl) (by kernel_rfl) (by kernel_rfl) (by kernel_rfl) (fun _ _ _ h => h) (Or.inl ⟨by kernel_rfl, ?_⟩) (by assumption) ?_
        rotate_left
        · (intro w hSw; (try dsimp only at hSw); go_simp; try with_reducible rfl)
        simp only [Act.put, List.setIfInBounds_toArray, List.set_cons_zero, List.set_cons_succ]
        refine AtT.take (i := 18) (v := ?_) rfl (by kernel_rfl) (by kernel_rfl) (by kernel_rfl) (by kernel_rfl) (fun _ _ _ h => h) (Or.inl ⟨by kernel_rfl, ?_⟩) (by assumption) ?_
        rotate_left
        · (intro w hSw; (try dsimp only at hSw); go_simp; try with_reducible rfl)
        simp only [Act.put, List.setIfInBounds_toArray, List.set_cons_zero, List.set_cons_succ]
        refine AtT.take (i := 19) (v := ?_) rfl (by kernel_rfl) (by kernel_rfl) (by kernel_rfl) (by kernel_rfl) (fun _ _ _ h => h) (Or.inl ⟨by kernel_rfl, ?_⟩) (by assumption) ?_
        rotate_left
        · (intro w hSw; (try dsimp only at hSw); go_simp; try with_reducible rfl)
        simp only [Act.put, List.setIfInBounds_toArray, List.set_cons_zero, List.set_cons_succ]
        refine AtT.take (i := 20) (v := ?_) rfl (by kernel_rfl) (by kernel_rfl) (by kernel_rfl) (by kernel_rfl) (fun _ _ _ h => h) (Or.inl ⟨by kernel_rfl, ?_⟩) (by assumption) ?_
        rotate_left
        · (intro w hSw; (try dsimp only at hSw); go_simp; try with_reducible rfl)
        simp only [Act.put, List.setIfInBounds_toArray, List.set_cons_zero, List.set_cons_succ]
        refine AtT.take (i := 21) (v := ?_) rfl (by kernel_rfl) (by kernel_rfl) (by kernel_rfl) (by kernel_rfl) (fun _ _ _ h => h) (Or.inl ⟨by kernel_rfl, ?_⟩) (by assumption) ?_
        rotate_left
        · (intro w hSw; (try dsimp only at hSw); go_simp; try with_reducible rfl)
        simp only [Act.put, List.setIfInBounds_toArray, List.set_cons_zero, List.set_cons_succ]
        refine AtT.only (i := 22) (by kernel_rfl) rfl rfl ?_
        intro K hK
        go_simp
        have R0a := (R0.alloc (.cells #[.int .i64 x] 3)).drew
        have R2a := (R2.alloc (.cells #[.int .i64 x] 3)).drew
        have hca : (wr.alloc (.cells #[.int .i64 x] 3)).drew.cell? ⟨b, off + j, none⟩ = some (.int .i64 x) := keepCell (by (repeat' (first | exact Below.refl _ _ | with_reducible refine Below.setCell ?_ (by first | omega | (simp; done) | (simp; omega)) _ | with_reducible refine Below.alloc ?_ (by first | omega | (simp; done) | (simp; omega)) _ | with_reducible refine Below.drew ?_ | with_reducible refine bdrewN ?_ _))) hck
        have hba : Below w.heap.size w (wr.alloc (.cells #[.int .i64 x] 3)).drew := by (repeat' (first | exact Below.refl _ _ | with_reducible refine Below.setCell ?_ (by first | omega | (simp; done) | (simp; omega)) _ | with_reducible refine Below.alloc ?_ (by first | omega | (simp; done) | (simp; omega)) _ | with_reducible refine Below.drew ?_ | with_reducible refine bdrewN ?_ _ | with_reducible refine Below.trans ?_ (Below.mono hbr (by first | omega | (simp; done) | (simp; omega)))))
        refine hK.out _ _ ⟨R0a.cell, R2a.cell, hca⟩ ?_
        refine AtT.only (i := 23) (by kernel_rfl) rfl rfl ?_
        intro K1 hK1
        refine step_appendI rfl (.tmp 24) (.tmp 45) 26 rfl 3 i0 Tryd.underlying26 hi hz0 hz1 hz2 w'.heap.size a' k c' _ rfl (hown.alloc _).drew (some ⟨wr.heap.size, 0, none⟩) 1 1 [x] rfl (Ints.one wr x _ HM.out).drew (by omega) (by first | omega | (simp; done) | (simp; omega)) ?_
        intro a2 c2 w2 hown2 hg2 hat2
        have hrow : ∀ g, Value.ownBlock (.slice a' k c') = some g → w'.heap.size ≤ g := fun g e => (hown.lt g e).1
        have R0b := R0a.grown hg2 (fun e => by have := hrow _ e; omega)
        have R1b := ((HR1.out.alloc (.cells #[.int .i64 x] 3)).drew).grown hg2 (fun e => by have := hrow _ e; omega)
        have R2b := R2a.grown hg2 (fun e => hnb (ownBlock_blockOf e))
        have hcb := hg2.cell hca (fun e => by have h1 : w'.heap.size ≤ b := hrow _ e.symm; have := h.lt (by omega); omega)
        have hbb2 : Below w.heap.size w w2 := hba.grown hg2 (by first | omega | (simp; done) | (simp; omega)) (fun g e => by have := hrow _ e; omega)
        have hsz2 := hg2.size
        have hnb2 : ¬ blockOf a2 (w'.heap.size + 1) := fun e => by
          rcases hat2 _ e with e1 | e1
          · exact hnb e1
          · simp at e1
            omega
        refine hK1.out _ _ ⟨R0b.cell, R2b.cell, hcb⟩ ?_
        have hS2 : (fun w1 : World => (∀ o, w1.cell? ⟨w.heap.size, o, none⟩ = (#[.int .i64 Wn, .int .i64 Hn, .slice (some ⟨b, off, none⟩) n c] : Array Value)[o]?) ∧ (∀ o, w1.cell? ⟨w'.heap.size + 1, o, none⟩ = (#[.int .i64 Wn, .int .i64 Hn, .slice a' k c'] : Array Value)[o]?) ∧ w1.cell? ⟨b, off + j, none⟩ = some (.int .i64 x)) w2 := ⟨R0b.cell, R2b.cell, hcb⟩
        refine AtT.take (i := 24) (v := ?_) rfl (by kernel_rfl) (by kernel_rfl) (by kernel_rfl) (by kernel_rfl) (fun _ _ _ h => h) (Or.inl ⟨by kernel_rfl, ?_⟩) (by assumption) ?_
        rotate_left
        · (intro w hSw; (try dsimp only at hSw); go_simp; try with_reducible rfl)
        simp only [Act.put, List.setIfInBounds_toArray, List.set_cons_zero, List.set_cons_succ]
        refine AtT.last (by kernel_rfl) rfl (by kernel_rfl) ?_
        intro K2 hK2
        have R2b' := R2b
        obtain ⟨k3, f3, m3⟩ := R2b
        go_simp
        refine hK2.out _ _ ?_
        go_wp2
        go_roundw
        case rel =>
          refine ⟨k + 1, by omega, by go_num, R0b.far _ _ (by first | omega | (simp; done) | (simp; omega)), R1b.far _ _ (by first | omega | (simp; done) | (simp; omega)), ⟨a2, c2, ?_, ?_, hnb2⟩, by (repeat' (first | exact Below.refl _ _ | with_reducible refine Below.setCell ?_ (by first | omega | (simp; done) | (simp; omega)) _ | with_reducible refine Below.alloc ?_ (by first | omega | (simp; done) | (simp; omega)) _ | with_reducible refine Below.drew ?_ | with_reducible refine bdrewN ?_ _ | with_reducible refine Below.trans ?_ (Below.mono hbb2 (by first | omega | (simp; done) | (simp; omega))))), (by first | omega | (simp; done) | (simp; omega))⟩
          · exact R2b'.set 2 (.slice a2 (k + 1) c2) (by simp)
          · rw [mirL_take_succ (by rw [HL.out]; exact hlt), HJ.out, HX.out]
            exact ownsRow_far hown2 hnb2
        case measure => simp [intOf]; omega
      · have HO : Own w'.heap.size wr a' k c' (mirL Wn xs) := by
          obtain rfl : k = n := by omega
          rw [List.take_of_length_le (by rw [mirL_length, HL.out]; exact Nat.le_refl _)] at hown
          exact ⟨by rw [mirL_length]; exact HL.out, hc, mirL_wf HW.out, hown⟩
        obtain ⟨k1, f1, m1⟩ := HR1.out
        go_wp2
        rw [HF.out]
        refine bodyPost_ret (v := .tuple #[.agg #[.int .i64 Wn, .int .i64 Hn, .slice a' k c'], .bool true]) (by simp [results, Tryd.results33, go_sem, k1]) rfl ⟨a', k, c', rfl, ?_, ?_⟩
        · ((repeat with_reducible refine Own.setCell_far ?_ (HO.apart (by first | omega | (simp; done) | (simp; omega))) _); exact HO.mono (by first | omega | (simp; done) | (simp; omega)))
        · (repeat' (first | exact Below.refl _ _ | with_reducible refine Below.setCell ?_ (by first | omega | (simp; done) | (simp; omega)) _ | with_reducible refine Below.alloc ?_ (by first | omega | (simp; done) | (simp; omega)) _ | with_reducible refine Below.drew ?_ | with_reducible refine bdrewN ?_ _ | with_reducible refine Below.trans ?_ (Below.mono hbr (by first | omega | (simp; done) | (simp; omega)))))
end Go.Proofs.YtpoabdmapbdmfaaDoor
