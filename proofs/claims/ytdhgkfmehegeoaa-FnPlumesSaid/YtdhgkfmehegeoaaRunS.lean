import Derived.Test.YtdhgkfmehegeoaaRun
import Derived.Test.YtdhgkfmehegeoaaRd
import Derived.Deep.DeepCutAuto
namespace Go.Proofs.Ytdhgkfmehegeoaa
set_option linter.unusedSimpArgs false
set_option linter.unusedVariables false
open Go.RowKit

theorem runF_step_bad {Wn Hn : Nat} {ys zs : List Int} {v : WindI} {r : List WindI} {Wr Hr lt tt : Int} (hg : goodB 10000 Wn Hn ys = true) (hb : blowR Wn Hn ys v.e v.s v.q = ⟨⟨Wr, Hr, zs⟩, lt, false⟩) : runF Wn Hn ys tt (v :: r) = none := by
  unfold blowR at hb
  rw [runF, if_neg]
  intro h
  rw [hg, Bool.true_and, Int.toNat_natCast, Int.toNat_natCast] at hb
  rw [if_pos (show (windB v.e v.s v.q && goodB 10000 Wn Hn (blowK Wn Hn v.e v.s v.q ys ys.length)) = true from h)] at hb
  simp at hb
theorem runF_step_ok {Wn Hn : Nat} {ys zs : List Int} {v : WindI} {r : List WindI} {Wr Hr lt tt : Int} (hg : goodB 10000 Wn Hn ys = true) (hb : blowR Wn Hn ys v.e v.s v.q = ⟨⟨Wr, Hr, zs⟩, lt, true⟩) :
    Wr = Wn ∧ Hr = Hn ∧ goodB 10000 Wn Hn zs = true ∧ 0 ≤ lt ∧ lt ≤ 250000 ∧ runF Wn Hn ys tt (v :: r) = runF Wn Hn zs (tt + lt) r := by
  unfold blowR at hb
  rw [hg, Bool.true_and, Int.toNat_natCast, Int.toNat_natCast] at hb
  split at hb
  · rename_i h
    simp only [Grid3.mk.injEq, Grid.mk.injEq, and_true] at hb
    obtain ⟨⟨rfl, rfl, rfl⟩, rfl⟩ := hb
    rw [Bool.and_eq_true] at h
    obtain ⟨_, _, hq⟩ := windB_true h.1
    obtain ⟨Wn', Hn', e1, e2, _, _, _, _, hl, h25, hall⟩ := goodB_true hg
    have hlb := leftK_bound (W := Wn) (H := Hn) (e := v.e) (s := v.s) hq hall ys.length (Nat.le_refl _)
    refine ⟨rfl, rfl, h.2, by omega, by omega, ?_⟩
    rw [runF, if_pos (show (v.ok && goodB 10000 Wn Hn (blowK Wn Hn v.e v.s v.q ys ys.length)) = true by rw [h.2, Bool.and_true]; exact h.1)]
  · simp at hb
def runM (W H : Nat) : Option (List Int × Int) → Grid3
  | some r => ⟨⟨W, H, r.1⟩, r.2, true⟩
  | none => ⟨⟨0, 0, []⟩, 0, false⟩
theorem runR_eq {Wn Hn : Nat} {xs : List Int} {ws : List WindI} (hg : goodB 10000 Wn Hn xs = true) (hl : ws.length ≤ 10) : runR Wn Hn xs ws = runM Wn Hn (runF Wn Hn xs 0 ws) := by
  unfold runR
  rw [if_pos (by simp [hg, hl]), Int.toNat_natCast, Int.toNat_natCast]
  cases runF Wn Hn xs 0 ws <;> rfl
theorem goodB_length {m : Int} {Wn Hn : Nat} {zs : List Int} (h : goodB m Wn Hn zs = true) : zs.length = Wn * Hn := by
  obtain ⟨a, b, e1, e2, _, _, _, _, hl, _⟩ := goodB_true h
  rw [hl, show a = Wn by omega, show b = Hn by omega]

set_option maxRecDepth 100000 in
set_option maxHeartbeats 4000000 in
theorem specRun_any (W H : Int) (a : Option Addr) (n c : Nat) (xs : List Int) (a' : Option Addr) (n' c' : Nat) (ws : List WindI) (w : World) (h : Ints w a n c xs) (h' : Winds w a' n' c' ws) :
    Calls Try.prog 10 #[.agg #[.int .i64 W, .int .i64 H, .slice a n c], .slice a' n' c'] w (Grid3Res w (runR W H xs ws).g.W (runR W H xs ws).g.H (runR W H xs ws).g.zs (runR W H xs ws).t (runR W H xs ws).ok) := by
  have hn := h.cap
  have hc := h.room
  have HL := Lib.hid h.len
  have hn' := h'.cap
  have hc' := h'.room
  have HL' := Lib.hid h'.len
  have hM := Mem.start w
  cases hg : goodB 10000 W H xs
  · have HF := Lib.hid (show runR W H xs ws = ⟨⟨0, 0, []⟩, 0, false⟩ by simp [runR, hg])
    go_enter Try.func10, Try.ntmps10
    go_wp2_with fail
    apply Mem.at
    · (repeat' (first | with_reducible exact hM | with_reducible exact hMp | with_reducible apply Mem.drew | with_reducible apply Mem.drewN | with_reducible apply Mem.alloc | with_reducible apply Mem.set | with_reducible exact Sto.row | ((with_reducible refine Sto.rowEq2 ?_ ?_); omega; rfl) | ((with_reducible refine Sto.rowEq ?_); omega) | with_reducible apply Sto.int | with_reducible apply Sto.there | with_reducible assumption | (unfold I64; omega) | (with_reducible (have hMx := Mem.undrew hM; exact hMx)) | (with_reducible (have hMx := Mem.undrew hMp; exact hMx))))
    clear hM
    intro hM
    (try simp only [World.size_alloc, World.size_setCell, World.heap_drewN, heapDrew, Nat.add_assoc, Nat.reduceAdd, List.setIfInBounds_toArray, List.set_cons_zero, List.set_cons_succ, List.cons_append, List.nil_append] at hM)
    refine (l19Good_any W H a n c xs _ (h.ext hM.below)).mono ?_
    rw [hg]
    rintro e w1 ⟨rfl, hb⟩
    replace hM := hM.ext hb
    clear hb
    obtain ⟨k1, f1, l1⟩ := hM.row .here
    go_wp2
    rw [HF.out]
    exact bodyPost_ret (v := .tuple #[.agg #[.int .i64 0, .int .i64 0, .slice none 0 0], .int .i64 0, .bool false]) (by simp [results, Try.results10, go_sem, k1]) rfl ⟨none, 0, 0, rfl, own_nil _ _, (by apply Mem.below; (repeat' (first | with_reducible exact hM | with_reducible exact hMp | with_reducible apply Mem.drew | with_reducible apply Mem.drewN | with_reducible apply Mem.alloc | with_reducible apply Mem.set | with_reducible exact Sto.row | ((with_reducible refine Sto.rowEq2 ?_ ?_); omega; rfl) | ((with_reducible refine Sto.rowEq ?_); omega) | with_reducible apply Sto.int | with_reducible apply Sto.there | with_reducible assumption | (unfold I64; omega) | (with_reducible (have hMx := Mem.undrew hM; exact hMx)) | (with_reducible (have hMx := Mem.undrew hMp; exact hMx)))))⟩
  by_cases h10 : 10 < n'
  · have HF := Lib.hid (show runR W H xs ws = ⟨⟨0, 0, []⟩, 0, false⟩ by
      have : ¬ ws.length ≤ 10 := by rw [HL'.out]; omega
      simp [runR, this])
    go_enter Try.func10, Try.ntmps10
    go_wp2_with fail
    apply Mem.at
    · (repeat' (first | with_reducible exact hM | with_reducible exact hMp | with_reducible apply Mem.drew | with_reducible apply Mem.drewN | with_reducible apply Mem.alloc | with_reducible apply Mem.set | with_reducible exact Sto.row | ((with_reducible refine Sto.rowEq2 ?_ ?_); omega; rfl) | ((with_reducible refine Sto.rowEq ?_); omega) | with_reducible apply Sto.int | with_reducible apply Sto.there | with_reducible assumption | (unfold I64; omega) | (with_reducible (have hMx := Mem.undrew hM; exact hMx)) | (with_reducible (have hMx := Mem.undrew hMp; exact hMx))))
    clear hM
    intro hM
    (try simp only [World.size_alloc, World.size_setCell, World.heap_drewN, heapDrew, Nat.add_assoc, Nat.reduceAdd, List.setIfInBounds_toArray, List.set_cons_zero, List.set_cons_succ, List.cons_append, List.nil_append] at hM)
    refine (l19Good_any W H a n c xs _ (h.ext hM.below)).mono ?_
    rw [hg]
    rintro e w1 ⟨rfl, hb⟩
    replace hM := hM.ext hb
    clear hb
    obtain ⟨k1, f1, l1⟩ := hM.row .here
    go_wp2
    rw [HF.out]
    exact bodyPost_ret (v := .tuple #[.agg #[.int .i64 0, .int .i64 0, .slice none 0 0], .int .i64 0, .bool false]) (by simp [results, Try.results10, go_sem, k1]) rfl ⟨none, 0, 0, rfl, own_nil _ _, (by apply Mem.below; (repeat' (first | with_reducible exact hM | with_reducible exact hMp | with_reducible apply Mem.drew | with_reducible apply Mem.drewN | with_reducible apply Mem.alloc | with_reducible apply Mem.set | with_reducible exact Sto.row | ((with_reducible refine Sto.rowEq2 ?_ ?_); omega; rfl) | ((with_reducible refine Sto.rowEq ?_); omega) | with_reducible apply Sto.int | with_reducible apply Sto.there | with_reducible assumption | (unfold I64; omega) | (with_reducible (have hMx := Mem.undrew hM; exact hMx)) | (with_reducible (have hMx := Mem.undrew hMp; exact hMx)))))⟩
  obtain ⟨Wn, Hn, rfl, rfl, a1, a2, b1, b2, hlen, h25, hall⟩ := goodB_true hg
  have hnp : 0 < n := by rw [← HL.out, hlen]; exact Nat.mul_pos a1 b1
  have HF := Lib.hid (runR_eq hg (show ws.length ≤ 10 by rw [HL'.out]; omega))
  have HG := Lib.hid hg
  have HWH := Lib.hid (show n = Wn * Hn by rw [← HL.out, hlen])
  clear h25 hlen hall hg
  go_enter Try.func10, Try.ntmps10
  go_wp2_with fail
  apply Mem.at
  · (repeat' (first | with_reducible exact hM | with_reducible exact hMp | with_reducible apply Mem.drew | with_reducible apply Mem.drewN | with_reducible apply Mem.alloc | with_reducible apply Mem.set | with_reducible exact Sto.row | ((with_reducible refine Sto.rowEq2 ?_ ?_); omega; rfl) | ((with_reducible refine Sto.rowEq ?_); omega) | with_reducible apply Sto.int | with_reducible apply Sto.there | with_reducible assumption | (unfold I64; omega) | (with_reducible (have hMx := Mem.undrew hM; exact hMx)) | (with_reducible (have hMx := Mem.undrew hMp; exact hMx))))
  clear hM
  intro hM
  (try simp only [World.size_alloc, World.size_setCell, World.heap_drewN, heapDrew, Nat.add_assoc, Nat.reduceAdd, List.setIfInBounds_toArray, List.set_cons_zero, List.set_cons_succ, List.cons_append, List.nil_append] at hM)
  refine (l19Good_any _ _ a n c xs _ (h.ext hM.below)).mono ?_
  rw [HG.out]
  rintro e w1 ⟨rfl, hb⟩
  replace hM := hM.ext hb
  clear hb
  go_wp2_with fail
  go_cut [7] (fun s7 wx => ∃ b a2 c2, s7 = .pointer (some ⟨b, 0, none⟩) ∧ Mem w.heap.size w wx [rowE b 26 #[.int .i64 Wn, .int .i64 Hn, .slice a2 n c2], intE a2 n c2 xs, rowE (w.heap.size + 1) 26 #[.int .i64 0, .int .i64 0, .slice none 0 0]])
  case first =>
    refine AtT.startA hM hM 9 (by kernel_rfl) ?_
    clear hM
    intro wd hM
    have hS := hM
    refine AtT.taked (i := 0) (v := ?_) (some 22) rfl rfl (by kernel_rfl) (by kernel_rfl) (by kernel_rfl) (by kernel_rfl) (fun _ _ _ h => h) (Or.inl ⟨by kernel_rfl, ?_⟩) hS ?_
    rotate_left
    · (intro wS hSw; (try dsimp only at hSw); go_simp; (try rw [if_neg (by omega)]); try with_reducible rfl)
    simp only [Act.put, List.setIfInBounds_toArray, List.set_cons_zero, List.set_cons_succ]
    refine AtT.taked (i := 1) (v := ?_) (some 23) rfl rfl (by kernel_rfl) (by kernel_rfl) (by kernel_rfl) (by kernel_rfl) (fun _ _ _ h => h) (Or.inl ⟨by kernel_rfl, ?_⟩) hS ?_
    rotate_left
    · (intro wS hSw; (try dsimp only at hSw); have kr0 := (Mem.row hSw (.there .here)).cell; go_simp; (try rw [if_neg (by omega)]); try with_reducible rfl)
    simp only [Act.put, List.setIfInBounds_toArray, List.set_cons_zero, List.set_cons_succ]
    refine AtT.taked (i := 2) (v := ?_) (some 24) rfl rfl (by kernel_rfl) (by kernel_rfl) (by kernel_rfl) (by kernel_rfl) (fun _ _ _ h => h) (Or.inl ⟨by kernel_rfl, ?_⟩) hS ?_
    rotate_left
    · (intro wS hSw; (try dsimp only at hSw); go_simp; (try rw [if_neg (by omega)]); try with_reducible rfl)
    simp only [Act.put, List.setIfInBounds_toArray, List.set_cons_zero, List.set_cons_succ]
    refine AtT.taked (i := 3) (v := ?_) (some 25) rfl rfl (by kernel_rfl) (by kernel_rfl) (by kernel_rfl) (by kernel_rfl) (fun _ _ _ h => h) (Or.inl ⟨by kernel_rfl, ?_⟩) hS ?_
    rotate_left
    · (intro wS hSw; (try dsimp only at hSw); have kr0 := (Mem.row hSw (.there .here)).cell; go_simp; (try rw [if_neg (by omega)]); try with_reducible rfl)
    simp only [Act.put, List.setIfInBounds_toArray, List.set_cons_zero, List.set_cons_succ]
    refine AtT.taked (i := 4) (v := ?_) (some 26) rfl rfl (by kernel_rfl) (by kernel_rfl) (by kernel_rfl) (by kernel_rfl) (fun _ _ _ h => h) (Or.inl ⟨by kernel_rfl, ?_⟩) hS ?_
    rotate_left
    · (intro wS hSw; (try dsimp only at hSw); go_simp; (try rw [if_neg (by omega)]); try with_reducible rfl)
    simp only [Act.put, List.setIfInBounds_toArray, List.set_cons_zero, List.set_cons_succ]
    refine AtT.taked (i := 5) (v := ?_) (some 27) rfl rfl (by kernel_rfl) (by kernel_rfl) (by kernel_rfl) (by kernel_rfl) (fun _ _ _ h => h) (Or.inl ⟨by kernel_rfl, ?_⟩) hS ?_
    rotate_left
    · (intro wS hSw; (try dsimp only at hSw); have kr0 := (Mem.row hSw (.there .here)).cell; go_simp; (try rw [if_neg (by omega)]); try with_reducible rfl)
    simp only [Act.put, List.setIfInBounds_toArray, List.set_cons_zero, List.set_cons_succ]
    refine AtT.two (i := 6) (j := 8) (by kernel_rfl) rfl rfl rfl rfl ?_ ?_
    · skip
      intro K hK
      go_simp
      refine (l1Own_any a n c xs _ (h.ext hM.below)).mono ?_
      rintro e w2 ⟨a2, c2, rfl, hO, hb⟩
      replace hM := hM.own hb hO
      clear hb hO
      try dsimp only
      refine hK.out _ _ (hM.tail) ?_
      clear hK K hS
      have hS := hM.tail
      refine AtT.taked (i := 7) (v := ?_) (some 29) rfl rfl (by kernel_rfl) (by kernel_rfl) (by kernel_rfl) (by kernel_rfl) (fun _ _ _ h => h) (Or.inl ⟨by kernel_rfl, ?_⟩) hS ?_
      rotate_left
      · (intro wS hSw; (try dsimp only at hSw); go_simp; (try rw [if_neg (by omega)]); try with_reducible rfl)
      simp only [Act.put, List.setIfInBounds_toArray, List.set_cons_zero, List.set_cons_succ]
      refine AtT.only (i := 8) (by kernel_rfl) rfl rfl ?_
      intro K hK
      go_simp
      refine hK.out _ _ (by apply Mem.tail; apply Mem.tail; (repeat' (first | with_reducible exact hM | with_reducible exact hMp | with_reducible apply Mem.drew | with_reducible apply Mem.drewN | with_reducible apply Mem.alloc | with_reducible apply Mem.set | with_reducible exact Sto.row | ((with_reducible refine Sto.rowEq2 ?_ ?_); omega; rfl) | ((with_reducible refine Sto.rowEq ?_); omega) | with_reducible apply Sto.int | with_reducible apply Sto.there | with_reducible assumption | (unfold I64; omega) | (with_reducible (have hMx := Mem.undrew hM; exact hMx)) | (with_reducible (have hMx := Mem.undrew hMp; exact hMx))))) ?_
      clear hK K hS
      have hMp := hM
      apply Mem.atT
      · (repeat' (first | with_reducible exact hM | with_reducible exact hMp | with_reducible apply Mem.drew | with_reducible apply Mem.drewN | with_reducible apply Mem.alloc | with_reducible apply Mem.set | with_reducible exact Sto.row | ((with_reducible refine Sto.rowEq2 ?_ ?_); omega; rfl) | ((with_reducible refine Sto.rowEq ?_); omega) | with_reducible apply Sto.int | with_reducible apply Sto.there | with_reducible assumption | (unfold I64; omega) | (with_reducible (have hMx := Mem.undrew hM; exact hMx)) | (with_reducible (have hMx := Mem.undrew hMp; exact hMx))))
      clear hM
      intro hM
      (try simp only [World.size_alloc, World.size_setCell, World.heap_drewN, heapDrew, Nat.add_assoc, Nat.reduceAdd, List.setIfInBounds_toArray, List.set_cons_zero, List.set_cons_succ, List.cons_append, List.nil_append] at hM)
      have hS := hM.tail.tail
      refine AtT.last (by kernel_rfl) rfl (by kernel_rfl) ?_
      intro K hK
      clear hS
      have kk0 := (hM.row .here).cell
      have ff0 := (hM.row .here).free
      have ll0 := (hM.row .here).lt
      have kk3 := (hM.row (.there (.there (.there .here)))).cell
      have ff3 := (hM.row (.there (.there (.there .here)))).free
      have ll3 := (hM.row (.there (.there (.there .here)))).lt
      go_simp
      clear kk0 ff0 ll0 kk3 ff3 ll3
      refine hK.out _ _ ?_
      clear hK K
      go_wp2_with fail
      go_meet
      refine ⟨_, a2, c2, rfl, ?_⟩
      apply Mem.pick (is := [0, 1, 2])
      · (repeat' (first | with_reducible exact hM | with_reducible exact hMp | with_reducible apply Mem.drew | with_reducible apply Mem.drewN | with_reducible apply Mem.alloc | with_reducible apply Mem.set | with_reducible exact Sto.row | ((with_reducible refine Sto.rowEq2 ?_ ?_); omega; rfl) | ((with_reducible refine Sto.rowEq ?_); omega) | with_reducible apply Sto.int | with_reducible apply Sto.there | with_reducible assumption | (unfold I64; omega) | (with_reducible (have hMx := Mem.undrew hM; exact hMx)) | (with_reducible (have hMx := Mem.undrew hMp; exact hMx))))
      · decide
      · rfl
    · skip
      intro K hK
      go_simp
      refine hK.out _ _ (by apply Mem.tail; (repeat' (first | with_reducible exact hM | with_reducible exact hMp | with_reducible apply Mem.drew | with_reducible apply Mem.drewN | with_reducible apply Mem.alloc | with_reducible apply Mem.set | with_reducible exact Sto.row | ((with_reducible refine Sto.rowEq2 ?_ ?_); omega; rfl) | ((with_reducible refine Sto.rowEq ?_); omega) | with_reducible apply Sto.int | with_reducible apply Sto.there | with_reducible assumption | (unfold I64; omega) | (with_reducible (have hMx := Mem.undrew hM; exact hMx)) | (with_reducible (have hMx := Mem.undrew hMp; exact hMx))))) ?_
      clear hK K hS
      have hMp := hM
      apply Mem.atT
      · (repeat' (first | with_reducible exact hM | with_reducible exact hMp | with_reducible apply Mem.drew | with_reducible apply Mem.drewN | with_reducible apply Mem.alloc | with_reducible apply Mem.set | with_reducible exact Sto.row | ((with_reducible refine Sto.rowEq2 ?_ ?_); omega; rfl) | ((with_reducible refine Sto.rowEq ?_); omega) | with_reducible apply Sto.int | with_reducible apply Sto.there | with_reducible assumption | (unfold I64; omega) | (with_reducible (have hMx := Mem.undrew hM; exact hMx)) | (with_reducible (have hMx := Mem.undrew hMp; exact hMx))))
      clear hM
      intro hM
      (try simp only [World.size_alloc, World.size_setCell, World.heap_drewN, heapDrew, Nat.add_assoc, Nat.reduceAdd, List.setIfInBounds_toArray, List.set_cons_zero, List.set_cons_succ, List.cons_append, List.nil_append] at hM)
      have hS := hM.tail
      refine AtT.only (i := 6) (by kernel_rfl) rfl rfl ?_
      intro K hK
      go_simp
      refine (l1Own_any a n c xs _ (h.ext hM.below)).mono ?_
      rintro e w2 ⟨a2, c2, rfl, hO, hb⟩
      replace hM := hM.own hb hO
      clear hb hO
      try dsimp only
      refine hK.out _ _ (hM.tail.tail) ?_
      clear hK K hS
      have hS := hM.tail.tail
      refine AtT.taked (i := 7) (v := ?_) (some 29) rfl rfl (by kernel_rfl) (by kernel_rfl) (by kernel_rfl) (by kernel_rfl) (fun _ _ _ h => h) (Or.inl ⟨by kernel_rfl, ?_⟩) hS ?_
      rotate_left
      · (intro wS hSw; (try dsimp only at hSw); go_simp; (try rw [if_neg (by omega)]); try with_reducible rfl)
      simp only [Act.put, List.setIfInBounds_toArray, List.set_cons_zero, List.set_cons_succ]
      refine AtT.last (by kernel_rfl) rfl (by kernel_rfl) ?_
      intro K hK
      clear hS
      have kk1 := (hM.row (.there .here)).cell
      have ff1 := (hM.row (.there .here)).free
      have ll1 := (hM.row (.there .here)).lt
      have kk3 := (hM.row (.there (.there (.there .here)))).cell
      have ff3 := (hM.row (.there (.there (.there .here)))).free
      have ll3 := (hM.row (.there (.there (.there .here)))).lt
      go_simp
      clear kk1 ff1 ll1 kk3 ff3 ll3
      refine hK.out _ _ ?_
      clear hK K
      go_wp2_with fail
      go_meet
      refine ⟨_, a2, c2, rfl, ?_⟩
      apply Mem.pick (is := [1, 0, 2])
      · (repeat' (first | with_reducible exact hM | with_reducible exact hMp | with_reducible apply Mem.drew | with_reducible apply Mem.drewN | with_reducible apply Mem.alloc | with_reducible apply Mem.set | with_reducible exact Sto.row | ((with_reducible refine Sto.rowEq2 ?_ ?_); omega; rfl) | ((with_reducible refine Sto.rowEq ?_); omega) | with_reducible apply Sto.int | with_reducible apply Sto.there | with_reducible assumption | (unfold I64; omega) | (with_reducible (have hMx := Mem.undrew hM; exact hMx)) | (with_reducible (have hMx := Mem.undrew hMp; exact hMx))))
      · decide
      · rfl
  case rest =>
    clear hM
    obtain ⟨b, a2, c2, rfl, hM⟩ := hcut
    go_wp2
    go_loopw [8, 9] (fun t i wr => ∃ (k : Nat) (ys : List Int) (tt : Int) (g' : Option Addr) (cc : Nat), k ≤ n' ∧ i = .int .i64 k ∧ t = .int .i64 tt ∧ 0 ≤ tt ∧ tt ≤ 250000 * k ∧ goodB 10000 Wn Hn ys = true ∧ runF Wn Hn xs 0 ws = runF Wn Hn ys tt (ws.drop k) ∧
        Mem w.heap.size w wr [rowE b 26 #[.int .i64 Wn, .int .i64 Hn, .slice g' n cc], intE g' n cc ys, rowE (w.heap.size + 1) 26 #[.int .i64 0, .int .i64 0, .slice none 0 0]])
      (fun _ i _ => n' - (intOf i).toNat)
    case atStart => exact ⟨0, xs, 0, a2, c2, Nat.zero_le _, rfl, rfl, by omega, by omega, HG.out, rfl, hM⟩
    case round =>
      clear hM
      obtain ⟨k, ys, tt, g', cc, hk, rfl, rfl, t0, t1, hgy, hrun, hM⟩ := hrel
      have HR := Lib.hid hrun; clear hrun
      by_cases hlt : k < n'
      · obtain ⟨bw, off, rfl, hbw, hcell⟩ := (h'.below hM.below).at' _ hlt
        obtain ⟨c0, c1, c3⟩ := hcell k hlt
        clear hcell
        have hkl : k < ws.length := by rw [HL'.out]; exact hlt
        have hdr := drop_at hkl
        obtain ⟨v, hv⟩ : ∃ v, ws.getD k zW = v := ⟨_, rfl⟩
        rw [hv] at c0 c1 c3 hdr
        have HD := Lib.hid hdr
        clear hv hdr hkl
        have HCW : Hid (∀ w1 : World, Mem w.heap.size w w1 [rowE b 26 #[.int .i64 Wn, .int .i64 Hn, .slice g' n cc], intE g' n cc ys, rowE (w.heap.size + 1) 26 #[.int .i64 0, .int .i64 0, .slice none 0 0]] → w1.cell? ⟨bw, off + k * 3, none⟩ = some (.int .i64 v.e) ∧ w1.cell? ⟨bw, off + k * 3 + 1, none⟩ = some (.int .i64 v.s) ∧ w1.cell? ⟨bw, off + k * 3 + 2, none⟩ = some (.int .i64 v.q)) := by
          intro w1 hM1
          have hlw : bw < w.heap.size := by
            obtain ⟨b0, o0, e0, hl0, _⟩ := h'.at' _ hlt
            simp only [Option.some.injEq, Addr.mk.injEq] at e0
            rw [e0.1]; exact hl0
          have e1 : ∀ o, w1.cell? ⟨bw, o, none⟩ = wr.cell? ⟨bw, o, none⟩ := fun o => by
            rw [hM1.below.cell (p := ⟨bw, o, none⟩) hlw, hM.below.cell (p := ⟨bw, o, none⟩) hlw]
          exact ⟨by rw [e1]; exact c0, by rw [e1]; exact c1, by rw [e1]; exact c3⟩
        clear c0 c1 c3
        have i0 : (0 : Int) ≤ (k : Int) := by omega
        have i1 : (k : Int) < (n' : Int) := by omega
        obtain ⟨⟨⟨Wr, Hr, zs⟩, lt, ok⟩, hbr⟩ : ∃ r, blowR Wn Hn ys v.e v.s v.q = r := ⟨_, rfl⟩
        have HBR := Lib.hid hbr; clear hbr
        have hw8 := hM
        go_wp2_with fail
        go_cut [10, 11, 12] (fun s10 s11 s12 wx => ∃ b2 a3 n3 c3, s10 = .pointer (some ⟨b2, 0, none⟩) ∧ s11 = .int .i64 lt ∧ s12 = .bool ok ∧ Mem w.heap.size w wx [rowE b2 26 #[.int .i64 Wr, .int .i64 Hr, .slice a3 n3 c3], intE a3 n3 c3 zs, rowE b 26 #[.int .i64 Wn, .int .i64 Hn, .slice g' n cc], rowE (w.heap.size + 1) 26 #[.int .i64 0, .int .i64 0, .slice none 0 0]])
        case first =>
          clear hw8
          refine AtT.startA hM hM 13 (by kernel_rfl) ?_
          clear hM
          intro wd hM
          have hS := hM
          refine AtT.taked (i := 0) (v := ?_) (some 37) rfl rfl (by kernel_rfl) (by kernel_rfl) (by kernel_rfl) (by kernel_rfl) (fun _ _ _ h => h) (Or.inl ⟨by kernel_rfl, ?_⟩) hS ?_
          rotate_left
          · (intro wS hSw; (try dsimp only at hSw); have kr0 := (Mem.row hSw .here).cell; have q1 := (HCW.out _ hSw).1; have q2 := (HCW.out _ hSw).2.1; have q3 := (HCW.out _ hSw).2.2; go_simp; (try rw [if_neg (by omega)]); try with_reducible rfl)
          simp only [Act.put, List.setIfInBounds_toArray, List.set_cons_zero, List.set_cons_succ]
          refine AtT.taked (i := 1) (v := ?_) (some 38) rfl rfl (by kernel_rfl) (by kernel_rfl) (by kernel_rfl) (by kernel_rfl) (fun _ _ _ h => h) (Or.inl ⟨by kernel_rfl, ?_⟩) hS ?_
          rotate_left
          · (intro wS hSw; (try dsimp only at hSw); go_simp; (try rw [if_neg (by omega)]); try with_reducible rfl)
          simp only [Act.put, List.setIfInBounds_toArray, List.set_cons_zero, List.set_cons_succ]
          refine AtT.taked (i := 2) (v := ?_) (some 39) rfl rfl (by kernel_rfl) (by kernel_rfl) (by kernel_rfl) (by kernel_rfl) (fun _ _ _ h => h) (Or.inl ⟨by kernel_rfl, ?_⟩) hS ?_
          rotate_left
          · (intro wS hSw; (try dsimp only at hSw); go_simp; (try rw [if_neg (by omega)]); try with_reducible rfl)
          simp only [Act.put, List.setIfInBounds_toArray, List.set_cons_zero, List.set_cons_succ]
          refine AtT.taked (i := 3) (v := ?_) (some 40) rfl rfl (by kernel_rfl) (by kernel_rfl) (by kernel_rfl) (by kernel_rfl) (fun _ _ _ h => h) (Or.inl ⟨by kernel_rfl, ?_⟩) hS ?_
          rotate_left
          · (intro wS hSw; (try dsimp only at hSw); have kr0 := (Mem.row hSw .here).cell; have q1 := (HCW.out _ hSw).1; have q2 := (HCW.out _ hSw).2.1; have q3 := (HCW.out _ hSw).2.2; go_simp; (try rw [if_neg (by omega)]); try with_reducible rfl)
          simp only [Act.put, List.setIfInBounds_toArray, List.set_cons_zero, List.set_cons_succ]
          refine AtT.taked (i := 4) (v := ?_) (some 41) rfl rfl (by kernel_rfl) (by kernel_rfl) (by kernel_rfl) (by kernel_rfl) (fun _ _ _ h => h) (Or.inl ⟨by kernel_rfl, ?_⟩) hS ?_
          rotate_left
          · (intro wS hSw; (try dsimp only at hSw); have kr0 := (Mem.row hSw .here).cell; have q1 := (HCW.out _ hSw).1; have q2 := (HCW.out _ hSw).2.1; have q3 := (HCW.out _ hSw).2.2; go_simp; (try rw [if_neg (by omega)]); try with_reducible rfl)
          simp only [Act.put, List.setIfInBounds_toArray, List.set_cons_zero, List.set_cons_succ]
          refine AtT.two (i := 5) (j := 10) (by kernel_rfl) rfl rfl rfl rfl ?_ ?_
          · skip
            intro K hK
            go_simp
            refine (specBlow_any _ _ g' n cc ys v.e v.s v.q _ (hM.ints (.there .here)).ints).mono ?_
            rw [HBR.out]
            rintro e w2 ⟨a3, n3, c3, rfl, hO, hb⟩
            replace hM := hM.own hb hO
            clear hb hO
            try dsimp only
            refine hK.out _ _ (hM.tail) ?_
            clear hK K hS
            have hS := hM.tail
            refine AtT.taked (i := 6) (v := ?_) (some 36) rfl rfl (by kernel_rfl) (by kernel_rfl) (by kernel_rfl) (by kernel_rfl) (fun _ _ _ h => h) (Or.inl ⟨by kernel_rfl, ?_⟩) hS ?_
            rotate_left
            · (intro wS hSw; (try dsimp only at hSw); go_simp; (try rw [if_neg (by omega)]); try with_reducible rfl)
            simp only [Act.put, List.setIfInBounds_toArray, List.set_cons_zero, List.set_cons_succ]
            refine AtT.taked (i := 7) (v := ?_) (some 43) rfl rfl (by kernel_rfl) (by kernel_rfl) (by kernel_rfl) (by kernel_rfl) (fun _ _ _ h => h) (Or.inl ⟨by kernel_rfl, ?_⟩) hS ?_
            rotate_left
            · (intro wS hSw; (try dsimp only at hSw); go_simp; (try rw [if_neg (by omega)]); try with_reducible rfl)
            simp only [Act.put, List.setIfInBounds_toArray, List.set_cons_zero, List.set_cons_succ]
            refine AtT.taked (i := 8) (v := ?_) (some 44) rfl rfl (by kernel_rfl) (by kernel_rfl) (by kernel_rfl) (by kernel_rfl) (fun _ _ _ h => h) (Or.inl ⟨by kernel_rfl, ?_⟩) hS ?_
            rotate_left
            · (intro wS hSw; (try dsimp only at hSw); go_simp; (try rw [if_neg (by omega)]); try with_reducible rfl)
            simp only [Act.put, List.setIfInBounds_toArray, List.set_cons_zero, List.set_cons_succ]
            refine AtT.taked (i := 9) (v := ?_) (some 45) rfl rfl (by kernel_rfl) (by kernel_rfl) (by kernel_rfl) (by kernel_rfl) (fun _ _ _ h => h) (Or.inl ⟨by kernel_rfl, ?_⟩) hS ?_
            rotate_left
            · (intro wS hSw; (try dsimp only at hSw); go_simp; (try rw [if_neg (by omega)]); try with_reducible rfl)
            simp only [Act.put, List.setIfInBounds_toArray, List.set_cons_zero, List.set_cons_succ]
            refine AtT.only (i := 10) (by kernel_rfl) rfl rfl ?_
            intro K hK
            go_simp
            refine hK.out _ _ (by apply Mem.tail; apply Mem.tail; (repeat' (first | with_reducible exact hM | with_reducible exact hMp | with_reducible apply Mem.drew | with_reducible apply Mem.drewN | with_reducible apply Mem.alloc | with_reducible apply Mem.set | with_reducible exact Sto.row | ((with_reducible refine Sto.rowEq2 ?_ ?_); omega; rfl) | ((with_reducible refine Sto.rowEq ?_); omega) | with_reducible apply Sto.int | with_reducible apply Sto.there | with_reducible assumption | (unfold I64; omega) | (with_reducible (have hMx := Mem.undrew hM; exact hMx)) | (with_reducible (have hMx := Mem.undrew hMp; exact hMx))))) ?_
            clear hK K hS
            have hMp := hM
            apply Mem.atT
            · (repeat' (first | with_reducible exact hM | with_reducible exact hMp | with_reducible apply Mem.drew | with_reducible apply Mem.drewN | with_reducible apply Mem.alloc | with_reducible apply Mem.set | with_reducible exact Sto.row | ((with_reducible refine Sto.rowEq2 ?_ ?_); omega; rfl) | ((with_reducible refine Sto.rowEq ?_); omega) | with_reducible apply Sto.int | with_reducible apply Sto.there | with_reducible assumption | (unfold I64; omega) | (with_reducible (have hMx := Mem.undrew hM; exact hMx)) | (with_reducible (have hMx := Mem.undrew hMp; exact hMx))))
            clear hM
            intro hM
            (try simp only [World.size_alloc, World.size_setCell, World.heap_drewN, heapDrew, Nat.add_assoc, Nat.reduceAdd, List.setIfInBounds_toArray, List.set_cons_zero, List.set_cons_succ, List.cons_append, List.nil_append] at hM)
            have hS := hM.tail.tail
            refine AtT.only (i := 11) (by kernel_rfl) rfl rfl ?_
            intro K hK
            have kk0 := (hM.row .here).cell
            have ff0 := (hM.row .here).free
            have ll0 := (hM.row .here).lt
            have kk2 := (hM.row (.there (.there .here))).cell
            have ff2 := (hM.row (.there (.there .here))).free
            have ll2 := (hM.row (.there (.there .here))).lt
            go_simp
            clear kk0 ff0 ll0 kk2 ff2 ll2
            refine hK.out _ _ (by apply Mem.tail; apply Mem.tail; (repeat' (first | with_reducible exact hM | with_reducible exact hMp | with_reducible apply Mem.drew | with_reducible apply Mem.drewN | with_reducible apply Mem.alloc | with_reducible apply Mem.set | with_reducible exact Sto.row | ((with_reducible refine Sto.rowEq2 ?_ ?_); omega; rfl) | ((with_reducible refine Sto.rowEq ?_); omega) | with_reducible apply Sto.int | with_reducible apply Sto.there | with_reducible assumption | (unfold I64; omega) | (with_reducible (have hMx := Mem.undrew hM; exact hMx)) | (with_reducible (have hMx := Mem.undrew hMp; exact hMx))))) ?_
            clear hK K hS
            apply Mem.atT
            · (repeat' (first | with_reducible exact hM | with_reducible exact hMp | with_reducible apply Mem.drew | with_reducible apply Mem.drewN | with_reducible apply Mem.alloc | with_reducible apply Mem.set | with_reducible exact Sto.row | ((with_reducible refine Sto.rowEq2 ?_ ?_); omega; rfl) | ((with_reducible refine Sto.rowEq ?_); omega) | with_reducible apply Sto.int | with_reducible apply Sto.there | with_reducible assumption | (unfold I64; omega) | (with_reducible (have hMx := Mem.undrew hM; exact hMx)) | (with_reducible (have hMx := Mem.undrew hMp; exact hMx))))
            clear hM
            intro hM
            (try simp only [World.size_alloc, World.size_setCell, World.heap_drewN, heapDrew, Nat.add_assoc, Nat.reduceAdd, List.setIfInBounds_toArray, List.set_cons_zero, List.set_cons_succ, List.cons_append, List.nil_append] at hM)
            have hS := hM.tail.tail
            refine AtT.taked (i := 12) (v := ?_) (some 11) rfl rfl (by kernel_rfl) (by kernel_rfl) (by kernel_rfl) (by kernel_rfl) (fun _ _ _ h => h) (Or.inl ⟨by kernel_rfl, ?_⟩) hS ?_
            rotate_left
            · (intro wS hSw; (try dsimp only at hSw); go_simp; (try rw [if_neg (by omega)]); try with_reducible rfl)
            simp only [Act.put, List.setIfInBounds_toArray, List.set_cons_zero, List.set_cons_succ]
            refine AtT.last (by kernel_rfl) rfl (by kernel_rfl) ?_
            intro K hK
            clear hS
            go_simp
            refine hK.out _ _ ?_
            clear hK K
            go_wp2_with fail
            go_meet
            refine ⟨_, a3, n3, c3, rfl, rfl, rfl, ?_⟩
            apply Mem.pick (is := [0, 1, 2, 4])
            · (repeat' (first | with_reducible exact hM | with_reducible exact hMp | with_reducible apply Mem.drew | with_reducible apply Mem.drewN | with_reducible apply Mem.alloc | with_reducible apply Mem.set | with_reducible exact Sto.row | ((with_reducible refine Sto.rowEq2 ?_ ?_); omega; rfl) | ((with_reducible refine Sto.rowEq ?_); omega) | with_reducible apply Sto.int | with_reducible apply Sto.there | with_reducible assumption | (unfold I64; omega) | (with_reducible (have hMx := Mem.undrew hM; exact hMx)) | (with_reducible (have hMx := Mem.undrew hMp; exact hMx))))
            · decide
            · rfl
          · skip
            intro K hK
            go_simp
            refine hK.out _ _ (by apply Mem.tail; (repeat' (first | with_reducible exact hM | with_reducible exact hMp | with_reducible apply Mem.drew | with_reducible apply Mem.drewN | with_reducible apply Mem.alloc | with_reducible apply Mem.set | with_reducible exact Sto.row | ((with_reducible refine Sto.rowEq2 ?_ ?_); omega; rfl) | ((with_reducible refine Sto.rowEq ?_); omega) | with_reducible apply Sto.int | with_reducible apply Sto.there | with_reducible assumption | (unfold I64; omega) | (with_reducible (have hMx := Mem.undrew hM; exact hMx)) | (with_reducible (have hMx := Mem.undrew hMp; exact hMx))))) ?_
            clear hK K hS
            have hMp := hM
            apply Mem.atT
            · (repeat' (first | with_reducible exact hM | with_reducible exact hMp | with_reducible apply Mem.drew | with_reducible apply Mem.drewN | with_reducible apply Mem.alloc | with_reducible apply Mem.set | with_reducible exact Sto.row | ((with_reducible refine Sto.rowEq2 ?_ ?_); omega; rfl) | ((with_reducible refine Sto.rowEq ?_); omega) | with_reducible apply Sto.int | with_reducible apply Sto.there | with_reducible assumption | (unfold I64; omega) | (with_reducible (have hMx := Mem.undrew hM; exact hMx)) | (with_reducible (have hMx := Mem.undrew hMp; exact hMx))))
            clear hM
            intro hM
            (try simp only [World.size_alloc, World.size_setCell, World.heap_drewN, heapDrew, Nat.add_assoc, Nat.reduceAdd, List.setIfInBounds_toArray, List.set_cons_zero, List.set_cons_succ, List.cons_append, List.nil_append] at hM)
            have hS := hM.tail
            refine AtT.only (i := 5) (by kernel_rfl) rfl rfl ?_
            intro K hK
            go_simp
            refine (specBlow_any _ _ g' n cc ys v.e v.s v.q _ (hM.ints (.there (.there .here))).ints).mono ?_
            rw [HBR.out]
            rintro e w2 ⟨a3, n3, c3, rfl, hO, hb⟩
            replace hM := hM.own hb hO
            clear hb hO
            try dsimp only
            refine hK.out _ _ (hM.tail.tail) ?_
            clear hK K hS
            have hS := hM.tail.tail
            refine AtT.taked (i := 6) (v := ?_) (some 36) rfl rfl (by kernel_rfl) (by kernel_rfl) (by kernel_rfl) (by kernel_rfl) (fun _ _ _ h => h) (Or.inl ⟨by kernel_rfl, ?_⟩) hS ?_
            rotate_left
            · (intro wS hSw; (try dsimp only at hSw); go_simp; (try rw [if_neg (by omega)]); try with_reducible rfl)
            simp only [Act.put, List.setIfInBounds_toArray, List.set_cons_zero, List.set_cons_succ]
            refine AtT.taked (i := 7) (v := ?_) (some 43) rfl rfl (by kernel_rfl) (by kernel_rfl) (by kernel_rfl) (by kernel_rfl) (fun _ _ _ h => h) (Or.inl ⟨by kernel_rfl, ?_⟩) hS ?_
            rotate_left
            · (intro wS hSw; (try dsimp only at hSw); go_simp; (try rw [if_neg (by omega)]); try with_reducible rfl)
            simp only [Act.put, List.setIfInBounds_toArray, List.set_cons_zero, List.set_cons_succ]
            refine AtT.taked (i := 8) (v := ?_) (some 44) rfl rfl (by kernel_rfl) (by kernel_rfl) (by kernel_rfl) (by kernel_rfl) (fun _ _ _ h => h) (Or.inl ⟨by kernel_rfl, ?_⟩) hS ?_
            rotate_left
            · (intro wS hSw; (try dsimp only at hSw); go_simp; (try rw [if_neg (by omega)]); try with_reducible rfl)
            simp only [Act.put, List.setIfInBounds_toArray, List.set_cons_zero, List.set_cons_succ]
            refine AtT.taked (i := 9) (v := ?_) (some 45) rfl rfl (by kernel_rfl) (by kernel_rfl) (by kernel_rfl) (by kernel_rfl) (fun _ _ _ h => h) (Or.inl ⟨by kernel_rfl, ?_⟩) hS ?_
            rotate_left
            · (intro wS hSw; (try dsimp only at hSw); go_simp; (try rw [if_neg (by omega)]); try with_reducible rfl)
            simp only [Act.put, List.setIfInBounds_toArray, List.set_cons_zero, List.set_cons_succ]
            refine AtT.only (i := 11) (by kernel_rfl) rfl rfl ?_
            intro K hK
            have kk1 := (hM.row (.there .here)).cell
            have ff1 := (hM.row (.there .here)).free
            have ll1 := (hM.row (.there .here)).lt
            have kk2 := (hM.row (.there (.there .here))).cell
            have ff2 := (hM.row (.there (.there .here))).free
            have ll2 := (hM.row (.there (.there .here))).lt
            go_simp
            clear kk1 ff1 ll1 kk2 ff2 ll2
            refine hK.out _ _ (by apply Mem.tail; apply Mem.tail; (repeat' (first | with_reducible exact hM | with_reducible exact hMp | with_reducible apply Mem.drew | with_reducible apply Mem.drewN | with_reducible apply Mem.alloc | with_reducible apply Mem.set | with_reducible exact Sto.row | ((with_reducible refine Sto.rowEq2 ?_ ?_); omega; rfl) | ((with_reducible refine Sto.rowEq ?_); omega) | with_reducible apply Sto.int | with_reducible apply Sto.there | with_reducible assumption | (unfold I64; omega) | (with_reducible (have hMx := Mem.undrew hM; exact hMx)) | (with_reducible (have hMx := Mem.undrew hMp; exact hMx))))) ?_
            clear hK K hS
            apply Mem.atT
            · (repeat' (first | with_reducible exact hM | with_reducible exact hMp | with_reducible apply Mem.drew | with_reducible apply Mem.drewN | with_reducible apply Mem.alloc | with_reducible apply Mem.set | with_reducible exact Sto.row | ((with_reducible refine Sto.rowEq2 ?_ ?_); omega; rfl) | ((with_reducible refine Sto.rowEq ?_); omega) | with_reducible apply Sto.int | with_reducible apply Sto.there | with_reducible assumption | (unfold I64; omega) | (with_reducible (have hMx := Mem.undrew hM; exact hMx)) | (with_reducible (have hMx := Mem.undrew hMp; exact hMx))))
            clear hM
            intro hM
            (try simp only [World.size_alloc, World.size_setCell, World.heap_drewN, heapDrew, Nat.add_assoc, Nat.reduceAdd, List.setIfInBounds_toArray, List.set_cons_zero, List.set_cons_succ, List.cons_append, List.nil_append] at hM)
            have hS := hM.tail.tail
            refine AtT.taked (i := 12) (v := ?_) (some 11) rfl rfl (by kernel_rfl) (by kernel_rfl) (by kernel_rfl) (by kernel_rfl) (fun _ _ _ h => h) (Or.inl ⟨by kernel_rfl, ?_⟩) hS ?_
            rotate_left
            · (intro wS hSw; (try dsimp only at hSw); go_simp; (try rw [if_neg (by omega)]); try with_reducible rfl)
            simp only [Act.put, List.setIfInBounds_toArray, List.set_cons_zero, List.set_cons_succ]
            refine AtT.last (by kernel_rfl) rfl (by kernel_rfl) ?_
            intro K hK
            clear hS
            go_simp
            refine hK.out _ _ ?_
            clear hK K
            go_wp2_with fail
            go_meet
            refine ⟨_, a3, n3, c3, rfl, rfl, rfl, ?_⟩
            apply Mem.pick (is := [1, 0, 2, 4])
            · (repeat' (first | with_reducible exact hM | with_reducible exact hMp | with_reducible apply Mem.drew | with_reducible apply Mem.drewN | with_reducible apply Mem.alloc | with_reducible apply Mem.set | with_reducible exact Sto.row | ((with_reducible refine Sto.rowEq2 ?_ ?_); omega; rfl) | ((with_reducible refine Sto.rowEq ?_); omega) | with_reducible apply Sto.int | with_reducible apply Sto.there | with_reducible assumption | (unfold I64; omega) | (with_reducible (have hMx := Mem.undrew hM; exact hMx)) | (with_reducible (have hMx := Mem.undrew hMp; exact hMx))))
            · decide
            · rfl
        case rest =>
          clear hM hw8
          obtain ⟨b2', a3, n3, c3, rfl, rfl, rfl, hM⟩ := hcut
          cases ok
          · have HN : Hid (runF Wn Hn xs 0 ws = none) := by
              show _ = _
              rw [HR.out, HD.out]
              exact runF_step_bad hgy HBR.out
            obtain ⟨k1, f1, l1⟩ := hM.row (.there (.there (.there .here)))
            go_wp2
            rw [HF.out, HN.out]
            exact bodyPost_ret (v := .tuple #[.agg #[.int .i64 0, .int .i64 0, .slice none 0 0], .int .i64 0, .bool false]) (by simp [results, Try.results10, go_sem, k1]) rfl ⟨none, 0, 0, rfl, own_nil _ _, (by apply Mem.below; (repeat' (first | with_reducible exact hM | with_reducible exact hMp | with_reducible apply Mem.drew | with_reducible apply Mem.drewN | with_reducible apply Mem.alloc | with_reducible apply Mem.set | with_reducible exact Sto.row | ((with_reducible refine Sto.rowEq2 ?_ ?_); omega; rfl) | ((with_reducible refine Sto.rowEq ?_); omega) | with_reducible apply Sto.int | with_reducible apply Sto.there | with_reducible assumption | (unfold I64; omega) | (with_reducible (have hMx := Mem.undrew hM; exact hMx)) | (with_reducible (have hMx := Mem.undrew hMp; exact hMx)))))⟩
          · obtain ⟨e1, e2, hgz, hl0, hl1, hst⟩ := runF_step_ok (tt := tt) (r := ws.drop (k + 1)) hgy HBR.out
            have hn3 : n3 = n := by
              have l1 := (hM.ints (.there .here)).len
              have l2 := goodB_length hgz
              rw [← l1, l2, HWH.out]
            subst e1 e2 hn3
            have HN : Hid (runF Wn Hn xs 0 ws = runF Wn Hn zs (tt + lt) (ws.drop (k + 1))) := by
              show _ = _
              rw [HR.out, HD.out]
              exact hst
            clear hst
            have HGZ := Lib.hid hgz; clear hgz
            obtain ⟨k2, f2, l2⟩ := hM.row .here
            obtain ⟨k3, f3, l3⟩ := hM.row (.there (.there .here))
            have hne : b ≠ b2' := hM.ne (i := 2) (j := 0) rfl rfl (by decide)
            go_wp2
            go_roundw
            case rel =>
              refine ⟨k + 1, zs, tt + lt, a3, c3, by omega, by go_num, rfl, by omega, by omega, HGZ.out, HN.out, ?_⟩
              apply Mem.pick (is := [2, 1, 3])
              · (repeat' (first | with_reducible exact hM | with_reducible exact hMp | with_reducible apply Mem.drew | with_reducible apply Mem.drewN | with_reducible apply Mem.alloc | with_reducible apply Mem.set | with_reducible exact Sto.row | ((with_reducible refine Sto.rowEq2 ?_ ?_); omega; rfl) | ((with_reducible refine Sto.rowEq ?_); omega) | with_reducible apply Sto.int | with_reducible apply Sto.there | with_reducible assumption | (unfold I64; omega) | (with_reducible (have hMx := Mem.undrew hM; exact hMx)) | (with_reducible (have hMx := Mem.undrew hMp; exact hMx))))
              · decide
              · rfl
            case measure => simp [intOf]; omega
      · obtain rfl : k = n' := by omega
        have HN : Hid (runF Wn Hn xs 0 ws = some (ys, tt)) := by
          show _ = _
          rw [HR.out, List.drop_of_length_le (by rw [HL'.out]; exact Nat.le_refl _)]; rfl
        obtain ⟨k0, f0, l0⟩ := hM.row .here
        obtain ⟨k1, f1, l1⟩ := hM.row (.there (.there .here))
        have hne : b ≠ w.heap.size + 1 := hM.ne (i := 0) (j := 2) rfl rfl (by decide)
        go_wp2
        rw [HF.out, HN.out]
        simp only [runM]
        have hO : Own w.heap.size wr g' n cc ys := hM.ints (.there .here)
        exact bodyPost_ret (v := .tuple #[.agg #[.int .i64 Wn, .int .i64 Hn, .slice g' n cc], .int .i64 tt, .bool true]) (by simp [results, Try.results10, go_sem, k1]) rfl ⟨g', n, cc, rfl, Mem.ints (by (repeat' (first | with_reducible exact hM | with_reducible exact hMp | with_reducible apply Mem.drew | with_reducible apply Mem.drewN | with_reducible apply Mem.alloc | with_reducible apply Mem.set | with_reducible exact Sto.row | ((with_reducible refine Sto.rowEq2 ?_ ?_); omega; rfl) | ((with_reducible refine Sto.rowEq ?_); omega) | with_reducible apply Sto.int | with_reducible apply Sto.there | with_reducible assumption | (unfold I64; omega) | (with_reducible (have hMx := Mem.undrew hM; exact hMx)) | (with_reducible (have hMx := Mem.undrew hMp; exact hMx))))) (.there .here), (by apply Mem.below; (repeat' (first | with_reducible exact hM | with_reducible exact hMp | with_reducible apply Mem.drew | with_reducible apply Mem.drewN | with_reducible apply Mem.alloc | with_reducible apply Mem.set | with_reducible exact Sto.row | ((with_reducible refine Sto.rowEq2 ?_ ?_); omega; rfl) | ((with_reducible refine Sto.rowEq ?_); omega) | with_reducible apply Sto.int | with_reducible apply Sto.there | with_reducible assumption | (unfold I64; omega) | (with_reducible (have hMx := Mem.undrew hM; exact hMx)) | (with_reducible (have hMx := Mem.undrew hMp; exact hMx)))))⟩

end Go.Proofs.Ytdhgkfmehegeoaa
