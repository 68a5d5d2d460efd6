/-
  The reference's draws of logs.
-/
import Derived.Test.YtkpicemjiokdpaaDoorDrawLog
import Derived.Test.YtkpicemjiokdpaaDoorRegF
namespace Go.Proofs.YtkpicemjiokdpaaDoor
set_option linter.unusedSimpArgs false
set_option linter.unusedVariables false
open Go.RowKit

theorem app_small {D P : Bs} {c : Int} (e : RecB) (h : D.length + P.length ≤ 24240) : ∃ D' P' c' i, appV D P c e = .tuple #[logV D' P' c', .int .i64 i] ∧ D'.length + P'.length ≤ 24240 := by
  unfold appV
  split
  · rename_i ho
    simp only [Bool.and_eq_true] at ho
    split
    · exact ⟨_, _, _, _, rfl, h⟩
    · rename_i hc
      have hc' : ¬ c = 60 := by simpa using hc
      obtain ⟨h1, h2, h3, h4⟩ := ok_open ho.1
      have h5 := okI_snoc ho.1 ho.2 (by omega)
      have h6 := (ok_open h5).2.2.2
      rw [List.length_append] at h6
      have e1 : c.toNat = (openB (D ++ P)).length := by omega
      exact ⟨_, _, _, _, rfl, by rw [e1]; exact h6⟩
  · exact ⟨_, _, _, _, rfl, h⟩
theorem sync_small {D P : Bs} {c : Int} (h : D.length + P.length ≤ 24240) : ∃ D' P' c' b, syncV D P c = .tuple #[logV D' P' c', .bool b] ∧ D'.length + P'.length ≤ 24240 := by
  unfold syncV
  split
  · exact ⟨_, _, _, _, rfl, by rw [List.length_append]; simpa using h⟩
  · exact ⟨_, _, _, _, rfl, by simp⟩

set_option maxRecDepth 100000 in
set_option maxHeartbeats 8000000 in
theorem log_any {g : Nat} {ac : Option Addr} {nc cc : Nat} {l : List UInt8} {A : Nat} {w0 w : World} {G : List Ent} {F : Ent → List Ent} (hC : Rd FByt w0 ac nc cc l) (hM : Mem w0.heap.size w0 w G) (p : At G (curE g ac nc cc A) F) (hA : A ≤ 10000000) :
    Calls Tryd.prog 68 #[.pointer (some ⟨g, 0, none⟩)] w fun e w' => ∃ (D P : Bs) (c : Int), D.length + P.length ≤ 24240 ∧ e = .returned (logV D P c) ∧ Mem w0.heap.size w0 w' (F (curE g ac nc cc (A + 62))) := by
  have HP := Lib.hid p
  have HC := Lib.hid hC
  clear p hC
  go_enter Tryd.func68, Tryd.ntmps68
  go_wp2_with fail
  apply Mem.atA
  · (repeat' (first | with_reducible exact hM | with_reducible exact hMp | with_reducible apply Mem.drew | with_reducible apply Mem.drewN | with_reducible apply Mem.alloc | with_reducible apply Mem.set | with_reducible exact Sto.row | ((with_reducible refine Sto.rowEq2 ?_ ?_); omega; rfl) | ((with_reducible refine Sto.rowEq ?_); omega) | with_reducible apply Sto.int | with_reducible apply Sto.there | with_reducible assumption | (unfold I64; omega) | (with_reducible (have hMx := Mem.undrew hM; exact hMx)) | (with_reducible (have hMx := Mem.undrew hMp; exact hMx))))
  clear hM
  intro wst hM
  (try simp only [World.size_alloc, World.size_setCell, World.heap_drewN, heapDrew, Nat.add_assoc, Nat.reduceAdd, List.setIfInBounds_toArray, List.set_cons_zero, List.set_cons_succ, List.cons_append, List.nil_append] at hM)
  refine (pick_any 7 HC.out hM (.there (.there HP.out)) (by omega)).mono ?_
  rintro e wc1 ⟨r, hb, hr, rfl, hm⟩
  clear hM
  have hM := hm
  clear hm
  try dsimp only at hM
  have hr7 := pick_lt hb (by omega)
  clear hb hr
  go_wp2_with fail
  go_loopw [4] (fun s4 wr => ∃ (k : Nat) (D P : Bs) (c : Int), k ≤ 6 ∧ s4 = .int .i64 k ∧ D.length + P.length ≤ 24240 ∧ Mem w0.heap.size w0 wr (rowE (w.heap.size + 1) 31 #[.string (bsA D), .string (bsA P), .int .i64 c] :: rowE w.heap.size 31 #[.string ⟨#[]⟩, .string ⟨#[]⟩, .int .i64 0] :: F (curE g ac nc cc (A + 2 + 10 * (6 - k))))) (fun s4 _ => (intOf s4).toNat)
  case atStart => exact ⟨r, [], [], 0, by omega, rfl, by simp, hM.curMore (.there (.there (HP.out.again _))) (by omega)⟩
  case round =>
    clear hM hr7
    obtain ⟨k, D, P, c, hk, rfl, hDP, hM⟩ := hrel
    by_cases hk0 : 0 < k
    rotate_left
    · obtain rfl : k = 0 := by omega
      obtain ⟨k0, f0, l0⟩ := hM.row .here
      obtain ⟨k1, f1, l1⟩ := hM.row (.there .here)
      go_wp2
      refine bodyPost_ret (v := logV D P c) (by simp [results, Tryd.results68, go_sem, k0, k1]) rfl ⟨D, P, c, hDP, rfl, ?_⟩
      apply Mem.curMore (hA := show A + 2 + 10 * (6 - 0) ≤ A + 62 by omega) (p := HP.out.again _)
      apply Mem.tail; apply Mem.tail
      (repeat' (first | with_reducible exact hM | with_reducible exact hMp | with_reducible apply Mem.drew | with_reducible apply Mem.drewN | with_reducible apply Mem.alloc | with_reducible apply Mem.set | with_reducible exact Sto.row | ((with_reducible refine Sto.rowEq2 ?_ ?_); omega; rfl) | ((with_reducible refine Sto.rowEq ?_); omega) | with_reducible apply Sto.int | with_reducible apply Sto.there | with_reducible assumption | (unfold I64; omega) | (with_reducible (have hMx := Mem.undrew hM; exact hMx)) | (with_reducible (have hMx := Mem.undrew hMp; exact hMx))))
    obtain ⟨m, rfl⟩ : ∃ m, k = m + 1 := ⟨k - 1, by omega⟩
    go_wp2_with fail
    replace hM := Mem.packEnd (G := F (curE g ac nc cc (A + 2 + 10 * (6 - (m + 1))))) [rowE (w.heap.size + 1) 31 #[.string (bsA D), .string (bsA P), .int .i64 c], rowE w.heap.size 31 #[.string ⟨#[]⟩, .string ⟨#[]⟩, .int .i64 0]] hM
    apply Mem.atWpA
    · (repeat' (first | with_reducible exact hM | with_reducible exact hMp | with_reducible apply Mem.drew | with_reducible apply Mem.drewN | with_reducible apply Mem.alloc | with_reducible apply Mem.set | with_reducible exact Sto.row | ((with_reducible refine Sto.rowEq2 ?_ ?_); omega; rfl) | ((with_reducible refine Sto.rowEq ?_); omega) | with_reducible apply Sto.int | with_reducible apply Sto.there | with_reducible assumption | (unfold I64; omega) | (with_reducible (have hMx := Mem.undrew hM; exact hMx)) | (with_reducible (have hMx := Mem.undrew hMp; exact hMx))))
    clear hM
    intro wst hM
    (try simp only [World.size_alloc, World.size_setCell, World.heap_drewN, heapDrew, Nat.add_assoc, Nat.reduceAdd, List.setIfInBounds_toArray, List.set_cons_zero, List.set_cons_succ, List.cons_append, List.nil_append] at hM)
    refine AtF.startA hM.tail hM 7 (by kernel_rfl) ?_
    clear hM
    intro wd hM
    have hS := hM.tail
    refine AtF.taked (i := 0) (v := ?_) (some 13) rfl rfl (by kernel_rfl) (by kernel_rfl) (by kernel_rfl) (anc_path [] _ _ (by kernel_rfl) (by kernel_rfl)) (fun _ _ _ h => h) (Or.inl ⟨by kernel_rfl, ?_⟩) hS rfl ?_
    rotate_left
    · (intro wS hSw; (try dsimp only at hSw); have kr0 := (Mem.row hSw .here).cell; go_simp; (try rw [if_neg (by omega)]); try with_reducible rfl)
    simp only [Act.put, List.setIfInBounds_toArray, List.set_cons_zero, List.set_cons_succ]
    refine AtF.taked (i := 1) (v := ?_) (some 14) rfl rfl (by kernel_rfl) (by kernel_rfl) (by kernel_rfl) (anc_path [] _ _ (by kernel_rfl) (by kernel_rfl)) (fun _ _ _ h => h) (Or.inl ⟨by kernel_rfl, ?_⟩) hS rfl ?_
    rotate_left
    · (intro wS hSw; (try dsimp only at hSw); go_simp; (try rw [if_neg (by omega)]); try with_reducible rfl)
    simp only [Act.put, List.setIfInBounds_toArray, List.set_cons_zero, List.set_cons_succ]
    refine AtF.only (i := 2) (by kernel_rfl) rfl rfl ?_
    intro K hK
    go_simp
    have hU := Mem.unpackAt [] hM
    refine (logRecord_any HC.out hU ((HP.out.again _).app [] _) (by omega)).mono ?_
    rintro e w3 ⟨q, r, hq, hr, rfl, hm⟩
    clear hU hM
    have hM := Mem.packAt [] hm
    clear hm
    dsimp only [List.nil_append] at hM
    try dsimp only
    refine hK.out _ _ (hM.tail) ?_
    clear hK K hS
    have hS := hM.tail
    refine AtF.only (i := 3) (by kernel_rfl) rfl rfl ?_
    intro K hK
    go_simp
    obtain ⟨D2, P2, c2, i2, hv, hs⟩ := app_small ⟨q, r⟩ hDP
    refine (specApp_any D P c q r _ (by omega) (by omega) (by omega)).mono ?_
    rw [hv]
    rintro e w3 ⟨rfl, hb⟩
    replace hM := hM.ext hb
    clear hb hv
    try dsimp only
    refine hK.out _ _ (hM.tail) ?_
    clear hK K hS
    have hS := hM.tail
    refine AtF.taked (i := 4) (v := ?_) (some 12) rfl rfl (by kernel_rfl) (by kernel_rfl) (by kernel_rfl) (anc_path [] _ _ (by kernel_rfl) (by kernel_rfl)) (fun _ _ _ h => h) (Or.inl ⟨by kernel_rfl, ?_⟩) hS rfl ?_
    rotate_left
    · (intro wS hSw; (try dsimp only at hSw); go_simp; (try rw [if_neg (by omega)]); try with_reducible rfl)
    simp only [Act.put, List.setIfInBounds_toArray, List.set_cons_zero, List.set_cons_succ]
    refine AtF.taked (i := 5) (v := ?_) (some 17) rfl rfl (by kernel_rfl) (by kernel_rfl) (by kernel_rfl) (anc_path [] _ _ (by kernel_rfl) (by kernel_rfl)) (fun _ _ _ h => h) (Or.inl ⟨by kernel_rfl, ?_⟩) hS rfl ?_
    rotate_left
    · (intro wS hSw; (try dsimp only at hSw); go_simp; (try rw [if_neg (by omega)]); try with_reducible rfl)
    simp only [Act.put, List.setIfInBounds_toArray, List.set_cons_zero, List.set_cons_succ]
    refine AtF.takef (i := 6) (v := ?_) (some 18) rfl rfl (by kernel_rfl) (by kernel_rfl) (by kernel_rfl)  (fun _ _ _ h => h) (Or.inl ⟨by kernel_rfl, ?_⟩) hS rfl ?_
    rotate_left
    · (intro wS hSw; (try dsimp only at hSw); go_simp; (try rw [if_neg (by omega)]); try with_reducible rfl)
    simp only [Act.put, List.setIfInBounds_toArray, List.set_cons_zero, List.set_cons_succ]
    refine AtF.last (by kernel_rfl) rfl (by kernel_rfl) ?_
    intro K hK
    clear hS
    have kk1 := (hM.row (.there .here)).cell
    have ff1 := (hM.row (.there .here)).free
    have ll1 := (hM.row (.there .here)).lt
    go_simp
    clear kk1 ff1 ll1
    refine hK.out _ _ ?_
    clear hK K
    apply Mem.atEx
    · (repeat' (first | with_reducible exact hM | with_reducible exact hMp | with_reducible apply Mem.drew | with_reducible apply Mem.drewN | with_reducible apply Mem.alloc | with_reducible apply Mem.set | with_reducible exact Sto.row | ((with_reducible refine Sto.rowEq2 ?_ ?_); omega; rfl) | ((with_reducible refine Sto.rowEq ?_); omega) | with_reducible apply Sto.int | with_reducible apply Sto.there | with_reducible assumption | (unfold I64; omega) | (with_reducible (have hMx := Mem.undrew hM; exact hMx)) | (with_reducible (have hMx := Mem.undrew hMp; exact hMx))))
    clear hM
    intro wst hM
    (try simp only [World.size_alloc, World.size_setCell, World.heap_drewN, heapDrew, Nat.add_assoc, Nat.reduceAdd, List.setIfInBounds_toArray, List.set_cons_zero, List.set_cons_succ, List.cons_append, List.nil_append] at hM)
    replace hM := Mem.unpackEnd [rowE (w.heap.size + 1) 31 #[.string (bsA D2), .string (bsA P2), .int .i64 c2], rowE w.heap.size 31 #[.string ⟨#[]⟩, .string ⟨#[]⟩, .int .i64 0]] hM
    dsimp only [List.nil_append, List.cons_append] at hM
    go_wp2_with fail
    apply Mem.atA
    · (repeat' (first | with_reducible exact hM | with_reducible exact hMp | with_reducible apply Mem.drew | with_reducible apply Mem.drewN | with_reducible apply Mem.alloc | with_reducible apply Mem.set | with_reducible exact Sto.row | ((with_reducible refine Sto.rowEq2 ?_ ?_); omega; rfl) | ((with_reducible refine Sto.rowEq ?_); omega) | with_reducible apply Sto.int | with_reducible apply Sto.there | with_reducible assumption | (unfold I64; omega) | (with_reducible (have hMx := Mem.undrew hM; exact hMx)) | (with_reducible (have hMx := Mem.undrew hMp; exact hMx))))
    clear hM
    intro wst hM
    (try simp only [World.size_alloc, World.size_setCell, World.heap_drewN, heapDrew, Nat.add_assoc, Nat.reduceAdd, List.setIfInBounds_toArray, List.set_cons_zero, List.set_cons_succ, List.cons_append, List.nil_append] at hM)
    refine (one_any 4 HC.out hM (.there (.there (HP.out.again _))) (by omega)).mono ?_
    rintro e wc2 ⟨b, rfl, hm⟩
    clear hM
    have hM := hm
    clear hm
    try dsimp only at hM
    cases b
    · go_wp2
      go_roundw
      case rel => exact ⟨m, D2, P2, c2, by omega, rfl, hs, hM.curMore (.there (.there (HP.out.again _))) (by omega)⟩
      case measure => simp [intOf]
    · obtain ⟨D3, P3, c3, b3, hv3, hs3⟩ := sync_small (c := c2) hs
      have HV3 := Lib.hid hv3; clear hv3
      replace hM := hM.curMore (A' := A + 2 + 10 * (6 - m)) (.there (.there (HP.out.again _))) (by omega)
      obtain ⟨A6, hA6⟩ : ∃ A6, A + 2 + 10 * (6 - m) = A6 := ⟨_, rfl⟩
      rw [hA6] at hM
      have HA6 := Lib.hid hA6; clear hA6
      obtain ⟨k0, f0, l0⟩ := hM.row .here
      go_wp2_with fail
      clear k0 f0 l0
      apply Mem.atA
      · (repeat' (first | with_reducible exact hM | with_reducible exact hMp | with_reducible apply Mem.drew | with_reducible apply Mem.drewN | with_reducible apply Mem.alloc | with_reducible apply Mem.set | with_reducible exact Sto.row | ((with_reducible refine Sto.rowEq2 ?_ ?_); omega; rfl) | ((with_reducible refine Sto.rowEq ?_); omega) | with_reducible apply Sto.int | with_reducible apply Sto.there | with_reducible assumption | (unfold I64; omega) | (with_reducible (have hMx := Mem.undrew hM; exact hMx)) | (with_reducible (have hMx := Mem.undrew hMp; exact hMx))))
      clear hM
      intro wst hM
      (try simp only [World.size_alloc, World.size_setCell, World.heap_drewN, heapDrew, Nat.add_assoc, Nat.reduceAdd, List.setIfInBounds_toArray, List.set_cons_zero, List.set_cons_succ, List.cons_append, List.nil_append] at hM)
      refine (specSync_any D2 P2 c2 _ (by omega)).mono ?_
      rw [HV3.out]
      rintro e wc3 ⟨rfl, hb⟩
      replace hM := hM.ext hb
      clear hb
      obtain ⟨k0, f0, l0⟩ := hM.row .here
      go_wp2
      go_roundw
      case rel =>
        refine ⟨m, D3, P3, c3, by omega, rfl, hs3, ?_⟩
        rw [HA6.out]
        (repeat' (first | with_reducible exact hM | with_reducible exact hMp | with_reducible apply Mem.drew | with_reducible apply Mem.drewN | with_reducible apply Mem.alloc | with_reducible apply Mem.set | with_reducible exact Sto.row | ((with_reducible refine Sto.rowEq2 ?_ ?_); omega; rfl) | ((with_reducible refine Sto.rowEq ?_); omega) | with_reducible apply Sto.int | with_reducible apply Sto.there | with_reducible assumption | (unfold I64; omega) | (with_reducible (have hMx := Mem.undrew hM; exact hMx)) | (with_reducible (have hMx := Mem.undrew hMp; exact hMx))))
      case measure => simp [intOf]
end Go.Proofs.YtkpicemjiokdpaaDoor
