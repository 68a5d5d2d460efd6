/-
  The program's search over sets: the closure that calls itself.
-/
import Derived.Test.YtbgegmignhghnaaLFlowK
/-
  The program's search over sets: the closure that calls itself.
-/
namespace Go.Proofs.Ytbgegmignhghnaa
set_option linter.unusedSimpArgs false
set_option linter.unusedVariables false
open Go.RowKit

set_option maxRecDepth 100000 in
set_option maxHeartbeats 8000000 in
theorem ext_any (W Hn : Nat) (a : Option Addr) (n c : Nat) (xs : List Int) (a1 : Option Addr) (n1 c1 : Nat) (ss : List Int) (a2 : Option Addr) (n2 c2 : Nat) (ts : List Int) (am : Option Addr) (nm cm : Nat) (may : List Int) (qb qs qy ql qe qt qss qas size : Nat) {w0 : World} (h : Ints w0 a n c xs) (h1 : Ints w0 a1 n1 c1 ss) (h2 : Ints w0 a2 n2 c2 ts) (hnp : 0 < n) (hn25 : n ≤ 25) (hW : 1 ≤ W ∧ W ≤ 5) (hs : setB n ss = true) (hmay : setB n may = true) (hsz : size ≤ 10) : ∀ (k : Nat) (R : List Ent) (bb : Value) (sa : Option Addr) (sn sc i : Nat) (begun : List Int) (w : World), sn + k = size → i ≤ nm → setB n (begun ++ may.drop i) = true →
    Mem w0.heap.size w0 w [intE sa sn sc begun, rowE qb 24 #[bb], rowE qs 3 #[.int .i64 (size : Nat)], rowE qy 56 #[.func (.func 35) #[] #[.pointer (some ⟨qt, 0, none⟩), .pointer (some ⟨qss, 0, none⟩), .pointer (some ⟨qas, 0, none⟩), .pointer (some ⟨qb, 0, none⟩)]], rowE ql 24 #[.slice am nm cm], rowE qe 74 #[.func (.func 72) #[] #[.pointer (some ⟨qs, 0, none⟩), .pointer (some ⟨qy, 0, none⟩), .pointer (some ⟨ql, 0, none⟩), .pointer (some ⟨qe, 0, none⟩)]], intE am nm cm may, rowE qt 26 #[.int .i64 W, .int .i64 Hn, .slice a n c], rowE qss 24 #[.slice a1 n1 c1], rowE qas 24 #[.slice a2 n2 c2], packE R] →
    Calls Try.prog 72 #[.slice sa sn sc, .int .i64 i, .pointer (some ⟨qs, 0, none⟩), .pointer (some ⟨qy, 0, none⟩), .pointer (some ⟨ql, 0, none⟩), .pointer (some ⟨qe, 0, none⟩)] w
      (ExtP w0.heap.size w0 (fun (bb : Value) (R : List Ent) => [rowE qb 24 #[bb], rowE qs 3 #[.int .i64 (size : Nat)], rowE qy 56 #[.func (.func 35) #[] #[.pointer (some ⟨qt, 0, none⟩), .pointer (some ⟨qss, 0, none⟩), .pointer (some ⟨qas, 0, none⟩), .pointer (some ⟨qb, 0, none⟩)]], rowE ql 24 #[.slice am nm cm], rowE qe 74 #[.func (.func 72) #[] #[.pointer (some ⟨qs, 0, none⟩), .pointer (some ⟨qy, 0, none⟩), .pointer (some ⟨ql, 0, none⟩), .pointer (some ⟨qe, 0, none⟩)]], intE am nm cm may, rowE qt 26 #[.int .i64 W, .int .i64 Hn, .slice a n c], rowE qss 24 #[.slice a1 n1 c1], rowE qas 24 #[.slice a2 n2 c2], packE R]) bb R (extI (holdB W n xs ss ts) k begun (may.drop i))) := by
  have hcy := enters Try.func35 (by kernel_rfl) rfl
  have hce := enters Try.func72 (by kernel_rfl) rfl
  have HS := Lib.hid hs
  clear hs
  intro k
  induction k with
  | zero =>
    intro R bb sa sn sc i begun w hk hi hset hM
    obtain rfl : sn = size := by omega
    have hset1 := setB_sub hset (List.sublist_append_left _ _)
    have HSET := Lib.hid hset1
    clear hset hset1 hk
    go_enter Try.func72, Try.ntmps72
    obtain ⟨k2, f2, l2⟩ := hM.row (.there (.there .here))
    obtain ⟨k3, f3, l3⟩ := hM.row (.there (.there (.there .here)))
    go_wp2_with fail
    clear k2 f2 l2 k3 f3 l3
    refine (best1_any W Hn a n c xs a1 n1 c1 ss a2 n2 c2 ts am nm cm may qb qs qy ql qe qt qss qas sn h h1 h2 hnp hn25 hW HS.out R bb sa sn sc begun _ HSET.out hM).mono ?_
    rintro e w3 (⟨hh, rfl, hm⟩ | ⟨hh, rfl, a', m, c', hm⟩)
    · have HE := Lib.hid (show extI (holdB W n xs ss ts) 0 begun (may.drop i) = none by rw [extI, hh]; rfl)
      clear hM hh
      go_wp2
      go_ret
      exact ⟨bb, [], by rw [HE.out]; rfl, by rw [HE.out]; exact ⟨rfl, rfl⟩, hm⟩
    · have HE := Lib.hid (show extI (holdB W n xs ss ts) 0 begun (may.drop i) = some begun by rw [extI, hh]; rfl)
      clear hM hh
      go_wp2
      go_ret
      exact ⟨_, [intE a' m c' begun], by rw [HE.out]; rfl, by rw [HE.out]; exact ⟨a', m, c', rfl, rfl⟩, hm⟩
  | succ k IH =>
    intro R bb sa sn sc i begun w hk hi hset hM
    have HIH := Lib.hid IH
    have HSET := Lib.hid (fun j (hj : i ≤ j) => setB_sub hset (List.Sublist.append_left (List.drop_sublist_drop_left may hj) begun))
    have hne : ((sn : Int) == (size : Int)) = false := by simp; omega
    have hln := (hM.ints (.there (.there (.there (.there (.there (.there .here))))))).ints.len
    have hrm := (hM.ints (.there (.there (.there (.there (.there (.there .here))))))).ints.room
    have HLN := Lib.hid hln
    have HMY := Lib.hid (setB_iff.1 hmay).2
    have hcap := (hM.ints .here).ints.cap
    clear IH hset hln
    go_enter Try.func72, Try.ntmps72
    obtain ⟨k2, f2, l2⟩ := hM.row (.there (.there .here))
    go_wp2_with fail
    clear k2 f2 l2
    go_loopw [9] (fun s9 wr => ∃ j : Nat, i ≤ j ∧ j ≤ nm ∧ s9 = .int .i64 j ∧ Hid (extI (holdB W n xs ss ts) (k + 1) begun (may.drop i) = extI (holdB W n xs ss ts) (k + 1) begun (may.drop j)) ∧ Mem w0.heap.size w0 wr [intE sa sn sc begun, rowE qb 24 #[bb], rowE qs 3 #[.int .i64 (size : Nat)], rowE qy 56 #[.func (.func 35) #[] #[.pointer (some ⟨qt, 0, none⟩), .pointer (some ⟨qss, 0, none⟩), .pointer (some ⟨qas, 0, none⟩), .pointer (some ⟨qb, 0, none⟩)]], rowE ql 24 #[.slice am nm cm], rowE qe 74 #[.func (.func 72) #[] #[.pointer (some ⟨qs, 0, none⟩), .pointer (some ⟨qy, 0, none⟩), .pointer (some ⟨ql, 0, none⟩), .pointer (some ⟨qe, 0, none⟩)]], intE am nm cm may, rowE qt 26 #[.int .i64 W, .int .i64 Hn, .slice a n c], rowE qss 24 #[.slice a1 n1 c1], rowE qas 24 #[.slice a2 n2 c2], packE R]) (fun s9 _ => nm - (intOf s9).toNat)
    case atStart => exact ⟨i, Nat.le_refl _, hi, rfl, Lib.hid rfl, hM⟩
    case round =>
      clear hM
      obtain ⟨j, hij, hj, rfl, HE, hM⟩ := hrel
      by_cases hlt : j < nm
      · have hjl : j < may.length := by rw [HLN.out]; exact hlt
        obtain ⟨gm, rfl, -⟩ := (hM.ints (.there (.there (.there (.there (.there (.there .here))))))).head (by omega)
        obtain ⟨x, hx⟩ : ∃ x, may.getD j 0 = x := ⟨_, rfl⟩
        have hxb := HMY.out _ (getD_mem hjl)
        have hdr := extI_drop (P := holdB W n xs ss ts) (k := k) (b := begun) hjl
        have hsx : setB n ((begun ++ [x]) ++ may.drop (j + 1)) = true := by
          have h3 := HSET.out j hij
          rw [List.drop_eq_getElem_cons hjl] at h3
          rw [List.append_assoc, ← hx]
          simpa [List.getD, hjl] using h3
        rw [hx] at hdr hxb
        obtain ⟨rr, hrr⟩ : ∃ rr, extI (holdB W n xs ss ts) k (begun ++ [x]) (may.drop (j + 1)) = rr := ⟨_, rfl⟩
        rw [hrr] at hdr
        have HX := Lib.hid hx; have HDR := Lib.hid hdr; have HRR := Lib.hid hrr; have HSX := Lib.hid hsx
        clear hx hdr hrr hsx hjl
        have j0 : (0 : Int) ≤ (j : Int) := by omega
        have j1 : (j : Int) < (nm : Int) := by omega
        have s0 : (0 : Int) ≤ (sn : Int) := by omega
        have s1 : (sn : Int) ≤ (sc : Int) := by omega
        obtain ⟨k4, f4, l4⟩ := hM.row (.there (.there (.there (.there .here))))
        go_upto_region 6 with fail
        clear k4 f4 l4
        apply Mem.atWpA
        · (repeat' (first | with_reducible exact hM | with_reducible exact hMp | with_reducible apply Mem.drew | with_reducible apply Mem.drewN | with_reducible apply Mem.alloc | with_reducible apply Mem.set | with_reducible exact Sto.row | ((with_reducible refine Sto.rowEq2 ?_ ?_); omega; rfl) | ((with_reducible refine Sto.rowEq ?_); omega) | with_reducible apply Sto.int | with_reducible apply Sto.there | with_reducible assumption | (unfold I64; omega) | (with_reducible (have hMx := Mem.undrew hM; exact hMx)) | (with_reducible (have hMx := Mem.undrew hMp; exact hMx))))
        clear hM
        intro wst hM
        (try simp only [World.size_alloc, World.size_setCell, World.heap_drewN, heapDrew, Nat.add_assoc, Nat.reduceAdd, List.setIfInBounds_toArray, List.set_cons_zero, List.set_cons_succ, List.cons_append, List.nil_append] at hM)
        go_cut [40] (fun s40 wx => ∃ (bb' : Value) (X : List Ent), s40 = .bool rr.isSome ∧ Hid (ExtR bb bb' X rr) ∧ Mem w0.heap.size w0 wx [rowE qb 24 #[bb'], rowE qs 3 #[.int .i64 (size : Nat)], rowE qy 56 #[.func (.func 35) #[] #[.pointer (some ⟨qt, 0, none⟩), .pointer (some ⟨qss, 0, none⟩), .pointer (some ⟨qas, 0, none⟩), .pointer (some ⟨qb, 0, none⟩)]], rowE ql 24 #[.slice (some ⟨gm, 0, none⟩) nm cm], rowE qe 74 #[.func (.func 72) #[] #[.pointer (some ⟨qs, 0, none⟩), .pointer (some ⟨qy, 0, none⟩), .pointer (some ⟨ql, 0, none⟩), .pointer (some ⟨qe, 0, none⟩)]], intE (some ⟨gm, 0, none⟩) nm cm may, rowE qt 26 #[.int .i64 W, .int .i64 Hn, .slice a n c], rowE qss 24 #[.slice a1 n1 c1], rowE qas 24 #[.slice a2 n2 c2], packE (X ++ intE sa sn sc begun :: R)])
        case first =>
          replace hM := hM.pick (is := [0, 10, 1, 2, 3, 4, 5, 6, 7, 8, 9]) (by decide) rfl
          dsimp only [List.filterMap_cons, List.filterMap_nil, List.getElem?_cons_zero, List.getElem?_cons_succ] at hM
          refine AtT.startA hM.tail.tail.tail hM 16 (by kernel_rfl) ?_
          clear hM
          intro wd hM
          have hS := hM.tail.tail.tail
          refine AtT.taked (i := 0) (v := ?_) (some 24) rfl rfl (by kernel_rfl) (by kernel_rfl) (by kernel_rfl) (by kernel_rfl) (fun _ _ _ h => h) (Or.inl ⟨by kernel_rfl, ?_⟩) hS ?_
          rotate_left
          · (intro wS hSw; (try dsimp only at hSw); have kr0 := (Mem.row hSw (.there (.there .here))).cell; have kr1 := (Mem.row hSw (.there (.there (.there .here)))).cell; have hcm := (hSw.ints (.there (.there (.there (.there .here))))).cellAt hlt; have hlm := (hSw.ints (.there (.there (.there (.there .here))))).till _ ⟨_, rfl, rfl⟩; rw [HX.out] at hcm; go_simp; (try rw [if_neg (by omega)]); try with_reducible rfl)
          simp only [Act.put, List.setIfInBounds_toArray, List.set_cons_zero, List.set_cons_succ]
          refine AtT.taked (i := 1) (v := ?_) (some 25) rfl rfl (by kernel_rfl) (by kernel_rfl) (by kernel_rfl) (by kernel_rfl) (fun _ _ _ h => h) (Or.inl ⟨by kernel_rfl, ?_⟩) hS ?_
          rotate_left
          · (intro wS hSw; (try dsimp only at hSw); go_simp; (try rw [if_neg (by omega)]); try with_reducible rfl)
          simp only [Act.put, List.setIfInBounds_toArray, List.set_cons_zero, List.set_cons_succ]
          refine AtT.taked (i := 2) (v := ?_) (some 26) rfl rfl (by kernel_rfl) (by kernel_rfl) (by kernel_rfl) (by kernel_rfl) (fun _ _ _ h => h) (Or.inl ⟨by kernel_rfl, ?_⟩) hS ?_
          rotate_left
          · (intro wS hSw; (try dsimp only at hSw); go_simp; (try rw [if_neg (by omega)]); try with_reducible rfl)
          simp only [Act.put, List.setIfInBounds_toArray, List.set_cons_zero, List.set_cons_succ]
          refine AtT.taked (i := 3) (v := ?_) (some 27) rfl rfl (by kernel_rfl) (by kernel_rfl) (by kernel_rfl) (by kernel_rfl) (fun _ _ _ h => h) (Or.inl ⟨by kernel_rfl, ?_⟩) hS ?_
          rotate_left
          · (intro wS hSw; (try dsimp only at hSw); go_simp; (try rw [if_neg (by omega)]); try with_reducible rfl)
          simp only [Act.put, List.setIfInBounds_toArray, List.set_cons_zero, List.set_cons_succ]
          refine AtT.taked (i := 4) (v := ?_) (some 28) rfl rfl (by kernel_rfl) (by kernel_rfl) (by kernel_rfl) (by kernel_rfl) (fun _ _ _ h => h) (Or.inl ⟨by kernel_rfl, ?_⟩) hS ?_
          rotate_left
          · (intro wS hSw; (try dsimp only at hSw); go_simp; (try rw [if_neg (by omega)]); try with_reducible rfl)
          simp only [Act.put, List.setIfInBounds_toArray, List.set_cons_zero, List.set_cons_succ]
          refine AtT.taked (i := 5) (v := ?_) (some 29) rfl rfl (by kernel_rfl) (by kernel_rfl) (by kernel_rfl) (by kernel_rfl) (fun _ _ _ h => h) (Or.inl ⟨by kernel_rfl, ?_⟩) hS ?_
          rotate_left
          · (intro wS hSw; (try dsimp only at hSw); go_simp; (try rw [if_neg (by omega)]); try with_reducible rfl)
          simp only [Act.put, List.setIfInBounds_toArray, List.set_cons_zero, List.set_cons_succ]
          refine AtT.taked (i := 6) (v := ?_) (some 30) rfl rfl (by kernel_rfl) (by kernel_rfl) (by kernel_rfl) (by kernel_rfl) (fun _ _ _ h => h) (Or.inl ⟨by kernel_rfl, ?_⟩) hS ?_
          rotate_left
          · (intro wS hSw; (try dsimp only at hSw); have kr0 := (Mem.row hSw (.there (.there .here))).cell; have kr1 := (Mem.row hSw (.there (.there (.there .here)))).cell; have hcm := (hSw.ints (.there (.there (.there (.there .here))))).cellAt hlt; have hlm := (hSw.ints (.there (.there (.there (.there .here))))).till _ ⟨_, rfl, rfl⟩; rw [HX.out] at hcm; go_simp; (try rw [if_neg (by omega)]); try with_reducible rfl)
          simp only [Act.put, List.setIfInBounds_toArray, List.set_cons_zero, List.set_cons_succ]
          refine AtT.taked (i := 7) (v := ?_) (some 31) rfl rfl (by kernel_rfl) (by kernel_rfl) (by kernel_rfl) (by kernel_rfl) (fun _ _ _ h => h) (Or.inl ⟨by kernel_rfl, ?_⟩) hS ?_
          rotate_left
          · (intro wS hSw; (try dsimp only at hSw); have kr0 := (Mem.row hSw (.there (.there .here))).cell; have kr1 := (Mem.row hSw (.there (.there (.there .here)))).cell; have hcm := (hSw.ints (.there (.there (.there (.there .here))))).cellAt hlt; have hlm := (hSw.ints (.there (.there (.there (.there .here))))).till _ ⟨_, rfl, rfl⟩; rw [HX.out] at hcm; go_simp; (try rw [if_neg (by omega)]); try with_reducible rfl)
          simp only [Act.put, List.setIfInBounds_toArray, List.set_cons_zero, List.set_cons_succ]
          refine AtT.taked (i := 8) (v := ?_) (some 32) rfl rfl (by kernel_rfl) (by kernel_rfl) (by kernel_rfl) (by kernel_rfl) (fun _ _ _ h => h) (Or.inl ⟨by kernel_rfl, ?_⟩) hS ?_
          rotate_left
          · (intro wS hSw; (try dsimp only at hSw); go_simp; (try rw [if_neg (by omega)]); try with_reducible rfl)
          simp only [Act.put, List.setIfInBounds_toArray, List.set_cons_zero, List.set_cons_succ]
          refine AtT.taked (i := 9) (v := ?_) (some 33) rfl rfl (by kernel_rfl) (by kernel_rfl) (by kernel_rfl) (by kernel_rfl) (fun _ _ _ h => h) (Or.inl ⟨by kernel_rfl, ?_⟩) hS ?_
          rotate_left
          · (intro wS hSw; (try dsimp only at hSw); have kr0 := (Mem.row hSw (.there (.there .here))).cell; have kr1 := (Mem.row hSw (.there (.there (.there .here)))).cell; have hcm := (hSw.ints (.there (.there (.there (.there .here))))).cellAt hlt; have hlm := (hSw.ints (.there (.there (.there (.there .here))))).till _ ⟨_, rfl, rfl⟩; rw [HX.out] at hcm; go_simp; (try rw [if_neg (by omega)]); try with_reducible rfl)
          simp only [Act.put, List.setIfInBounds_toArray, List.set_cons_zero, List.set_cons_succ]
          refine AtT.taked (i := 10) (v := ?_) (some 34) rfl rfl (by kernel_rfl) (by kernel_rfl) (by kernel_rfl) (by kernel_rfl) (fun _ _ _ h => h) (Or.inl ⟨by kernel_rfl, ?_⟩) hS ?_
          rotate_left
          · (intro wS hSw; (try dsimp only at hSw); have kr0 := (Mem.row hSw (.there (.there .here))).cell; have kr1 := (Mem.row hSw (.there (.there (.there .here)))).cell; have hcm := (hSw.ints (.there (.there (.there (.there .here))))).cellAt hlt; have hlm := (hSw.ints (.there (.there (.there (.there .here))))).till _ ⟨_, rfl, rfl⟩; rw [HX.out] at hcm; go_simp; (try rw [if_neg (by omega)]); try with_reducible rfl)
          simp only [Act.put, List.setIfInBounds_toArray, List.set_cons_zero, List.set_cons_succ]
          refine AtT.taked (i := 13) (v := ?_) (some 37) rfl rfl (by kernel_rfl) (by kernel_rfl) (by kernel_rfl) (by kernel_rfl) (fun _ _ _ h => h) (Or.inl ⟨by kernel_rfl, ?_⟩) hS ?_
          rotate_left
          · (intro wS hSw; (try dsimp only at hSw); go_simp; (try rw [if_neg (by omega)]); try with_reducible rfl)
          simp only [Act.put, List.setIfInBounds_toArray, List.set_cons_zero, List.set_cons_succ]
          refine AtT.taked (i := 14) (v := ?_) (some 38) rfl rfl (by kernel_rfl) (by kernel_rfl) (by kernel_rfl) (by kernel_rfl) (fun _ _ _ h => h) (Or.inl ⟨by kernel_rfl, ?_⟩) hS ?_
          rotate_left
          · (intro wS hSw; (try dsimp only at hSw); go_simp; (try rw [if_neg (by omega)]); try with_reducible rfl)
          simp only [Act.put, List.setIfInBounds_toArray, List.set_cons_zero, List.set_cons_succ]
          refine AtT.only (i := 11) (by kernel_rfl) rfl rfl ?_
          intro K hK
          go_simp
          refine hK.out _ _ (by apply Mem.tail; apply Mem.tail; apply Mem.tail; apply Mem.tail; (repeat' (first | with_reducible exact hM | with_reducible exact hMp | with_reducible apply Mem.drew | with_reducible apply Mem.drewN | with_reducible apply Mem.alloc | with_reducible apply Mem.set | with_reducible exact Sto.row | ((with_reducible refine Sto.rowEq2 ?_ ?_); omega; rfl) | ((with_reducible refine Sto.rowEq ?_); omega) | with_reducible apply Sto.int | with_reducible apply Sto.there | with_reducible assumption | (unfold I64; omega) | (with_reducible (have hMx := Mem.undrew hM; exact hMx)) | (with_reducible (have hMx := Mem.undrew hMp; exact hMx))))) ?_
          clear hK K hS
          have hMp := hM
          apply Mem.atT
          · (repeat' (first | with_reducible exact hM | with_reducible exact hMp | with_reducible apply Mem.drew | with_reducible apply Mem.drewN | with_reducible apply Mem.alloc | with_reducible apply Mem.set | with_reducible exact Sto.row | ((with_reducible refine Sto.rowEq2 ?_ ?_); omega; rfl) | ((with_reducible refine Sto.rowEq ?_); omega) | with_reducible apply Sto.int | with_reducible apply Sto.there | with_reducible assumption | (unfold I64; omega) | (with_reducible (have hMx := Mem.undrew hM; exact hMx)) | (with_reducible (have hMx := Mem.undrew hMp; exact hMx))))
          clear hM
          intro hM
          (try simp only [World.size_alloc, World.size_setCell, World.heap_drewN, heapDrew, Nat.add_assoc, Nat.reduceAdd, List.setIfInBounds_toArray, List.set_cons_zero, List.set_cons_succ, List.cons_append, List.nil_append] at hM)
          have hS := hM.tail.tail.tail.tail
          refine AtT.only (i := 12) (by kernel_rfl) rfl rfl ?_
          intro K hK
          refine step_appF hM (hM.intsR (.there .here)).fit (hM.oneI .here (by unfold I64; omega)) (by omega) (by omega) rfl (.tmp 30) (.tmp 35) 24 Try.underlying24 rfl rfl rfl ?_
          clear hM
          intro a6 c6 w6 hM
          try dsimp only
          refine hK.out _ _ (hM.tail.tail.tail.tail.tail) ?_
          clear hK K hS
          have hS := hM.tail.tail.tail.tail.tail
          refine AtT.only (i := 15) (by kernel_rfl) rfl rfl ?_
          intro K hK
          go_simp
          replace hM := hM.pick (is := [0, 4, 5, 6, 7, 8, 9, 10, 11, 12, 2, 3]) (by decide) rfl
          dsimp only [List.filterMap_cons, List.filterMap_nil, List.getElem?_cons_zero, List.getElem?_cons_succ] at hM
          replace hM := Mem.packSet hM
          rw [show IntKind.i64.wrap ((j : Int) + 1) = ((j + 1 : Nat) : Int) by rw [wrap_in (by omega)]; omega]
          refine (HIH.out (intE sa sn sc begun :: R) bb a6 (sn + 1) c6 (j + 1) (begun ++ [x]) _ (by omega) (by omega) HSX.out hM).mono ?_
          rw [HRR.out]
          rintro e w9 ⟨bb', X, rfl, hx, hm⟩
          have HXR := Lib.hid hx
          clear hM hx
          dsimp only at hm
          have hM := hm.dummy3
          clear hm
          try dsimp only
          refine hK.out _ _ (hM.tail.tail.tail.tail.tail) ?_
          clear hK K hS
          have hS := hM.tail.tail.tail.tail.tail
          refine AtT.last (by kernel_rfl) rfl (by kernel_rfl) ?_
          intro K hK
          clear hS
          go_simp
          refine hK.out _ _ ?_
          clear hK K
          go_wp2_with fail
          go_meet
          refine ⟨bb', X, by cases rr <;> rfl, HXR, ?_⟩
          apply Mem.pick (is := [4, 5, 6, 7, 8, 9, 10, 11, 12, 3])
          · (repeat' (first | with_reducible exact hM | with_reducible exact hMp | with_reducible apply Mem.drew | with_reducible apply Mem.drewN | with_reducible apply Mem.alloc | with_reducible apply Mem.set | with_reducible exact Sto.row | ((with_reducible refine Sto.rowEq2 ?_ ?_); omega; rfl) | ((with_reducible refine Sto.rowEq ?_); omega) | with_reducible apply Sto.int | with_reducible apply Sto.there | with_reducible assumption | (unfold I64; omega) | (with_reducible (have hMx := Mem.undrew hM; exact hMx)) | (with_reducible (have hMx := Mem.undrew hMp; exact hMx))))
          · decide
          · rfl
        case rest =>
          clear hM
          obtain ⟨bb', X, rfl, HXR, hM⟩ := hcut
          cases rr with
          | none =>
            obtain ⟨rfl, rfl⟩ := HXR.out
            clear HXR
            go_wp2
            go_roundw
            case rel => exact ⟨j + 1, by omega, by omega, by go_num, Lib.hid (by rw [HE.out, HDR.out]), hM.packOut⟩
            case measure => simp [intOf]; omega
          | some line =>
            go_wp2
            go_ret
            have hEE : extI (holdB W n xs ss ts) (k + 1) begun (may.drop i) = some line := by rw [HE.out, HDR.out]
            exact ⟨bb', X, by rw [hEE]; rfl, by rw [hEE]; exact HXR.out, hM.packDrop⟩
      · obtain rfl : j = nm := by omega
        have hEE : extI (holdB W n xs ss ts) (k + 1) begun (may.drop i) = none := by
          rw [HE.out, List.drop_of_length_le (by rw [HLN.out]; exact Nat.le_refl _)]
          rfl
        have HEE := Lib.hid hEE
        clear hEE
        obtain ⟨k4, f4, l4⟩ := hM.row (.there (.there (.there (.there .here))))
        go_wp2
        go_ret
        exact ⟨bb, [], by rw [HEE.out]; rfl, by rw [HEE.out]; exact ⟨rfl, rfl⟩, hM.tail⟩
end Go.Proofs.Ytbgegmignhghnaa
