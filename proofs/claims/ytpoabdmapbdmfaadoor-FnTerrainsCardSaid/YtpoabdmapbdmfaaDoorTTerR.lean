/-
  ParseTerrain: the reference's.
-/
import Derived.Test.YtpoabdmapbdmfaaDoorTTerQ
/-
  ParseTerrain: the reference's.
-/
namespace Go.Proofs.YtpoabdmapbdmfaaDoor
set_option linter.unusedSimpArgs false
set_option linter.unusedVariables false
open Go.RowKit

theorem textR_good {W H : Nat} {xs : List Int} (h : goodB 20 W H xs = true) : textR W H xs = textTo W xs xs.length := by
  rw [textR, h, Int.toNat_natCast]
  rfl
theorem Mem.strCell {B : Nat} {w0 w : World} {G : List Ent} {g n c : Nat} {ls : List Bs} (h : Mem B w0 w G) (i : In G (owE FStr 9 (some ⟨g, 0, none⟩) n c ls)) (hn : 0 < n) : w.cell? ⟨g, 0, none⟩ = some (.string (bsA (ls.getD 0 []))) := by
  have h9 := (h.ow i).cell hn (j := 0) (by decide)
  simpa [FStr] using h9
set_option maxRecDepth 100000 in
set_option maxHeartbeats 16000000 in
theorem specParse_any (s : Bs) (w : World) (hs : s.length ≤ 1000000) :
    Calls Tryd.prog 30 #[.string (bsA s)] w fun e w' => ∃ a' c', e = .returned (.tuple #[.agg #[.int .i64 (parW s), .int .i64 (parH s), .slice a' (parL s).length c'], .bool (parseB s)]) ∧ Mem w.heap.size w w' [intE a' (parL s).length c' (parL s)] := by
  have hM := Mem.start w
  have S1 := bsA_size
  have S3 := bsA_list
  have hVs := wide_le s
  have hUs := high_le s
  obtain ⟨V, hV⟩ : ∃ V, wideL s = V := ⟨_, rfl⟩
  obtain ⟨U, hU⟩ : ∃ U, highL s = U := ⟨_, rfl⟩
  obtain ⟨T, hT⟩ : ∃ T, s.takeWhile notN = T := ⟨_, rfl⟩
  have hTl : T.length = V := by rw [← hT, ← hV]; rfl
  rw [hV] at hVs
  rw [hU] at hUs
  have HV := Lib.hid hV; have HU := Lib.hid hU; have HT := Lib.hid hT
  clear hV hU hT
  have hw1 : IntKind.i64.wrap (((U + 1 : Nat) : Int) - 1) = (U : Int) := by rw [wrap_in (by omega)]; omega
  have hU1 : (0 : Int) < ((U + 1 : Nat) : Int) := by omega
  obtain ⟨pb, hpb⟩ : ∃ b, parseB s = b := ⟨_, rfl⟩
  obtain ⟨pw, hpw⟩ : ∃ b, parW s = b := ⟨_, rfl⟩
  obtain ⟨ph, hph⟩ : ∃ b, parH s = b := ⟨_, rfl⟩
  obtain ⟨pl, hpl⟩ : ∃ b, parL s = b := ⟨_, rfl⟩
  rw [hpb, hpw, hph, hpl]
  have HPN := Lib.hid (show parseB s = false → 0 = pw ∧ 0 = ph ∧ [] = pl from fun h => ⟨(par_no h).1.symm.trans hpw, (par_no h).2.1.symm.trans hph, (par_no h).2.2.symm.trans hpl⟩)
  have HPY := Lib.hid (show parseB s = true → (wideL s : Int) = pw ∧ (highL s : Int) = ph ∧ burnL s = pl from fun h => ⟨(par_yes h).1.symm.trans hpw, (par_yes h).2.1.symm.trans hph, (par_yes h).2.2.symm.trans hpl⟩)
  have HPB := Lib.hid hpb
  clear hpb hpw hph hpl
  have hSH := splitB_high s
  have hSW := splitB_wide s
  rw [HU.out] at hSH
  rw [HT.out] at hSW
  obtain ⟨ls, hls⟩ : ∃ l, splitB 10 s = l := ⟨_, rfl⟩
  rw [hls] at hSH hSW
  have HLS := Lib.hid hls; have HSH := Lib.hid hSH; have HSW := Lib.hid hSW
  clear hls hSH hSW
  go_enter Tryd.func30, Tryd.ntmps30
  go_wp2_with fail
  apply Mem.atA
  · (repeat' (first | with_reducible exact hM | with_reducible exact hMp | with_reducible apply Mem.drew | with_reducible apply Mem.drewN | with_reducible apply Mem.alloc | with_reducible apply Mem.set | with_reducible exact Sto.row | ((with_reducible refine Sto.rowEq2 ?_ ?_); omega; rfl) | ((with_reducible refine Sto.rowEq ?_); omega) | with_reducible apply Sto.int | with_reducible apply Sto.there | with_reducible assumption | (unfold I64; omega) | (with_reducible (have hMx := Mem.undrew hM; exact hMx)) | (with_reducible (have hMx := Mem.undrew hMp; exact hMx))))
  clear hM
  intro wst hM
  (try simp only [World.size_alloc, World.size_setCell, World.heap_drewN, heapDrew, Nat.add_assoc, Nat.reduceAdd, List.setIfInBounds_toArray, List.set_cons_zero, List.set_cons_succ, List.cons_append, List.nil_append] at hM)
  refine (l1Split_any s 10 10 rfl _ (by omega)).mono ?_
  rw [HLS.out]
  rintro e w3 ⟨a3, c3, rfl, hm⟩
  replace hM := hM.join hm
  clear hm
  dsimp only [List.cons_append, List.nil_append] at hM
  have hll := HSH.out
  obtain ⟨gs, rfl, -⟩ := (hM.ow .here).head (by omega)
  have hck := hM.strCell .here (by omega)
  rw [HSW.out] at hck
  clear hll
  rw [HSH.out] at hM ⊢
  by_cases h30 : s.length ≤ 40
  · have h30' : ¬ ((40 : Int) < (s.length : Int)) := by omega
    go_wp2_with fail
    apply Mem.atWpA
    · (repeat' (first | with_reducible exact hM | with_reducible exact hMp | with_reducible apply Mem.drew | with_reducible apply Mem.drewN | with_reducible apply Mem.alloc | with_reducible apply Mem.set | with_reducible exact Sto.row | ((with_reducible refine Sto.rowEq2 ?_ ?_); omega; rfl) | ((with_reducible refine Sto.rowEq ?_); omega) | with_reducible apply Sto.int | with_reducible apply Sto.there | with_reducible assumption | (unfold I64; omega) | (with_reducible (have hMx := Mem.undrew hM; exact hMx)) | (with_reducible (have hMx := Mem.undrew hMp; exact hMx))))
    clear hM
    intro wst hM
    (try simp only [World.size_alloc, World.size_setCell, World.heap_drewN, heapDrew, Nat.add_assoc, Nat.reduceAdd, List.setIfInBounds_toArray, List.set_cons_zero, List.set_cons_succ, List.cons_append, List.nil_append] at hM)
    clear hck hw1 hU1 h30'
    replace hM := (hM.swap).toInts (xs := []) .here rfl (by simp) (by simp)
    obtain ⟨b5, hb5⟩ : ∃ b, w3.heap.size + 1 = b := ⟨_, rfl⟩
    rw [hb5] at hM ⊢
    clear hb5
    go_loopw [6] (fun s6 wr => ∃ (k : Nat) (a' : Option Addr) (c' : Nat), k ≤ s.length ∧ s6 = .int .i64 k ∧ Mem w.heap.size w wr [intE a' (burnL (s.take k)).length c' (burnL (s.take k)), rowE b5 44 #[.int .i64 V, .int .i64 U, .slice a' (burnL (s.take k)).length c'], owE FStr 9 (some ⟨gs, 0, none⟩) (U + 1) c3 ls, rowE w.heap.size 44 #[.int .i64 0, .int .i64 0, .slice none 0 0]]) (fun s6 _ => s.length - (intOf s6).toNat)
    case atStart => exact ⟨0, _, _, Nat.zero_le _, rfl, hM⟩
    case round =>
      clear hM
      obtain ⟨k, a', c', hk, rfl, hM⟩ := hrel
      by_cases hlt : k < s.length
      · have hbt := burn_take hlt
        have hbl := burn_len (s.take k)
        rw [List.length_take] at hbl
        have S2 := bsA_get s k
        generalize s.getD k 0 = x at hbt S2
        obtain ⟨L, hL⟩ : ∃ L, burnL (s.take k) = L := ⟨_, rfl⟩
        rw [hL] at hbt hbl hM
        clear hL
        have hL40 : L.length ≤ 40 := by omega
        clear hbl
        have hv256 := x.toNat_lt
        obtain ⟨v, hv⟩ : ∃ v : Nat, x.toNat = v := ⟨_, rfl⟩
        obtain ⟨h10, hbc⟩ := burn_char hv
        rw [hv] at hv256
        rw [h10, hbc] at hbt
        clear h10 hbc
        have i0 : (0 : Int) ≤ (k : Int) := by omega
        have i1 : (k : Int) < (s.length : Int) := by omega
        by_cases v46 : v = 46
        · subst v46
          have HBT := Lib.hid (show burnL (s.take (k + 1)) = L ++ [0] from hbt)
          have hll : (L ++ [(0 : Int)]).length = L.length + 1 := by rw [List.length_append]; rfl
          have HLL := Lib.hid hll; clear hbt hll
          obtain ⟨k1, f1, l1⟩ := hM.row (.there .here)
          go_wp2_with (at_builtin; apply Mem.atL; (focus ((repeat' (first | with_reducible exact hM | with_reducible exact hMp | with_reducible apply Mem.drew | with_reducible apply Mem.drewN | with_reducible apply Mem.alloc | with_reducible apply Mem.set | with_reducible exact Sto.row | ((with_reducible refine Sto.rowEq2 ?_ ?_); omega; rfl) | ((with_reducible refine Sto.rowEq ?_); omega) | with_reducible apply Sto.int | with_reducible apply Sto.there | with_reducible assumption | (unfold I64; omega) | (with_reducible (have hMx := Mem.undrew hM; exact hMx)) | (with_reducible (have hMx := Mem.undrew hMp; exact hMx)))); done)); clear hM k1 f1 l1; intro hM; (try simp only [World.size_alloc, World.size_setCell, World.heap_drewN, heapDrew, Nat.add_assoc, Nat.reduceAdd, List.setIfInBounds_toArray, List.set_cons_zero, List.set_cons_succ, List.cons_append, List.nil_append] at hM); refine wpList_pushI hM (fun _ => .here) (by unfold I64; omega) (by omega) rfl _ _ _ Tryd.underlying26 rfl rfl rfl ?_)
          intro a8 c8 w4 hM
          obtain ⟨k1, f1, l1⟩ := hM.row (.there .here)
          go_wp2
          go_roundw
          case rel => exact ⟨k + 1, a8, c8, by omega, by go_num, by rw [HBT.out, HLL.out]; (repeat' (first | with_reducible exact hM | with_reducible exact hMp | with_reducible apply Mem.drew | with_reducible apply Mem.drewN | with_reducible apply Mem.alloc | with_reducible apply Mem.set | with_reducible exact Sto.row | ((with_reducible refine Sto.rowEq2 ?_ ?_); omega; rfl) | ((with_reducible refine Sto.rowEq ?_); omega) | with_reducible apply Sto.int | with_reducible apply Sto.there | with_reducible assumption | (unfold I64; omega) | (with_reducible (have hMx := Mem.undrew hM; exact hMx)) | (with_reducible (have hMx := Mem.undrew hMp; exact hMx))))⟩
          case measure => simp [intOf]; omega
        · by_cases v10 : v = 10
          · subst v10
            have HBT := Lib.hid (show burnL (s.take (k + 1)) = L by rw [hbt]; simp)
            clear hbt v46
            go_wp2
            go_roundw
            case rel => exact ⟨k + 1, a', c', by omega, by go_num, by rw [HBT.out]; (repeat' (first | with_reducible exact hM | with_reducible exact hMp | with_reducible apply Mem.drew | with_reducible apply Mem.drewN | with_reducible apply Mem.alloc | with_reducible apply Mem.set | with_reducible exact Sto.row | ((with_reducible refine Sto.rowEq2 ?_ ?_); omega; rfl) | ((with_reducible refine Sto.rowEq ?_); omega) | with_reducible apply Sto.int | with_reducible apply Sto.there | with_reducible assumption | (unfold I64; omega) | (with_reducible (have hMx := Mem.undrew hM; exact hMx)) | (with_reducible (have hMx := Mem.undrew hMp; exact hMx))))⟩
            case measure => simp [intOf]; omega
          · have HBT := Lib.hid (show burnL (s.take (k + 1)) = L ++ [(v : Int) - 97 + 1] by rw [hbt, decide_eq_false v10, if_neg v46]; rfl)
            have hll : (L ++ [(v : Int) - 97 + 1]).length = L.length + 1 := by rw [List.length_append]; rfl
            have HLL := Lib.hid hll; clear hbt hll
            have hwc : IntKind.i64.wrap (v : Int) = (v : Int) := wrap_in (by omega)
            have hwd : IntKind.i64.wrap ((v : Int) - 97) = (v : Int) - 97 := wrap_in (by omega)
            have hwe : IntKind.i64.wrap ((v : Int) - 97 + 1) = (v : Int) - 97 + 1 := wrap_in (by omega)
            obtain ⟨k1, f1, l1⟩ := hM.row (.there .here)
            go_upto_region 11 with fail
            clear k1 f1 l1
            apply Mem.atWpA
            · (repeat' (first | with_reducible exact hM | with_reducible exact hMp | with_reducible apply Mem.drew | with_reducible apply Mem.drewN | with_reducible apply Mem.alloc | with_reducible apply Mem.set | with_reducible exact Sto.row | ((with_reducible refine Sto.rowEq2 ?_ ?_); omega; rfl) | ((with_reducible refine Sto.rowEq ?_); omega) | with_reducible apply Sto.int | with_reducible apply Sto.there | with_reducible assumption | (unfold I64; omega) | (with_reducible (have hMx := Mem.undrew hM; exact hMx)) | (with_reducible (have hMx := Mem.undrew hMp; exact hMx))))
            clear hM
            intro wst hM
            (try simp only [World.size_alloc, World.size_setCell, World.heap_drewN, heapDrew, Nat.add_assoc, Nat.reduceAdd, List.setIfInBounds_toArray, List.set_cons_zero, List.set_cons_succ, List.cons_append, List.nil_append] at hM)
            refine AtT.startA hM.tail hM 11 (by kernel_rfl) ?_
            clear hM
            intro wd hM
            have hS := hM.tail
            refine AtT.taked (i := 0) (v := ?_) (some 43) rfl rfl (by kernel_rfl) (by kernel_rfl) (by kernel_rfl) (by kernel_rfl) (fun _ _ _ h => h) (Or.inl ⟨by kernel_rfl, ?_⟩) hS ?_
            rotate_left
            · (intro wS hSw; (try dsimp only at hSw); go_simp; (try rw [if_neg (by omega)]); try with_reducible rfl)
            simp only [Act.put, List.setIfInBounds_toArray, List.set_cons_zero, List.set_cons_succ]
            refine AtT.taked (i := 1) (v := ?_) (some 44) rfl rfl (by kernel_rfl) (by kernel_rfl) (by kernel_rfl) (by kernel_rfl) (fun _ _ _ h => h) (Or.inl ⟨by kernel_rfl, ?_⟩) hS ?_
            rotate_left
            · (intro wS hSw; (try dsimp only at hSw); have kr0 := (Mem.row hSw .here).cell; go_simp; (try rw [if_neg (by omega)]); try with_reducible rfl)
            simp only [Act.put, List.setIfInBounds_toArray, List.set_cons_zero, List.set_cons_succ]
            refine AtT.taked (i := 2) (v := ?_) (some 45) rfl rfl (by kernel_rfl) (by kernel_rfl) (by kernel_rfl) (by kernel_rfl) (fun _ _ _ h => h) (Or.inl ⟨by kernel_rfl, ?_⟩) hS ?_
            rotate_left
            · (intro wS hSw; (try dsimp only at hSw); go_simp; (try rw [if_neg (by omega)]); try with_reducible rfl)
            simp only [Act.put, List.setIfInBounds_toArray, List.set_cons_zero, List.set_cons_succ]
            refine AtT.taked (i := 3) (v := ?_) (some 46) rfl rfl (by kernel_rfl) (by kernel_rfl) (by kernel_rfl) (by kernel_rfl) (fun _ _ _ h => h) (Or.inl ⟨by kernel_rfl, ?_⟩) hS ?_
            rotate_left
            · (intro wS hSw; (try dsimp only at hSw); go_simp; (try rw [if_neg (by omega)]); try with_reducible rfl)
            simp only [Act.put, List.setIfInBounds_toArray, List.set_cons_zero, List.set_cons_succ]
            refine AtT.taked (i := 4) (v := ?_) (some 47) rfl rfl (by kernel_rfl) (by kernel_rfl) (by kernel_rfl) (by kernel_rfl) (fun _ _ _ h => h) (Or.inl ⟨by kernel_rfl, ?_⟩) hS ?_
            rotate_left
            · (intro wS hSw; (try dsimp only at hSw); have kr0 := (Mem.row hSw .here).cell; go_simp; (try rw [if_neg (by omega)]); try with_reducible rfl)
            simp only [Act.put, List.setIfInBounds_toArray, List.set_cons_zero, List.set_cons_succ]
            refine AtT.taked (i := 5) (v := ?_) (some 48) rfl rfl (by kernel_rfl) (by kernel_rfl) (by kernel_rfl) (by kernel_rfl) (fun _ _ _ h => h) (Or.inl ⟨by kernel_rfl, ?_⟩) hS ?_
            rotate_left
            · (intro wS hSw; (try dsimp only at hSw); go_simp; (try rw [if_neg (by omega)]); try with_reducible rfl)
            simp only [Act.put, List.setIfInBounds_toArray, List.set_cons_zero, List.set_cons_succ]
            refine AtT.taked (i := 6) (v := ?_) (some 49) rfl rfl (by kernel_rfl) (by kernel_rfl) (by kernel_rfl) (by kernel_rfl) (fun _ _ _ h => h) (Or.inl ⟨by kernel_rfl, ?_⟩) hS ?_
            rotate_left
            · (intro wS hSw; (try dsimp only at hSw); go_simp; (try rw [if_neg (by omega)]); try with_reducible rfl)
            simp only [Act.put, List.setIfInBounds_toArray, List.set_cons_zero, List.set_cons_succ]
            refine AtT.taked (i := 7) (v := ?_) (some 50) rfl rfl (by kernel_rfl) (by kernel_rfl) (by kernel_rfl) (by kernel_rfl) (fun _ _ _ h => h) (Or.inl ⟨by kernel_rfl, ?_⟩) hS ?_
            rotate_left
            · (intro wS hSw; (try dsimp only at hSw); go_simp; (try rw [if_neg (by omega)]); try with_reducible rfl)
            simp only [Act.put, List.setIfInBounds_toArray, List.set_cons_zero, List.set_cons_succ]
            refine AtT.only (i := 8) (by kernel_rfl) rfl rfl ?_
            intro K hK
            go_simp
            refine hK.out _ _ (by apply Mem.tail; apply Mem.tail; (repeat' (first | with_reducible exact hM | with_reducible exact hMp | with_reducible apply Mem.drew | with_reducible apply Mem.drewN | with_reducible apply Mem.alloc | with_reducible apply Mem.set | with_reducible exact Sto.row | ((with_reducible refine Sto.rowEq2 ?_ ?_); omega; rfl) | ((with_reducible refine Sto.rowEq ?_); omega) | with_reducible apply Sto.int | with_reducible apply Sto.there | with_reducible assumption | (unfold I64; omega) | (with_reducible (have hMx := Mem.undrew hM; exact hMx)) | (with_reducible (have hMx := Mem.undrew hMp; exact hMx))))) ?_
            clear hK K hS
            have hMp := hM
            apply Mem.atT
            · (repeat' (first | with_reducible exact hM | with_reducible exact hMp | with_reducible apply Mem.drew | with_reducible apply Mem.drewN | with_reducible apply Mem.alloc | with_reducible apply Mem.set | with_reducible exact Sto.row | ((with_reducible refine Sto.rowEq2 ?_ ?_); omega; rfl) | ((with_reducible refine Sto.rowEq ?_); omega) | with_reducible apply Sto.int | with_reducible apply Sto.there | with_reducible assumption | (unfold I64; omega) | (with_reducible (have hMx := Mem.undrew hM; exact hMx)) | (with_reducible (have hMx := Mem.undrew hMp; exact hMx))))
            clear hM
            intro hM
            (try simp only [World.size_alloc, World.size_setCell, World.heap_drewN, heapDrew, Nat.add_assoc, Nat.reduceAdd, List.setIfInBounds_toArray, List.set_cons_zero, List.set_cons_succ, List.cons_append, List.nil_append] at hM)
            have hS := hM.tail.tail
            refine AtT.only (i := 9) (by kernel_rfl) rfl rfl ?_
            intro K hK
            refine step_appM hM (fun _ => (.there .here)) (hM.oneI .here (by unfold I64; omega)) (by omega) rfl (.tmp 44) (.tmp 51) 26 Tryd.underlying26 rfl rfl rfl ?_
            clear hM
            intro a6 c6 w6 hM
            try dsimp only
            refine hK.out _ _ (hM.tail.tail) ?_
            clear hK K hS
            have hS := hM.tail.tail
            refine AtT.taked (i := 10) (v := ?_) (some 53) rfl rfl (by kernel_rfl) (by kernel_rfl) (by kernel_rfl) (by kernel_rfl) (fun _ _ _ h => h) (Or.inl ⟨by kernel_rfl, ?_⟩) hS ?_
            rotate_left
            · (intro wS hSw; (try dsimp only at hSw); go_simp; (try rw [if_neg (by omega)]); try with_reducible rfl)
            simp only [Act.put, List.setIfInBounds_toArray, List.set_cons_zero, List.set_cons_succ]
            refine AtT.last (by kernel_rfl) rfl (by kernel_rfl) ?_
            intro K hK
            clear hS
            have kk0 := (hM.row .here).cell
            have ff0 := (hM.row .here).free
            have ll0 := (hM.row .here).lt
            have kk2 := (hM.row (.there (.there .here))).cell
            have ff2 := (hM.row (.there (.there .here))).free
            have ll2 := (hM.row (.there (.there .here))).lt
            go_simp
            clear kk0 ff0 ll0 kk2 ff2 ll2
            refine hK.out _ _ ?_
            clear hK K
            apply Mem.atEx
            · (repeat' (first | with_reducible exact hM | with_reducible exact hMp | with_reducible apply Mem.drew | with_reducible apply Mem.drewN | with_reducible apply Mem.alloc | with_reducible apply Mem.set | with_reducible exact Sto.row | ((with_reducible refine Sto.rowEq2 ?_ ?_); omega; rfl) | ((with_reducible refine Sto.rowEq ?_); omega) | with_reducible apply Sto.int | with_reducible apply Sto.there | with_reducible assumption | (unfold I64; omega) | (with_reducible (have hMx := Mem.undrew hM; exact hMx)) | (with_reducible (have hMx := Mem.undrew hMp; exact hMx))))
            clear hM
            intro wst hM
            (try simp only [World.size_alloc, World.size_setCell, World.heap_drewN, heapDrew, Nat.add_assoc, Nat.reduceAdd, List.setIfInBounds_toArray, List.set_cons_zero, List.set_cons_succ, List.cons_append, List.nil_append] at hM)
            replace hM := hM.tail
            go_wp2
            go_roundw
            case rel => exact ⟨k + 1, a6, c6, by omega, by go_num, by rw [HBT.out, HLL.out]; exact hM⟩
            case measure => simp [intOf]; omega
      · obtain rfl : k = s.length := by omega
        rw [List.take_length] at hM
        have hpt := parse_text s
        rw [HV.out, HU.out] at hpt
        obtain ⟨L, hL⟩ : ∃ L, burnL s = L := ⟨_, rfl⟩
        rw [hL] at hM hpt
        have HL := Lib.hid hL; clear hL
        obtain ⟨g, hg⟩ : ∃ g, goodB 20 (V : Int) (U : Int) L = g := ⟨_, rfl⟩
        obtain ⟨t, ht⟩ : ∃ t, textR (V : Int) (U : Int) L = t := ⟨_, rfl⟩
        rw [hg, ht] at hpt
        have HG := Lib.hid hg
        clear hlt hk
        cases g
        · have hp : parseB s = false := by rw [← hpt]; rfl
          obtain ⟨e1, e2, e3⟩ := HPN.out hp
          obtain rfl : pb = false := by rw [← HPB.out]; exact hp
          subst e1 e2 e3
          clear hp hpt ht hg
          obtain ⟨k1, f1, l1⟩ := hM.row (.there .here)
          go_wp2_with fail
          clear k1 f1 l1
          apply Mem.atA
          · (repeat' (first | with_reducible exact hM | with_reducible exact hMp | with_reducible apply Mem.drew | with_reducible apply Mem.drewN | with_reducible apply Mem.alloc | with_reducible apply Mem.set | with_reducible exact Sto.row | ((with_reducible refine Sto.rowEq2 ?_ ?_); omega; rfl) | ((with_reducible refine Sto.rowEq ?_); omega) | with_reducible apply Sto.int | with_reducible apply Sto.there | with_reducible assumption | (unfold I64; omega) | (with_reducible (have hMx := Mem.undrew hM; exact hMx)) | (with_reducible (have hMx := Mem.undrew hMp; exact hMx))))
          clear hM
          intro wst hM
          (try simp only [World.size_alloc, World.size_setCell, World.heap_drewN, heapDrew, Nat.add_assoc, Nat.reduceAdd, List.setIfInBounds_toArray, List.set_cons_zero, List.set_cons_succ, List.cons_append, List.nil_append] at hM)
          (first | refine (l2Good_any (V : Int) (U : Int) a' L.length c' L _ (hM.intsR .here)).mono ?_)
          rw [HG.out]
          rintro e wc1 ⟨rfl, hb⟩
          replace hM := hM.ext hb
          clear hb
          obtain ⟨k3, f3, l3⟩ := hM.row (.there (.there (.there .here)))
          go_wp2
          refine bodyPost_ret (v := .tuple #[.agg #[.int .i64 0, .int .i64 0, .slice none 0 0], .bool false]) (by simp [results, Tryd.results30, go_sem, k3]) rfl ⟨none, 0, rfl, ?_⟩
          apply Mem.nilInts
          (repeat' (first | with_reducible exact hM | with_reducible exact hMp | with_reducible apply Mem.drew | with_reducible apply Mem.drewN | with_reducible apply Mem.alloc | with_reducible apply Mem.set | with_reducible exact Sto.row | ((with_reducible refine Sto.rowEq2 ?_ ?_); omega; rfl) | ((with_reducible refine Sto.rowEq ?_); omega) | with_reducible apply Sto.int | with_reducible apply Sto.there | with_reducible assumption | (unfold I64; omega) | (with_reducible (have hMx := Mem.undrew hM; exact hMx)) | (with_reducible (have hMx := Mem.undrew hMp; exact hMx))))
        · have htx := textR_good hg
          rw [ht] at htx
          obtain ⟨Wn, Hn, e1, e2, p1, p2, p3, p4, hlen, h25, hall⟩ := goodB_true hg
          obtain rfl : V = Wn := by omega
          have HTX := Lib.hid htx.symm; have HALL := Lib.hid hall
          have hl26 : L.length ≤ 26 := by omega
          clear hall hlen h25 e1 e2 htx ht hg p3 p4 Hn
          cases hts : (t == s)
          rotate_left
          · have hp : parseB s = true := by rw [← hpt]; unfold bne; rw [hts]; rfl
            obtain ⟨e1, e2, e3⟩ := HPY.out hp
            obtain rfl : pb = true := by rw [← HPB.out]; exact hp
            rw [HV.out] at e1
            rw [HU.out] at e2
            rw [HL.out] at e3
            subst e1 e2 e3
            clear hpt hp
            obtain ⟨k1, f1, l1⟩ := hM.row (.there .here)
            go_wp2_with fail
            clear k1 f1 l1
            apply Mem.atA
            · (repeat' (first | with_reducible exact hM | with_reducible exact hMp | with_reducible apply Mem.drew | with_reducible apply Mem.drewN | with_reducible apply Mem.alloc | with_reducible apply Mem.set | with_reducible exact Sto.row | ((with_reducible refine Sto.rowEq2 ?_ ?_); omega; rfl) | ((with_reducible refine Sto.rowEq ?_); omega) | with_reducible apply Sto.int | with_reducible apply Sto.there | with_reducible assumption | (unfold I64; omega) | (with_reducible (have hMx := Mem.undrew hM; exact hMx)) | (with_reducible (have hMx := Mem.undrew hMp; exact hMx))))
            clear hM
            intro wst hM
            (try simp only [World.size_alloc, World.size_setCell, World.heap_drewN, heapDrew, Nat.add_assoc, Nat.reduceAdd, List.setIfInBounds_toArray, List.set_cons_zero, List.set_cons_succ, List.cons_append, List.nil_append] at hM)
            (first | refine (l2Good_any (V : Int) (U : Int) a' L.length c' L _ (hM.intsR .here)).mono ?_)
            rw [HG.out]
            rintro e wc2 ⟨rfl, hb⟩
            replace hM := hM.ext hb
            clear hb
            obtain ⟨k1, f1, l1⟩ := hM.row (.there .here)
            go_wp2_with fail
            clear k1 f1 l1
            apply Mem.atA
            · (repeat' (first | with_reducible exact hM | with_reducible exact hMp | with_reducible apply Mem.drew | with_reducible apply Mem.drewN | with_reducible apply Mem.alloc | with_reducible apply Mem.set | with_reducible exact Sto.row | ((with_reducible refine Sto.rowEq2 ?_ ?_); omega; rfl) | ((with_reducible refine Sto.rowEq ?_); omega) | with_reducible apply Sto.int | with_reducible apply Sto.there | with_reducible assumption | (unfold I64; omega) | (with_reducible (have hMx := Mem.undrew hM; exact hMx)) | (with_reducible (have hMx := Mem.undrew hMp; exact hMx))))
            clear hM
            intro wst hM
            (try simp only [World.size_alloc, World.size_setCell, World.heap_drewN, heapDrew, Nat.add_assoc, Nat.reduceAdd, List.setIfInBounds_toArray, List.set_cons_zero, List.set_cons_succ, List.cons_append, List.nil_append] at hM)
            (first | refine (l2Text_any V (U : Int) a' L.length c' L _ (hM.intsR .here) ⟨p1, p2⟩ hl26 HALL.out).mono ?_)
            rw [HTX.out]
            rintro e wc3 ⟨rfl, hb⟩
            replace hM := hM.ext hb
            clear hb
            obtain ⟨k1, f1, l1⟩ := hM.row (.there .here)
            obtain ⟨k3, f3, l3⟩ := hM.row (.there (.there (.there .here)))
            go_wp2
            refine bodyPost_ret (v := .tuple #[.agg #[.int .i64 V, .int .i64 U, .slice a' L.length c'], .bool true]) (by simp [results, Tryd.results30, go_sem, k1, k3]) rfl ⟨a', c', rfl, ?_⟩
            apply Mem.first
            (repeat' (first | with_reducible exact hM | with_reducible exact hMp | with_reducible apply Mem.drew | with_reducible apply Mem.drewN | with_reducible apply Mem.alloc | with_reducible apply Mem.set | with_reducible exact Sto.row | ((with_reducible refine Sto.rowEq2 ?_ ?_); omega; rfl) | ((with_reducible refine Sto.rowEq ?_); omega) | with_reducible apply Sto.int | with_reducible apply Sto.there | with_reducible assumption | (unfold I64; omega) | (with_reducible (have hMx := Mem.undrew hM; exact hMx)) | (with_reducible (have hMx := Mem.undrew hMp; exact hMx))))
          · have hp : parseB s = false := by rw [← hpt]; unfold bne; rw [hts]; rfl
            clear hpt
            obtain ⟨e1, e2, e3⟩ := HPN.out hp
            obtain rfl : pb = false := by rw [← HPB.out]; exact hp
            subst e1 e2 e3
            clear hp
            obtain ⟨k1, f1, l1⟩ := hM.row (.there .here)
            go_wp2_with fail
            clear k1 f1 l1
            apply Mem.atA
            · (repeat' (first | with_reducible exact hM | with_reducible exact hMp | with_reducible apply Mem.drew | with_reducible apply Mem.drewN | with_reducible apply Mem.alloc | with_reducible apply Mem.set | with_reducible exact Sto.row | ((with_reducible refine Sto.rowEq2 ?_ ?_); omega; rfl) | ((with_reducible refine Sto.rowEq ?_); omega) | with_reducible apply Sto.int | with_reducible apply Sto.there | with_reducible assumption | (unfold I64; omega) | (with_reducible (have hMx := Mem.undrew hM; exact hMx)) | (with_reducible (have hMx := Mem.undrew hMp; exact hMx))))
            clear hM
            intro wst hM
            (try simp only [World.size_alloc, World.size_setCell, World.heap_drewN, heapDrew, Nat.add_assoc, Nat.reduceAdd, List.setIfInBounds_toArray, List.set_cons_zero, List.set_cons_succ, List.cons_append, List.nil_append] at hM)
            (first | refine (l2Good_any (V : Int) (U : Int) a' L.length c' L _ (hM.intsR .here)).mono ?_)
            rw [HG.out]
            rintro e wc4 ⟨rfl, hb⟩
            replace hM := hM.ext hb
            clear hb
            obtain ⟨k1, f1, l1⟩ := hM.row (.there .here)
            go_wp2_with fail
            clear k1 f1 l1
            apply Mem.atA
            · (repeat' (first | with_reducible exact hM | with_reducible exact hMp | with_reducible apply Mem.drew | with_reducible apply Mem.drewN | with_reducible apply Mem.alloc | with_reducible apply Mem.set | with_reducible exact Sto.row | ((with_reducible refine Sto.rowEq2 ?_ ?_); omega; rfl) | ((with_reducible refine Sto.rowEq ?_); omega) | with_reducible apply Sto.int | with_reducible apply Sto.there | with_reducible assumption | (unfold I64; omega) | (with_reducible (have hMx := Mem.undrew hM; exact hMx)) | (with_reducible (have hMx := Mem.undrew hMp; exact hMx))))
            clear hM
            intro wst hM
            (try simp only [World.size_alloc, World.size_setCell, World.heap_drewN, heapDrew, Nat.add_assoc, Nat.reduceAdd, List.setIfInBounds_toArray, List.set_cons_zero, List.set_cons_succ, List.cons_append, List.nil_append] at hM)
            (first | refine (l2Text_any V (U : Int) a' L.length c' L _ (hM.intsR .here) ⟨p1, p2⟩ hl26 HALL.out).mono ?_)
            rw [HTX.out]
            rintro e wc5 ⟨rfl, hb⟩
            replace hM := hM.ext hb
            clear hb
            obtain ⟨k3, f3, l3⟩ := hM.row (.there (.there (.there .here)))
            go_wp2
            refine bodyPost_ret (v := .tuple #[.agg #[.int .i64 0, .int .i64 0, .slice none 0 0], .bool false]) (by simp [results, Tryd.results30, go_sem, k3]) rfl ⟨none, 0, rfl, ?_⟩
            apply Mem.nilInts
            (repeat' (first | with_reducible exact hM | with_reducible exact hMp | with_reducible apply Mem.drew | with_reducible apply Mem.drewN | with_reducible apply Mem.alloc | with_reducible apply Mem.set | with_reducible exact Sto.row | ((with_reducible refine Sto.rowEq2 ?_ ?_); omega; rfl) | ((with_reducible refine Sto.rowEq ?_); omega) | with_reducible apply Sto.int | with_reducible apply Sto.there | with_reducible assumption | (unfold I64; omega) | (with_reducible (have hMx := Mem.undrew hM; exact hMx)) | (with_reducible (have hMx := Mem.undrew hMp; exact hMx))))
  · have h30' : (40 : Int) < (s.length : Int) := by omega
    have hp := parse_long (s := s) (by omega)
    obtain ⟨e1, e2, e3⟩ := HPN.out hp
    obtain rfl : pb = false := by rw [← HPB.out]; exact hp
    subst e1 e2 e3
    clear hp
    obtain ⟨k1, f1, l1⟩ := hM.row (.there .here)
    go_wp2
    refine bodyPost_ret (v := .tuple #[.agg #[.int .i64 0, .int .i64 0, .slice none 0 0], .bool false]) (by simp [results, Tryd.results30, go_sem, k1]) rfl ⟨none, 0, rfl, ?_⟩
    apply Mem.nilInts
    (repeat' (first | with_reducible exact hM | with_reducible exact hMp | with_reducible apply Mem.drew | with_reducible apply Mem.drewN | with_reducible apply Mem.alloc | with_reducible apply Mem.set | with_reducible exact Sto.row | ((with_reducible refine Sto.rowEq2 ?_ ?_); omega; rfl) | ((with_reducible refine Sto.rowEq ?_); omega) | with_reducible apply Sto.int | with_reducible apply Sto.there | with_reducible assumption | (unfold I64; omega) | (with_reducible (have hMx := Mem.undrew hM; exact hMx)) | (with_reducible (have hMx := Mem.undrew hMp; exact hMx))))
end Go.Proofs.YtpoabdmapbdmfaaDoor
