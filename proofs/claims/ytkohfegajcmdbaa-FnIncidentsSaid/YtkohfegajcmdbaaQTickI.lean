/-
  A tick of an incident in the program.
-/
import Derived.Test.YtkohfegajcmdbaaQTickT
/-
  A tick of an incident in the program.
-/
namespace Go.Proofs.Ytkohfegajcmdbaa
set_option linter.unusedSimpArgs false
set_option linter.unusedVariables false
open Go.RowKit

set_option maxRecDepth 100000 in
set_option maxHeartbeats 30000000 in
theorem tick_any (W Hn : Nat) (a : Option Addr) (n c : Nat) (xs : List Int) (af : Option Addr) (cf : Nat) (fs : List Int) (aw : Option Addr) (cw : Nat) (ws : List Int) (t : Int) (w : World) (h : Ints w a n c xs) (hf : Ints w af n cf fs) (hw : Ints w aw n cw ws) (hn25 : n ≤ 25) (hW : 1 ≤ W ∧ W ≤ 5) (ht : -1 ≤ t ∧ t ≤ 2000000) (hws : ∀ x ∈ ws, 0 ≤ x) :
    Calls Try.prog 137 #[.agg #[.int .i64 W, .int .i64 Hn, .slice a n c, .slice af n cf, .slice aw n cw, .int .i64 t]] w (fun e w' => ∃ b1 d1 b2 d2 b3 d3, e = .returned (.agg #[.int .i64 W, .int .i64 Hn, .slice b1 n d1, .slice b2 n d2, .slice b3 n d3, .int .i64 (t + 1)]) ∧ Mem w.heap.size w w' [intE b1 n d1 (xs), intE b2 n d2 (fireT W n xs fs ws), intE b3 n d3 (wetT n ws)]) := by
  have hM := Mem.start w
  have HLF := Lib.hid hf.len
  have HLW := Lib.hid hw.len
  have HL := Lib.hid h.len
  have HWS := Lib.hid hws
  have HT := Lib.hid (fireTo_thr (W := W) (n := n) (xs := xs) (fs := fs) (ws := ws))
  have HTN := Lib.hid (show ∀ x ∈ cellsN n (thrN W n xs fs ws), ∃ m : Nat, x = m ∧ m < n from fun x hx => by obtain ⟨m, e, h1, -⟩ := cellsN_mem.1 hx; exact ⟨m, e, h1⟩)
  have HUF := Lib.hid (upTo_zero (g := fire1 fs) hf.len)
  have HUW := Lib.hid (upTo_zero (g := wet1 ws) hw.len)
  clear hws
  go_enter Try.func137, Try.ntmps137
  go_wp2_with fail
  apply Mem.atA
  · (repeat' (first | with_reducible exact hM | with_reducible exact hMp | with_reducible apply Mem.drew | with_reducible apply Mem.drewN | with_reducible apply Mem.alloc | with_reducible apply Mem.set | with_reducible exact Sto.row | ((with_reducible refine Sto.rowEq2 ?_ ?_); omega; rfl) | ((with_reducible refine Sto.rowEq ?_); omega) | with_reducible apply Sto.int | with_reducible apply Sto.there | with_reducible assumption | (unfold I64; omega) | (with_reducible (have hMx := Mem.undrew hM; exact hMx)) | (with_reducible (have hMx := Mem.undrew hMp; exact hMx))))
  clear hM
  intro wst hM
  (try simp only [World.size_alloc, World.size_setCell, World.heap_drewN, heapDrew, Nat.add_assoc, Nat.reduceAdd, List.setIfInBounds_toArray, List.set_cons_zero, List.set_cons_succ, List.cons_append, List.nil_append] at hM)
  apply Calls.mono
  · (apply copiedInc_any W Hn a n c xs af cf fs aw cw ws t) <;> (first | (show (_ : Prop); with_reducible assumption) | (apply Hid.out; with_reducible assumption) | (apply Mem.intsR hM; (repeat' (first | with_reducible exact In.here | with_reducible apply In.there)); done) | (apply Ints.ext (hb := hM.below); with_reducible assumption) | (apply Rd.ext (hb := hM.below); with_reducible assumption) | (apply Mem.row hM; (repeat' (first | with_reducible exact In.here | with_reducible apply In.there)); done) | (apply Row.ext (hb := hM.below); with_reducible assumption) | exact ⟨by omega, by omega⟩ | omega | (trace_state; fail))
  rintro e wq ⟨b1, d1, b2, d2, b3, d3, rfl, hm⟩
  replace hM := hM.join hm
  clear hm
  (try simp only [World.size_alloc, World.size_setCell, World.heap_drewN, heapDrew, Nat.add_assoc, Nat.reduceAdd, List.setIfInBounds_toArray, List.set_cons_zero, List.set_cons_succ, List.cons_append, List.nil_append] at hM)
  obtain ⟨k4, f4, l4⟩ := hM.row (.there (.there (.there (.there .here))))
  go_wp2_with fail
  clear k4 f4 l4
  apply Mem.atWpA
  · (repeat' (first | with_reducible exact hM | with_reducible exact hMp | with_reducible apply Mem.drew | with_reducible apply Mem.drewN | with_reducible apply Mem.alloc | with_reducible apply Mem.set | with_reducible exact Sto.row | ((with_reducible refine Sto.rowEq2 ?_ ?_); omega; rfl) | ((with_reducible refine Sto.rowEq ?_); omega) | with_reducible apply Sto.int | with_reducible apply Sto.there | with_reducible assumption | (unfold I64; omega) | (with_reducible (have hMx := Mem.undrew hM; exact hMx)) | (with_reducible (have hMx := Mem.undrew hMp; exact hMx))))
  clear hM
  intro wst hM
  (try simp only [World.size_alloc, World.size_setCell, World.heap_drewN, heapDrew, Nat.add_assoc, Nat.reduceAdd, List.setIfInBounds_toArray, List.set_cons_zero, List.set_cons_succ, List.cons_append, List.nil_append] at hM)
  go_loopg [17] 100 (fun gh s17 wr => ∃ k : Nat, k ≤ n ∧ n - k ≤ gh ∧ s17 = .int .i64 k ∧ Mem w.heap.size w wr [rowE wq.heap.size 46 #[.int .i64 W, .int .i64 Hn, .slice b1 n d1, .slice b2 n d2, .slice b3 n d3, .int .i64 (t + 1)], intE b1 n d1 xs, intE b2 n d2 (upTo n k (fire1 fs) (fun c => fs.getD c 0)), intE b3 n d3 (upTo n k (wet1 ws) (fun c => ws.getD c 0)), rowE (w.heap.size + 1) 46 #[.int .i64 0, .int .i64 0, .slice none 0 0, .slice none 0 0, .slice none 0 0, .int .i64 0], rowE w.heap.size 46 #[.int .i64 W, .int .i64 Hn, .slice a n c, .slice af n cf, .slice aw n cw, .int .i64 t]])
  case atStart => exact ⟨0, Nat.zero_le _, by omega, rfl, by rw [HUF.out, HUW.out]; exact hM⟩
  case round =>
    clear hM
    obtain ⟨k, hk, hgh, rfl, hM⟩ := hrel
    by_cases hlt : k < n
    · obtain ⟨bx, offx, rfl, -, -⟩ := hf.at' _ hlt
      have hcx := (hf.ext hM.below).get hlt
      obtain ⟨bz, offz, rfl, -, -⟩ := hw.at' _ hlt
      have hz0 := HWS.out _ (getD_mem (xs := ws) (k := k) (by rw [HLW.out]; exact hlt))
      have hzw := hw.wf _ (getD_mem (xs := ws) (k := k) (by rw [HLW.out]; exact hlt))
      have hxw := hf.wf _ (getD_mem (xs := fs) (k := k) (by rw [HLF.out]; exact hlt))
      obtain ⟨g2, rfl, -⟩ := (hM.ints (.there (.there .here))).head (by omega)
      obtain ⟨g3, rfl, -⟩ := (hM.ints (.there (.there (.there .here)))).head (by omega)
      obtain ⟨x, hx⟩ : ∃ x, fs.getD k 0 = x := ⟨_, rfl⟩
      obtain ⟨z, hz⟩ : ∃ x, ws.getD k 0 = x := ⟨_, rfl⟩
      rw [hx] at hcx hxw
      rw [hz] at hz0 hzw
      unfold I64 at hzw hxw
      have hus := upTo_set (n := n) (k := k) (g := fire1 fs) (f := fun c => fs.getD c 0)
      have huw := upTo_set (n := n) (k := k) (g := wet1 ws) (f := fun c => ws.getD c 0)
      have hue := upTo_same (n := n) (k := k) (g := fire1 fs) (f := fun c => fs.getD c 0)
      rw [wet1, hz] at huw
      rw [fire1, hx] at hus hue
      have HUS := Lib.hid hus; have HUWS := Lib.hid huw; have HUE := Lib.hid hue; have HX := Lib.hid hx; have HZ := Lib.hid hz
      clear hx hz hus huw hue
      have i0 : (0 : Int) ≤ (k : Int) := by omega
      have i1 : (k : Int) < (n : Int) := by omega
      have hwz : IntKind.i64.wrap (z - 1) = z - 1 := wrap_in (by omega)
      go_upto_block 2 with fail
      go_cut [] (fun wx => Mem w.heap.size w wx [rowE wq.heap.size 46 #[.int .i64 W, .int .i64 Hn, .slice b1 n d1, .slice (some ⟨g2, 0, none⟩) n d2, .slice (some ⟨g3, 0, none⟩) n d3, .int .i64 (t + 1)], intE b1 n d1 xs, intE (some ⟨g2, 0, none⟩) n d2 (upTo n (k + 1) (fire1 fs) (fun c => fs.getD c 0)), intE (some ⟨g3, 0, none⟩) n d3 (upTo n k (wet1 ws) (fun c => ws.getD c 0)), rowE (w.heap.size + 1) 46 #[.int .i64 0, .int .i64 0, .slice none 0 0, .slice none 0 0, .slice none 0 0, .int .i64 0], rowE w.heap.size 46 #[.int .i64 W, .int .i64 Hn, .slice a n c, .slice (some ⟨bx, offx, none⟩) n cf, .slice (some ⟨bz, offz, none⟩) n cw, .int .i64 t]])
      case first =>
        have hfk := (hM.ints (.there (.there .here))).freeAt k
        have hdk := (hM.ints (.there (.there .here))).cellAt hlt
        obtain ⟨k0, f0, l0⟩ := hM.row .here
        by_cases h1 : x = 1
        · have he : (x == 1) = true := by simpa using h1
          have hs := HUS.out
          rw [if_pos h1] at hs
          have HS := Lib.hid hs
          clear hs h1
          go_wp2_with fail
          go_meet
          rw [← HS.out]
          (repeat' (first | with_reducible exact hM | with_reducible exact hMp | with_reducible apply Mem.drew | with_reducible apply Mem.drewN | with_reducible apply Mem.alloc | with_reducible apply Mem.set | with_reducible exact Sto.row | ((with_reducible refine Sto.rowEq2 ?_ ?_); omega; rfl) | ((with_reducible refine Sto.rowEq ?_); omega) | with_reducible apply Sto.int | with_reducible apply Sto.there | with_reducible assumption | (unfold I64; omega) | (with_reducible (have hMx := Mem.undrew hM; exact hMx)) | (with_reducible (have hMx := Mem.undrew hMp; exact hMx))))
        have he : (x == 1) = false := by simpa using h1
        have hs := HUS.out
        have hu := HUE.out
        rw [if_neg h1] at hs hu
        clear h1
        by_cases h2 : 1 < x
        · rw [if_pos h2] at hs
          have HS := Lib.hid hs
          clear hs hu
          go_wp2_with fail
          go_meet
          rw [← HS.out]
          (repeat' (first | with_reducible exact hM | with_reducible exact hMp | with_reducible apply Mem.drew | with_reducible apply Mem.drewN | with_reducible apply Mem.alloc | with_reducible apply Mem.set | with_reducible exact Sto.row | ((with_reducible refine Sto.rowEq2 ?_ ?_); omega; rfl) | ((with_reducible refine Sto.rowEq ?_); omega) | with_reducible apply Sto.int | with_reducible apply Sto.there | with_reducible assumption | (unfold I64; omega) | (with_reducible (have hMx := Mem.undrew hM; exact hMx)) | (with_reducible (have hMx := Mem.undrew hMp; exact hMx))))
        · rw [if_neg h2] at hu
          have HU := Lib.hid (hu rfl)
          clear hs hu
          go_wp2_with fail
          go_meet
          rw [HU.out]
          exact hM
      case rest =>
        clear hM hcx
        replace hM := hcut
        clear hcut
        go_wp2_with fail
        by_cases hmz : 1 < z
        · have HMZ := Lib.hid (show max 0 (z - 1) = z - 1 by omega)
          refine AtT.startA hM hM 11 (by kernel_rfl) ?_
          clear hM
          intro wd hM
          have hS := hM
          refine AtT.taked (i := 0) (v := ?_) (some 38) rfl rfl (by kernel_rfl) (by kernel_rfl) (by kernel_rfl) (by kernel_rfl) (fun _ _ _ h => h) (Or.inl ⟨by kernel_rfl, ?_⟩) hS ?_
          rotate_left
          · (intro wS hSw; (try dsimp only at hSw); go_simp; (try rw [if_neg (by omega)]); try with_reducible rfl)
          simp only [Act.put, List.setIfInBounds_toArray, List.set_cons_zero, List.set_cons_succ]
          refine AtT.taked (i := 1) (v := ?_) (some 39) rfl rfl (by kernel_rfl) (by kernel_rfl) (by kernel_rfl) (by kernel_rfl) (fun _ _ _ h => h) (Or.inl ⟨by kernel_rfl, ?_⟩) hS ?_
          rotate_left
          · (intro wS hSw; (try dsimp only at hSw); have kr0 := (Mem.row hSw .here).cell; have kr1 := (Mem.row hSw (.there (.there (.there (.there (.there .here)))))).cell; have hcz := (hw.ext hSw.below).get hlt; rw [HZ.out] at hcz; go_simp; (try rw [if_neg (by omega)]); try with_reducible rfl)
          simp only [Act.put, List.setIfInBounds_toArray, List.set_cons_zero, List.set_cons_succ]
          refine AtT.taked (i := 2) (v := ?_) (some 40) rfl rfl (by kernel_rfl) (by kernel_rfl) (by kernel_rfl) (by kernel_rfl) (fun _ _ _ h => h) (Or.inl ⟨by kernel_rfl, ?_⟩) hS ?_
          rotate_left
          · (intro wS hSw; (try dsimp only at hSw); go_simp; (try rw [if_neg (by omega)]); try with_reducible rfl)
          simp only [Act.put, List.setIfInBounds_toArray, List.set_cons_zero, List.set_cons_succ]
          refine AtT.taked (i := 3) (v := ?_) (some 41) rfl rfl (by kernel_rfl) (by kernel_rfl) (by kernel_rfl) (by kernel_rfl) (fun _ _ _ h => h) (Or.inl ⟨by kernel_rfl, ?_⟩) hS ?_
          rotate_left
          · (intro wS hSw; (try dsimp only at hSw); go_simp; (try rw [if_neg (by omega)]); try with_reducible rfl)
          simp only [Act.put, List.setIfInBounds_toArray, List.set_cons_zero, List.set_cons_succ]
          refine AtT.taked (i := 4) (v := ?_) (some 42) rfl rfl (by kernel_rfl) (by kernel_rfl) (by kernel_rfl) (by kernel_rfl) (fun _ _ _ h => h) (Or.inl ⟨by kernel_rfl, ?_⟩) hS ?_
          rotate_left
          · (intro wS hSw; (try dsimp only at hSw); have kr0 := (Mem.row hSw .here).cell; have kr1 := (Mem.row hSw (.there (.there (.there (.there (.there .here)))))).cell; have hcz := (hw.ext hSw.below).get hlt; rw [HZ.out] at hcz; go_simp; (try rw [if_neg (by omega)]); try with_reducible rfl)
          simp only [Act.put, List.setIfInBounds_toArray, List.set_cons_zero, List.set_cons_succ]
          refine AtT.taked (i := 5) (v := ?_) (some 43) rfl rfl (by kernel_rfl) (by kernel_rfl) (by kernel_rfl) (by kernel_rfl) (fun _ _ _ h => h) (Or.inl ⟨by kernel_rfl, ?_⟩) hS ?_
          rotate_left
          · (intro wS hSw; (try dsimp only at hSw); go_simp; (try rw [if_neg (by omega)]); try with_reducible rfl)
          simp only [Act.put, List.setIfInBounds_toArray, List.set_cons_zero, List.set_cons_succ]
          refine AtT.taked (i := 6) (v := ?_) (some 44) rfl rfl (by kernel_rfl) (by kernel_rfl) (by kernel_rfl) (by kernel_rfl) (fun _ _ _ h => h) (Or.inl ⟨by kernel_rfl, ?_⟩) hS ?_
          rotate_left
          · (intro wS hSw; (try dsimp only at hSw); have kr0 := (Mem.row hSw .here).cell; have kr1 := (Mem.row hSw (.there (.there (.there (.there (.there .here)))))).cell; have hcz := (hw.ext hSw.below).get hlt; rw [HZ.out] at hcz; go_simp; (try rw [if_neg (by omega)]); try with_reducible rfl)
          simp only [Act.put, List.setIfInBounds_toArray, List.set_cons_zero, List.set_cons_succ]
          refine AtT.taked (i := 7) (v := ?_) (some 45) rfl rfl (by kernel_rfl) (by kernel_rfl) (by kernel_rfl) (by kernel_rfl) (fun _ _ _ h => h) (Or.inl ⟨by kernel_rfl, ?_⟩) hS ?_
          rotate_left
          · (intro wS hSw; (try dsimp only at hSw); have kr0 := (Mem.row hSw .here).cell; have kr1 := (Mem.row hSw (.there (.there (.there (.there (.there .here)))))).cell; have hcz := (hw.ext hSw.below).get hlt; rw [HZ.out] at hcz; go_simp; (try rw [if_neg (by omega)]); try with_reducible rfl)
          simp only [Act.put, List.setIfInBounds_toArray, List.set_cons_zero, List.set_cons_succ]
          refine AtT.taked (i := 8) (v := ?_) (some 46) rfl rfl (by kernel_rfl) (by kernel_rfl) (by kernel_rfl) (by kernel_rfl) (fun _ _ _ h => h) (Or.inl ⟨by kernel_rfl, ?_⟩) hS ?_
          rotate_left
          · (intro wS hSw; (try dsimp only at hSw); go_simp; (try rw [if_neg (by omega)]); try with_reducible rfl)
          simp only [Act.put, List.setIfInBounds_toArray, List.set_cons_zero, List.set_cons_succ]
          refine AtT.taked (i := 9) (v := ?_) (some 47) rfl rfl (by kernel_rfl) (by kernel_rfl) (by kernel_rfl) (by kernel_rfl) (fun _ _ _ h => h) (Or.inl ⟨by kernel_rfl, ?_⟩) hS ?_
          rotate_left
          · (intro wS hSw; (try dsimp only at hSw); go_simp; (try rw [if_neg (by omega)]); try with_reducible rfl)
          simp only [Act.put, List.setIfInBounds_toArray, List.set_cons_zero, List.set_cons_succ]
          refine AtT.taked (i := 10) (v := ?_) (some 48) rfl rfl (by kernel_rfl) (by kernel_rfl) (by kernel_rfl) (by kernel_rfl) (fun _ _ _ h => h) (Or.inl ⟨by kernel_rfl, ?_⟩) hS ?_
          rotate_left
          · (intro wS hSw; (try dsimp only at hSw); have kr0 := (Mem.row hSw .here).cell; have kr1 := (Mem.row hSw (.there (.there (.there (.there (.there .here)))))).cell; have hcz := (hw.ext hSw.below).get hlt; rw [HZ.out] at hcz; go_simp; (try rw [if_neg (by omega)]); try with_reducible rfl)
          simp only [Act.put, List.setIfInBounds_toArray, List.set_cons_zero, List.set_cons_succ]
          refine AtT.last (by kernel_rfl) rfl (by kernel_rfl) ?_
          intro K hK
          clear hS
          have kk0 := (hM.row .here).cell
          have ff0 := (hM.row .here).free
          have ll0 := (hM.row .here).lt
          have kk5 := (hM.row (.there (.there (.there (.there (.there .here)))))).cell
          have ff5 := (hM.row (.there (.there (.there (.there (.there .here)))))).free
          have ll5 := (hM.row (.there (.there (.there (.there (.there .here)))))).lt
          have hfk := (hM.ints (.there (.there (.there .here)))).freeAt k
          have hdk := (hM.ints (.there (.there (.there .here)))).cellAt hlt
          go_simp
          clear kk0 ff0 ll0 kk5 ff5 ll5
          refine hK.out _ _ ?_
          clear hK K
          go_wp2
          go_roundg (gk - 1)
          case measure => omega
          case rel =>
            refine ⟨k + 1, by omega, by omega, by go_num, ?_⟩
            rw [← HUWS.out, HMZ.out]
            (repeat' (first | with_reducible exact hM | with_reducible exact hMp | with_reducible apply Mem.drew | with_reducible apply Mem.drewN | with_reducible apply Mem.alloc | with_reducible apply Mem.set | with_reducible exact Sto.row | ((with_reducible refine Sto.rowEq2 ?_ ?_); omega; rfl) | ((with_reducible refine Sto.rowEq ?_); omega) | with_reducible apply Sto.int | with_reducible apply Sto.there | with_reducible assumption | (unfold I64; omega) | (with_reducible (have hMx := Mem.undrew hM; exact hMx)) | (with_reducible (have hMx := Mem.undrew hMp; exact hMx))))
        · replace hmz : z ≤ 1 := by omega
          have HMZ := Lib.hid (show max 0 (z - 1) = 0 by omega)
          refine AtT.startA hM hM 11 (by kernel_rfl) ?_
          clear hM
          intro wd hM
          have hS := hM
          refine AtT.taked (i := 0) (v := ?_) (some 38) rfl rfl (by kernel_rfl) (by kernel_rfl) (by kernel_rfl) (by kernel_rfl) (fun _ _ _ h => h) (Or.inl ⟨by kernel_rfl, ?_⟩) hS ?_
          rotate_left
          · (intro wS hSw; (try dsimp only at hSw); go_simp; (try rw [if_neg (by omega)]); try with_reducible rfl)
          simp only [Act.put, List.setIfInBounds_toArray, List.set_cons_zero, List.set_cons_succ]
          refine AtT.taked (i := 1) (v := ?_) (some 39) rfl rfl (by kernel_rfl) (by kernel_rfl) (by kernel_rfl) (by kernel_rfl) (fun _ _ _ h => h) (Or.inl ⟨by kernel_rfl, ?_⟩) hS ?_
          rotate_left
          · (intro wS hSw; (try dsimp only at hSw); have kr0 := (Mem.row hSw .here).cell; have kr1 := (Mem.row hSw (.there (.there (.there (.there (.there .here)))))).cell; have hcz := (hw.ext hSw.below).get hlt; rw [HZ.out] at hcz; go_simp; (try rw [if_neg (by omega)]); try with_reducible rfl)
          simp only [Act.put, List.setIfInBounds_toArray, List.set_cons_zero, List.set_cons_succ]
          refine AtT.taked (i := 2) (v := ?_) (some 40) rfl rfl (by kernel_rfl) (by kernel_rfl) (by kernel_rfl) (by kernel_rfl) (fun _ _ _ h => h) (Or.inl ⟨by kernel_rfl, ?_⟩) hS ?_
          rotate_left
          · (intro wS hSw; (try dsimp only at hSw); go_simp; (try rw [if_neg (by omega)]); try with_reducible rfl)
          simp only [Act.put, List.setIfInBounds_toArray, List.set_cons_zero, List.set_cons_succ]
          refine AtT.taked (i := 3) (v := ?_) (some 41) rfl rfl (by kernel_rfl) (by kernel_rfl) (by kernel_rfl) (by kernel_rfl) (fun _ _ _ h => h) (Or.inl ⟨by kernel_rfl, ?_⟩) hS ?_
          rotate_left
          · (intro wS hSw; (try dsimp only at hSw); go_simp; (try rw [if_neg (by omega)]); try with_reducible rfl)
          simp only [Act.put, List.setIfInBounds_toArray, List.set_cons_zero, List.set_cons_succ]
          refine AtT.taked (i := 4) (v := ?_) (some 42) rfl rfl (by kernel_rfl) (by kernel_rfl) (by kernel_rfl) (by kernel_rfl) (fun _ _ _ h => h) (Or.inl ⟨by kernel_rfl, ?_⟩) hS ?_
          rotate_left
          · (intro wS hSw; (try dsimp only at hSw); have kr0 := (Mem.row hSw .here).cell; have kr1 := (Mem.row hSw (.there (.there (.there (.there (.there .here)))))).cell; have hcz := (hw.ext hSw.below).get hlt; rw [HZ.out] at hcz; go_simp; (try rw [if_neg (by omega)]); try with_reducible rfl)
          simp only [Act.put, List.setIfInBounds_toArray, List.set_cons_zero, List.set_cons_succ]
          refine AtT.taked (i := 5) (v := ?_) (some 43) rfl rfl (by kernel_rfl) (by kernel_rfl) (by kernel_rfl) (by kernel_rfl) (fun _ _ _ h => h) (Or.inl ⟨by kernel_rfl, ?_⟩) hS ?_
          rotate_left
          · (intro wS hSw; (try dsimp only at hSw); go_simp; (try rw [if_neg (by omega)]); try with_reducible rfl)
          simp only [Act.put, List.setIfInBounds_toArray, List.set_cons_zero, List.set_cons_succ]
          refine AtT.taked (i := 6) (v := ?_) (some 44) rfl rfl (by kernel_rfl) (by kernel_rfl) (by kernel_rfl) (by kernel_rfl) (fun _ _ _ h => h) (Or.inl ⟨by kernel_rfl, ?_⟩) hS ?_
          rotate_left
          · (intro wS hSw; (try dsimp only at hSw); have kr0 := (Mem.row hSw .here).cell; have kr1 := (Mem.row hSw (.there (.there (.there (.there (.there .here)))))).cell; have hcz := (hw.ext hSw.below).get hlt; rw [HZ.out] at hcz; go_simp; (try rw [if_neg (by omega)]); try with_reducible rfl)
          simp only [Act.put, List.setIfInBounds_toArray, List.set_cons_zero, List.set_cons_succ]
          refine AtT.taked (i := 7) (v := ?_) (some 45) rfl rfl (by kernel_rfl) (by kernel_rfl) (by kernel_rfl) (by kernel_rfl) (fun _ _ _ h => h) (Or.inl ⟨by kernel_rfl, ?_⟩) hS ?_
          rotate_left
          · (intro wS hSw; (try dsimp only at hSw); have kr0 := (Mem.row hSw .here).cell; have kr1 := (Mem.row hSw (.there (.there (.there (.there (.there .here)))))).cell; have hcz := (hw.ext hSw.below).get hlt; rw [HZ.out] at hcz; go_simp; (try rw [if_neg (by omega)]); try with_reducible rfl)
          simp only [Act.put, List.setIfInBounds_toArray, List.set_cons_zero, List.set_cons_succ]
          refine AtT.taked (i := 8) (v := ?_) (some 46) rfl rfl (by kernel_rfl) (by kernel_rfl) (by kernel_rfl) (by kernel_rfl) (fun _ _ _ h => h) (Or.inl ⟨by kernel_rfl, ?_⟩) hS ?_
          rotate_left
          · (intro wS hSw; (try dsimp only at hSw); go_simp; (try rw [if_neg (by omega)]); try with_reducible rfl)
          simp only [Act.put, List.setIfInBounds_toArray, List.set_cons_zero, List.set_cons_succ]
          refine AtT.taked (i := 9) (v := ?_) (some 47) rfl rfl (by kernel_rfl) (by kernel_rfl) (by kernel_rfl) (by kernel_rfl) (fun _ _ _ h => h) (Or.inl ⟨by kernel_rfl, ?_⟩) hS ?_
          rotate_left
          · (intro wS hSw; (try dsimp only at hSw); go_simp; (try rw [if_neg (by omega)]); try with_reducible rfl)
          simp only [Act.put, List.setIfInBounds_toArray, List.set_cons_zero, List.set_cons_succ]
          refine AtT.taked (i := 10) (v := ?_) (some 48) rfl rfl (by kernel_rfl) (by kernel_rfl) (by kernel_rfl) (by kernel_rfl) (fun _ _ _ h => h) (Or.inl ⟨by kernel_rfl, ?_⟩) hS ?_
          rotate_left
          · (intro wS hSw; (try dsimp only at hSw); have kr0 := (Mem.row hSw .here).cell; have kr1 := (Mem.row hSw (.there (.there (.there (.there (.there .here)))))).cell; have hcz := (hw.ext hSw.below).get hlt; rw [HZ.out] at hcz; go_simp; (try rw [if_neg (by omega)]); try with_reducible rfl)
          simp only [Act.put, List.setIfInBounds_toArray, List.set_cons_zero, List.set_cons_succ]
          refine AtT.last (by kernel_rfl) rfl (by kernel_rfl) ?_
          intro K hK
          clear hS
          have kk0 := (hM.row .here).cell
          have ff0 := (hM.row .here).free
          have ll0 := (hM.row .here).lt
          have kk5 := (hM.row (.there (.there (.there (.there (.there .here)))))).cell
          have ff5 := (hM.row (.there (.there (.there (.there (.there .here)))))).free
          have ll5 := (hM.row (.there (.there (.there (.there (.there .here)))))).lt
          have hfk := (hM.ints (.there (.there (.there .here)))).freeAt k
          have hdk := (hM.ints (.there (.there (.there .here)))).cellAt hlt
          go_simp
          clear kk0 ff0 ll0 kk5 ff5 ll5
          refine hK.out _ _ ?_
          clear hK K
          go_wp2
          go_roundg (gk - 1)
          case measure => omega
          case rel =>
            refine ⟨k + 1, by omega, by omega, by go_num, ?_⟩
            rw [← HUWS.out, HMZ.out]
            (repeat' (first | with_reducible exact hM | with_reducible exact hMp | with_reducible apply Mem.drew | with_reducible apply Mem.drewN | with_reducible apply Mem.alloc | with_reducible apply Mem.set | with_reducible exact Sto.row | ((with_reducible refine Sto.rowEq2 ?_ ?_); omega; rfl) | ((with_reducible refine Sto.rowEq ?_); omega) | with_reducible apply Sto.int | with_reducible apply Sto.there | with_reducible assumption | (unfold I64; omega) | (with_reducible (have hMx := Mem.undrew hM; exact hMx)) | (with_reducible (have hMx := Mem.undrew hMp; exact hMx))))
    · obtain rfl : k = n := by omega
      rw [upTo_all, upTo_all] at hM
      obtain ⟨k5, f5, l5⟩ := hM.row (.there (.there (.there (.there (.there .here)))))
      go_wp2_with fail
      clear k5 f5 l5
      apply Mem.atA
      · (repeat' (first | with_reducible exact hM | with_reducible exact hMp | with_reducible apply Mem.drew | with_reducible apply Mem.drewN | with_reducible apply Mem.alloc | with_reducible apply Mem.set | with_reducible exact Sto.row | ((with_reducible refine Sto.rowEq2 ?_ ?_); omega; rfl) | ((with_reducible refine Sto.rowEq ?_); omega) | with_reducible apply Sto.int | with_reducible apply Sto.there | with_reducible assumption | (unfold I64; omega) | (with_reducible (have hMx := Mem.undrew hM; exact hMx)) | (with_reducible (have hMx := Mem.undrew hMp; exact hMx))))
      clear hM
      intro wst hM
      (try simp only [World.size_alloc, World.size_setCell, World.heap_drewN, heapDrew, Nat.add_assoc, Nat.reduceAdd, List.setIfInBounds_toArray, List.set_cons_zero, List.set_cons_succ, List.cons_append, List.nil_append] at hM)
      apply Calls.mono
      · (apply threatened_any W Hn a k c xs af cf fs aw cw ws t) <;> (first | (show (_ : Prop); with_reducible assumption) | (apply Hid.out; with_reducible assumption) | (apply Mem.intsR hM; (repeat' (first | with_reducible exact In.here | with_reducible apply In.there)); done) | (apply Ints.ext (hb := hM.below); with_reducible assumption) | (apply Rd.ext (hb := hM.below); with_reducible assumption) | (apply Mem.row hM; (repeat' (first | with_reducible exact In.here | with_reducible apply In.there)); done) | (apply Row.ext (hb := hM.below); with_reducible assumption) | exact ⟨by omega, by omega⟩ | omega | (trace_state; fail))
      rintro e wc2 ⟨a7, m7, c7, rfl, hm⟩
      replace hM := hM.join hm
      clear hm
      (try simp only [World.size_alloc, World.size_setCell, World.heap_drewN, heapDrew, Nat.add_assoc, Nat.reduceAdd, List.setIfInBounds_toArray, List.set_cons_zero, List.set_cons_succ, List.cons_append, List.nil_append] at hM)
      have hml := (hM.ints .here).len
      have hmr := (hM.ints .here).room
      have HML := Lib.hid hml; clear hml
      obtain ⟨ds, hds⟩ : ∃ ds, cellsN k (thrN W k xs fs ws) = ds := ⟨_, rfl⟩
      have hdn := HTN.out
      have hdt := HT.out
      have hdl := HML.out
      rw [hds] at hM hdn hdt hdl
      have HDN := Lib.hid hdn; have HDT := Lib.hid hdt; have HDL := Lib.hid hdl
      clear hds hdn hdt hdl
      go_wp2_with fail
      go_loopw [53] (fun s53 wr => ∃ j : Nat, j ≤ m7 ∧ s53 = .int .i64 j ∧ Mem w.heap.size w wr [intE a7 m7 c7 ds, rowE wq.heap.size 46 #[.int .i64 W, .int .i64 Hn, .slice b1 k d1, .slice b2 k d2, .slice b3 k d3, .int .i64 (t + 1)], intE b1 k d1 xs, intE b2 k d2 (fireTo xs (ds.take j) ((List.range k).map (fire1 fs))), intE b3 k d3 (wetT k ws), rowE (w.heap.size + 1) 46 #[.int .i64 0, .int .i64 0, .slice none 0 0, .slice none 0 0, .slice none 0 0, .int .i64 0], rowE w.heap.size 46 #[.int .i64 W, .int .i64 Hn, .slice a k c, .slice af k cf, .slice aw k cw, .int .i64 t]]) (fun s53 _ => m7 - (intOf s53).toNat)
      case atStart => exact ⟨0, Nat.zero_le _, rfl, hM⟩
      case round =>
        clear hM
        obtain ⟨j, hj, rfl, hM⟩ := hrel
        by_cases hlj : j < m7
        · obtain ⟨g, rfl, -⟩ := (hM.ints .here).head (by omega)
          have hjl : j < ds.length := by rw [HDL.out]; exact hlj
          obtain ⟨d, hd, hdn⟩ := HDN.out _ (getD_mem hjl)
          have hcd := (hM.ints .here).cellAt hlj
          have hst := fireTo_succ (xs := xs) (acc := (List.range k).map (fire1 fs)) hjl
          rw [hd] at hcd hst
          rw [Int.toNat_natCast] at hst
          obtain ⟨bv, offv, rfl, -, -⟩ := h.at' _ hdn
          obtain ⟨g2, rfl, -⟩ := (hM.ints (.there (.there (.there .here)))).head (by omega)
          have hvw := h.wf _ (getD_mem (xs := xs) (k := d) (by rw [HL.out]; exact hdn))
          obtain ⟨v, hv⟩ : ∃ v, xs.getD d 0 = v := ⟨_, rfl⟩
          rw [hv] at hst hvw
          have HST := Lib.hid hst; have HV := Lib.hid hv; have HVW := Lib.hid hvw
          clear hst hv hd hjl hvw
          have j0 : (0 : Int) ≤ (j : Int) := by omega
          have j1 : (j : Int) < (m7 : Int) := by omega
          have e0 : (0 : Int) ≤ (d : Int) := by omega
          have e1 : (d : Int) < (k : Int) := by omega
          go_wp2_with fail
          apply Mem.atWpA
          · (repeat' (first | with_reducible exact hM | with_reducible exact hMp | with_reducible apply Mem.drew | with_reducible apply Mem.drewN | with_reducible apply Mem.alloc | with_reducible apply Mem.set | with_reducible exact Sto.row | ((with_reducible refine Sto.rowEq2 ?_ ?_); omega; rfl) | ((with_reducible refine Sto.rowEq ?_); omega) | with_reducible apply Sto.int | with_reducible apply Sto.there | with_reducible assumption | (unfold I64; omega) | (with_reducible (have hMx := Mem.undrew hM; exact hMx)) | (with_reducible (have hMx := Mem.undrew hMp; exact hMx))))
          clear hM
          intro wst hM
          (try simp only [World.size_alloc, World.size_setCell, World.heap_drewN, heapDrew, Nat.add_assoc, Nat.reduceAdd, List.setIfInBounds_toArray, List.set_cons_zero, List.set_cons_succ, List.cons_append, List.nil_append] at hM)
          clear hcd
          refine AtT.startA hM hM 10 (by kernel_rfl) ?_
          clear hM
          intro wd hM
          have hS := hM
          refine AtT.taked (i := 0) (v := ?_) (some 57) rfl rfl (by kernel_rfl) (by kernel_rfl) (by kernel_rfl) (by kernel_rfl) (fun _ _ _ h => h) (Or.inl ⟨by kernel_rfl, ?_⟩) hS ?_
          rotate_left
          · (intro wS hSw; (try dsimp only at hSw); go_simp; (try rw [if_neg (by omega)]); try with_reducible rfl)
          simp only [Act.put, List.setIfInBounds_toArray, List.set_cons_zero, List.set_cons_succ]
          refine AtT.taked (i := 1) (v := ?_) (some 58) rfl rfl (by kernel_rfl) (by kernel_rfl) (by kernel_rfl) (by kernel_rfl) (fun _ _ _ h => h) (Or.inl ⟨by kernel_rfl, ?_⟩) hS ?_
          rotate_left
          · (intro wS hSw; (try dsimp only at hSw); have kr0 := (Mem.row hSw (.there .here)).cell; have kr1 := (Mem.row hSw (.there (.there (.there (.there (.there (.there .here))))))).cell; have hcv := (h.ext hSw.below).get hdn; rw [HV.out] at hcv; go_simp; (try rw [if_neg (by omega)]); try with_reducible rfl)
          simp only [Act.put, List.setIfInBounds_toArray, List.set_cons_zero, List.set_cons_succ]
          refine AtT.taked (i := 2) (v := ?_) (some 59) rfl rfl (by kernel_rfl) (by kernel_rfl) (by kernel_rfl) (by kernel_rfl) (fun _ _ _ h => h) (Or.inl ⟨by kernel_rfl, ?_⟩) hS ?_
          rotate_left
          · (intro wS hSw; (try dsimp only at hSw); go_simp; (try rw [if_neg (by omega)]); try with_reducible rfl)
          simp only [Act.put, List.setIfInBounds_toArray, List.set_cons_zero, List.set_cons_succ]
          refine AtT.taked (i := 3) (v := ?_) (some 60) rfl rfl (by kernel_rfl) (by kernel_rfl) (by kernel_rfl) (by kernel_rfl) (fun _ _ _ h => h) (Or.inl ⟨by kernel_rfl, ?_⟩) hS ?_
          rotate_left
          · (intro wS hSw; (try dsimp only at hSw); go_simp; (try rw [if_neg (by omega)]); try with_reducible rfl)
          simp only [Act.put, List.setIfInBounds_toArray, List.set_cons_zero, List.set_cons_succ]
          refine AtT.taked (i := 4) (v := ?_) (some 61) rfl rfl (by kernel_rfl) (by kernel_rfl) (by kernel_rfl) (by kernel_rfl) (fun _ _ _ h => h) (Or.inl ⟨by kernel_rfl, ?_⟩) hS ?_
          rotate_left
          · (intro wS hSw; (try dsimp only at hSw); go_simp; (try rw [if_neg (by omega)]); try with_reducible rfl)
          simp only [Act.put, List.setIfInBounds_toArray, List.set_cons_zero, List.set_cons_succ]
          refine AtT.taked (i := 5) (v := ?_) (some 62) rfl rfl (by kernel_rfl) (by kernel_rfl) (by kernel_rfl) (by kernel_rfl) (fun _ _ _ h => h) (Or.inl ⟨by kernel_rfl, ?_⟩) hS ?_
          rotate_left
          · (intro wS hSw; (try dsimp only at hSw); have kr0 := (Mem.row hSw (.there .here)).cell; have kr1 := (Mem.row hSw (.there (.there (.there (.there (.there (.there .here))))))).cell; have hcv := (h.ext hSw.below).get hdn; rw [HV.out] at hcv; go_simp; (try rw [if_neg (by omega)]); try with_reducible rfl)
          simp only [Act.put, List.setIfInBounds_toArray, List.set_cons_zero, List.set_cons_succ]
          refine AtT.taked (i := 6) (v := ?_) (some 63) rfl rfl (by kernel_rfl) (by kernel_rfl) (by kernel_rfl) (by kernel_rfl) (fun _ _ _ h => h) (Or.inl ⟨by kernel_rfl, ?_⟩) hS ?_
          rotate_left
          · (intro wS hSw; (try dsimp only at hSw); go_simp; (try rw [if_neg (by omega)]); try with_reducible rfl)
          simp only [Act.put, List.setIfInBounds_toArray, List.set_cons_zero, List.set_cons_succ]
          refine AtT.taked (i := 7) (v := ?_) (some 64) rfl rfl (by kernel_rfl) (by kernel_rfl) (by kernel_rfl) (by kernel_rfl) (fun _ _ _ h => h) (Or.inl ⟨by kernel_rfl, ?_⟩) hS ?_
          rotate_left
          · (intro wS hSw; (try dsimp only at hSw); have kr0 := (Mem.row hSw (.there .here)).cell; have kr1 := (Mem.row hSw (.there (.there (.there (.there (.there (.there .here))))))).cell; have hcv := (h.ext hSw.below).get hdn; rw [HV.out] at hcv; go_simp; (try rw [if_neg (by omega)]); try with_reducible rfl)
          simp only [Act.put, List.setIfInBounds_toArray, List.set_cons_zero, List.set_cons_succ]
          refine AtT.taked (i := 8) (v := ?_) (some 65) rfl rfl (by kernel_rfl) (by kernel_rfl) (by kernel_rfl) (by kernel_rfl) (fun _ _ _ h => h) (Or.inl ⟨by kernel_rfl, ?_⟩) hS ?_
          rotate_left
          · (intro wS hSw; (try dsimp only at hSw); have kr0 := (Mem.row hSw (.there .here)).cell; have kr1 := (Mem.row hSw (.there (.there (.there (.there (.there (.there .here))))))).cell; have hcv := (h.ext hSw.below).get hdn; rw [HV.out] at hcv; go_simp; (try rw [if_neg (by omega)]); try with_reducible rfl)
          simp only [Act.put, List.setIfInBounds_toArray, List.set_cons_zero, List.set_cons_succ]
          refine AtT.taked (i := 9) (v := ?_) (some 66) rfl rfl (by kernel_rfl) (by kernel_rfl) (by kernel_rfl) (by kernel_rfl) (fun _ _ _ h => h) (Or.inl ⟨by kernel_rfl, ?_⟩) hS ?_
          rotate_left
          · (intro wS hSw; (try dsimp only at hSw); have kr0 := (Mem.row hSw (.there .here)).cell; have kr1 := (Mem.row hSw (.there (.there (.there (.there (.there (.there .here))))))).cell; have hcv := (h.ext hSw.below).get hdn; rw [HV.out] at hcv; go_simp; (try rw [if_neg (by omega)]); try with_reducible rfl)
          simp only [Act.put, List.setIfInBounds_toArray, List.set_cons_zero, List.set_cons_succ]
          refine AtT.last (by kernel_rfl) rfl (by kernel_rfl) ?_
          intro K hK
          clear hS
          have kk1 := (hM.row (.there .here)).cell
          have ff1 := (hM.row (.there .here)).free
          have ll1 := (hM.row (.there .here)).lt
          have kk6 := (hM.row (.there (.there (.there (.there (.there (.there .here))))))).cell
          have ff6 := (hM.row (.there (.there (.there (.there (.there (.there .here))))))).free
          have ll6 := (hM.row (.there (.there (.there (.there (.there (.there .here))))))).lt
          have hfk := (hM.ints (.there (.there (.there .here)))).freeAt d
          have hdk := (hM.ints (.there (.there (.there .here)))).cellAt hdn
          go_simp
          clear kk1 ff1 ll1 kk6 ff6 ll6
          refine hK.out _ _ ?_
          clear hK K
          go_wp2
          go_roundw
          case rel =>
            refine ⟨j + 1, by omega, by go_num, ?_⟩
            rw [HST.out]
            have hvw : I64 v := HVW.out
            (repeat' (first | with_reducible exact hM | with_reducible exact hMp | with_reducible apply Mem.drew | with_reducible apply Mem.drewN | with_reducible apply Mem.alloc | with_reducible apply Mem.set | with_reducible exact Sto.row | ((with_reducible refine Sto.rowEq2 ?_ ?_); omega; rfl) | ((with_reducible refine Sto.rowEq ?_); omega) | with_reducible apply Sto.int | with_reducible apply Sto.there | with_reducible assumption | (unfold I64; omega) | (with_reducible (have hMx := Mem.undrew hM; exact hMx)) | (with_reducible (have hMx := Mem.undrew hMp; exact hMx))))
          case measure => simp [intOf]; omega
        · obtain rfl : j = m7 := by omega
          rw [List.take_of_length_le (by rw [HDL.out]; exact Nat.le_refl _), HDT.out] at hM
          obtain ⟨k1, f1, l1⟩ := hM.row (.there .here)
          obtain ⟨k5, f5, l5⟩ := hM.row (.there (.there (.there (.there (.there .here)))))
          go_wp2
          refine bodyPost_ret (v := .agg #[.int .i64 W, .int .i64 Hn, .slice b1 k d1, .slice b2 k d2, .slice b3 k d3, .int .i64 (t + 1)]) (by simp [results, Try.results137, go_sem, k5]) rfl ⟨b1, d1, b2, d2, b3, d3, rfl, ?_⟩
          apply Mem.pick (is := [2, 3, 4])
          · (repeat' (first | with_reducible exact hM | with_reducible exact hMp | with_reducible apply Mem.drew | with_reducible apply Mem.drewN | with_reducible apply Mem.alloc | with_reducible apply Mem.set | with_reducible exact Sto.row | ((with_reducible refine Sto.rowEq2 ?_ ?_); omega; rfl) | ((with_reducible refine Sto.rowEq ?_); omega) | with_reducible apply Sto.int | with_reducible apply Sto.there | with_reducible assumption | (unfold I64; omega) | (with_reducible (have hMx := Mem.undrew hM; exact hMx)) | (with_reducible (have hMx := Mem.undrew hMp; exact hMx))))
          · decide
          · rfl
end Go.Proofs.Ytkohfegajcmdbaa
