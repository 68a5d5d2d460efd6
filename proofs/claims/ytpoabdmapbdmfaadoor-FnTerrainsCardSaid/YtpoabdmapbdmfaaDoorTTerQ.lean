/-
  ParseTerrain: the program's.
-/
import Derived.Test.YtpoabdmapbdmfaaDoorTTerS
import Derived.Test.YtpoabdmapbdmfaaDoorTRecD
import Derived.Test.YtpoabdmapbdmfaaDoorTRegF
/-
  ParseTerrain: the program's.
-/
namespace Go.Proofs.YtpoabdmapbdmfaaDoor
set_option linter.unusedSimpArgs false
set_option linter.unusedVariables false
open Go.RowKit

theorem tw_bef : ∀ s : Bs, s.takeWhile notN = befB 10 s
  | [] => rfl
  | x :: s => by
    rw [List.takeWhile_cons, befB, tw_bef s]
    unfold notN
    cases h : (x == 10) <;> simp
theorem high_take {s : Bs} {k : Nat} (h : k < s.length) : highL (s.take (k + 1)) = highL (s.take k) + if s.getD k 0 == 10 then 1 else 0 := by
  unfold highL
  rw [List.take_succ_eq_append_getElem h, List.filter_append, List.length_append, show s.getD k 0 = s[k] by simp [List.getD, h], List.filter_cons]
  unfold notN
  cases s[k] == 10 <;> rfl
theorem splitTo_high (s : Bs) : ∀ k, k ≤ s.length → (splitTo 10 s k).1.length = highL (s.take k)
  | 0, _ => rfl
  | k + 1, hk => by
    have ih := splitTo_high s k (by omega)
    rw [high_take (by omega), splitTo]
    split
    · rw [List.length_append, ih]; rfl
    · rw [ih]; rfl
theorem splitB_high (s : Bs) : (splitB 10 s).length = highL s + 1 := by
  have := splitTo_high s s.length (Nat.le_refl _)
  rw [List.take_length] at this
  rw [splitB, List.length_append, this]
  rfl
theorem splitB_wide (s : Bs) : (splitB 10 s).getD 0 [] = s.takeWhile notN := by
  obtain ⟨r, h, -⟩ := splitB_form 10 s
  rw [h, tw_bef]
  rfl
theorem burn_take {s : Bs} {k : Nat} (h : k < s.length) : burnL (s.take (k + 1)) = burnL (s.take k) ++ if s.getD k 0 == 10 then [] else [burnC (s.getD k 0)] := by
  unfold burnL
  rw [List.take_succ_eq_append_getElem h, List.filter_append, List.map_append, show s.getD k 0 = s[k] by simp [List.getD, h], List.filter_cons]
  unfold notN
  cases s[k] == 10 <;> rfl
theorem burn_len (s : Bs) : (burnL s).length ≤ s.length := by
  unfold burnL
  rw [List.length_map]
  exact List.length_filter_le _ _
theorem wide_le (s : Bs) : wideL s ≤ s.length := by
  unfold wideL
  exact (List.takeWhile_sublist _).length_le
theorem high_le (s : Bs) : highL s ≤ s.length := by
  unfold highL
  exact List.length_filter_le _ _
theorem burn_wf (s : Bs) : ∀ x ∈ burnL s, -97 ≤ x ∧ x ≤ 200 := by
  intro x hx
  obtain ⟨c, -, rfl⟩ := List.mem_map.1 hx
  have := c.toNat_lt
  unfold burnC
  split <;> omega
/-- what a terrain that is read is -/
def parW (s : Bs) : Int := if parseB s then wideL s else 0
def parH (s : Bs) : Int := if parseB s then highL s else 0
def parL (s : Bs) : List Int := if parseB s then burnL s else []
theorem par_no {s : Bs} (h : parseB s = false) : parW s = 0 ∧ parH s = 0 ∧ parL s = [] := by unfold parW parH parL; rw [h]; exact ⟨rfl, rfl, rfl⟩
theorem par_yes {s : Bs} (h : parseB s = true) : parW s = wideL s ∧ parH s = highL s ∧ parL s = burnL s := by unfold parW parH parL; rw [h]; exact ⟨rfl, rfl, rfl⟩
theorem parse_text (s : Bs) : (goodB 20 (wideL s) (highL s) (burnL s) && !(textR (wideL s) (highL s) (burnL s) != s)) = parseB s := by
  unfold parseB textR
  cases h : goodB 20 (wideL s) (highL s) (burnL s)
  · rfl
  · rw [Int.toNat_natCast]
    by_cases e : textB (wideL s) (burnL s) = s
    · simp [e]
    · simp [e]
theorem parse_long {s : Bs} (h : 30 < s.length) : parseB s = false := by
  cases hp : parseB s
  · rfl
  · have := (parse_good hp).2.2
    omega
theorem Mem.nilIT {B : Nat} {w0 w : World} {G : List Ent} (h : Mem B w0 w G) : Mem B w0 w (intE none 0 0 [] :: G) := by
  refine ⟨h.below, h.size, ?_, List.pairwise_cons.2 ⟨fun e _ k hk => ?_, h.apart⟩⟩
  · intro e he
    rcases List.mem_cons.1 he with rfl | he
    · exact own_nil _ _
    · exact h.ents e he
  · simp [intE, blockOf] at hk
theorem burn_char {x : UInt8} {v : Nat} (h : x.toNat = v) : (x == 10) = decide (v = 10) ∧ burnC x = if v = 46 then 0 else (v : Int) - 97 + 1 := by
  have e1 : ∀ y : UInt8, (x = y ↔ v = y.toNat) := fun y => by rw [← h]; exact ⟨fun e => by rw [e], fun e => UInt8.toNat_inj.1 e⟩
  refine ⟨?_, ?_⟩
  · have : x = 10 ↔ v = 10 := e1 10
    by_cases e : x = 10
    · rw [decide_eq_true (this.1 e)]; simpa using e
    · rw [decide_eq_false (fun c => e (this.2 c))]; simpa using e
  · unfold burnC
    rw [h]
    have : x = 46 ↔ v = 46 := e1 46
    by_cases e : x = 46
    · rw [if_pos e, if_pos (this.1 e)]
    · rw [if_neg e, if_neg (fun c => e (this.2 c))]
set_option maxRecDepth 100000 in
set_option maxHeartbeats 16000000 in
theorem implParse_any (s : Bs) (w : World) (hm : Mx w) (hs : s.length ≤ 1000000) :
    Calls Tryd.prog 25 #[.string (bsA s)] w fun e w' => ∃ a' c', e = .returned (.tuple #[.agg #[.int .i64 (parW s), .int .i64 (parH s), .slice a' (parL s).length c'], .bool (parseB s)]) ∧ Mem w.heap.size w w' [intE a' (parL s).length c' (parL s)] := by
  have hM := Mem.start w
  have HMX := Lib.hid hm; clear hm
  have S1 := bsA_size
  have S3 := bsA_list
  have hVs := wide_le s
  have hUs := high_le s
  obtain ⟨V, hV⟩ : ∃ V, wideL s = V := ⟨_, rfl⟩
  obtain ⟨U, hU⟩ : ∃ U, highL s = U := ⟨_, rfl⟩
  obtain ⟨T, hT⟩ : ∃ T, s.takeWhile notN = T := ⟨_, rfl⟩
  have hTl : T.length = V := by rw [← hT, ← hV]; rfl
  rw [hV] at hVs
  rw [hU] at hUs
  have HV := Lib.hid hV; have HU := Lib.hid hU; have HT := Lib.hid hT
  clear hV hU hT
  have hw1 : IntKind.i64.wrap (((U + 1 : Nat) : Int) - 1) = (U : Int) := by rw [wrap_in (by omega)]; omega
  have hU1 : (0 : Int) < ((U + 1 : Nat) : Int) := by omega
  obtain ⟨pb, hpb⟩ : ∃ b, parseB s = b := ⟨_, rfl⟩
  obtain ⟨pw, hpw⟩ : ∃ b, parW s = b := ⟨_, rfl⟩
  obtain ⟨ph, hph⟩ : ∃ b, parH s = b := ⟨_, rfl⟩
  obtain ⟨pl, hpl⟩ : ∃ b, parL s = b := ⟨_, rfl⟩
  rw [hpb, hpw, hph, hpl]
  have HPN := Lib.hid (show parseB s = false → 0 = pw ∧ 0 = ph ∧ [] = pl from fun h => ⟨(par_no h).1.symm.trans hpw, (par_no h).2.1.symm.trans hph, (par_no h).2.2.symm.trans hpl⟩)
  have HPY := Lib.hid (show parseB s = true → (wideL s : Int) = pw ∧ (highL s : Int) = ph ∧ burnL s = pl from fun h => ⟨(par_yes h).1.symm.trans hpw, (par_yes h).2.1.symm.trans hph, (par_yes h).2.2.symm.trans hpl⟩)
  have HPB := Lib.hid hpb
  clear hpb hpw hph hpl
  go_enter Tryd.func25, Tryd.ntmps25
  go_wp2_with fail
  apply Mem.atA
  · (repeat' (first | with_reducible exact hM | with_reducible exact hMp | with_reducible apply Mem.drew | with_reducible apply Mem.drewN | with_reducible apply Mem.alloc | with_reducible apply Mem.set | with_reducible exact Sto.row | ((with_reducible refine Sto.rowEq2 ?_ ?_); omega; rfl) | ((with_reducible refine Sto.rowEq ?_); omega) | with_reducible apply Sto.int | with_reducible apply Sto.there | with_reducible assumption | (unfold I64; omega) | (with_reducible (have hMx := Mem.undrew hM; exact hMx)) | (with_reducible (have hMx := Mem.undrew hMp; exact hMx))))
  clear hM
  intro wst hM
  (try simp only [World.size_alloc, World.size_setCell, World.heap_drewN, heapDrew, Nat.add_assoc, Nat.reduceAdd, List.setIfInBounds_toArray, List.set_cons_zero, List.set_cons_succ, List.cons_append, List.nil_append] at hM)
  refine (split_any s _ (HMX.out.ext hM.below) hs).mono ?_
  rw [HT.out, HU.out]
  rintro e w3 ⟨cs, hc0, rfl, hm⟩
  replace hM := hM.join hm
  clear hm
  dsimp only [List.cons_append, List.nil_append] at hM
  have HC0 := Lib.hid hc0; clear hc0
  have hck := (hM.row .here).cell 0
  rw [HC0.out] at hck
  obtain ⟨gs, hgs⟩ : ∃ b, wst.heap.size = b := ⟨_, rfl⟩
  rw [hgs] at hM hck ⊢
  clear hgs
  by_cases h30 : s.length ≤ 30
  · have h30' : ¬ ((30 : Int) < (s.length : Int)) := by omega
    go_wp2_with fail
    apply Mem.atWpA
    · (repeat' (first | with_reducible exact hM | with_reducible exact hMp | with_reducible apply Mem.drew | with_reducible apply Mem.drewN | with_reducible apply Mem.alloc | with_reducible apply Mem.set | with_reducible exact Sto.row | ((with_reducible refine Sto.rowEq2 ?_ ?_); omega; rfl) | ((with_reducible refine Sto.rowEq ?_); omega) | with_reducible apply Sto.int | with_reducible apply Sto.there | with_reducible assumption | (unfold I64; omega) | (with_reducible (have hMx := Mem.undrew hM; exact hMx)) | (with_reducible (have hMx := Mem.undrew hMp; exact hMx))))
    clear hM
    intro wst hM
    (try simp only [World.size_alloc, World.size_setCell, World.heap_drewN, heapDrew, Nat.add_assoc, Nat.reduceAdd, List.setIfInBounds_toArray, List.set_cons_zero, List.set_cons_succ, List.cons_append, List.nil_append] at hM)
    clear hck hw1 hU1 h30'
    replace hM := Mem.nilIT hM
    obtain ⟨b5, hb5⟩ : ∃ b, w3.heap.size = b := ⟨_, rfl⟩
    rw [hb5] at hM ⊢
    clear hb5
    go_loopw [25] (fun s25 wr => ∃ (k : Nat) (a' : Option Addr) (c' : Nat), k ≤ s.length ∧ s25 = .int .i64 k ∧ Mem w.heap.size w wr [intE a' (burnL (s.take k)).length c' (burnL (s.take k)), rowE b5 44 #[.int .i64 V, .int .i64 U, .slice a' (burnL (s.take k)).length c'], rowE gs 9 cs, rowE w.heap.size 44 #[.int .i64 0, .int .i64 0, .slice none 0 0]]) (fun s25 _ => s.length - (intOf s25).toNat)
    case atStart => exact ⟨0, none, 0, Nat.zero_le _, rfl, hM⟩
    case round =>
      clear hM
      obtain ⟨k, a', c', hk, rfl, hM⟩ := hrel
      by_cases hlt : k < s.length
      · have hbt := burn_take hlt
        have hbl := burn_len (s.take k)
        rw [List.length_take] at hbl
        have S2 := bsA_get s k
        generalize s.getD k 0 = x at hbt S2
        obtain ⟨L, hL⟩ : ∃ L, burnL (s.take k) = L := ⟨_, rfl⟩
        rw [hL] at hbt hbl hM
        clear hL
        have hL30 : L.length ≤ 30 := by omega
        clear hbl
        have hv256 := x.toNat_lt
        obtain ⟨v, hv⟩ : ∃ v : Nat, x.toNat = v := ⟨_, rfl⟩
        obtain ⟨h10, hbc⟩ := burn_char hv
        rw [hv] at hv256
        rw [h10, hbc] at hbt
        clear h10 hbc
        have i0 : (0 : Int) ≤ (k : Int) := by omega
        have i1 : (k : Int) < (s.length : Int) := by omega
        by_cases v46 : v = 46
        · subst v46
          have HBT := Lib.hid (show burnL (s.take (k + 1)) = L ++ [0] from hbt)
          have hll : (L ++ [(0 : Int)]).length = L.length + 1 := by rw [List.length_append]; rfl
          have HLL := Lib.hid hll; clear hbt hll
          obtain ⟨k1, f1, l1⟩ := hM.row (.there .here)
          go_wp2_with (at_builtin; apply Mem.atL; (focus ((repeat' (first | with_reducible exact hM | with_reducible exact hMp | with_reducible apply Mem.drew | with_reducible apply Mem.drewN | with_reducible apply Mem.alloc | with_reducible apply Mem.set | with_reducible exact Sto.row | ((with_reducible refine Sto.rowEq2 ?_ ?_); omega; rfl) | ((with_reducible refine Sto.rowEq ?_); omega) | with_reducible apply Sto.int | with_reducible apply Sto.there | with_reducible assumption | (unfold I64; omega) | (with_reducible (have hMx := Mem.undrew hM; exact hMx)) | (with_reducible (have hMx := Mem.undrew hMp; exact hMx)))); done)); clear hM k1 f1 l1; intro hM; (try simp only [World.size_alloc, World.size_setCell, World.heap_drewN, heapDrew, Nat.add_assoc, Nat.reduceAdd, List.setIfInBounds_toArray, List.set_cons_zero, List.set_cons_succ, List.cons_append, List.nil_append] at hM); refine wpList_pushI hM (fun _ => .here) (by unfold I64; omega) (by omega) rfl _ _ _ Tryd.underlying26 rfl rfl rfl ?_)
          intro a3 c3 w4 hM
          obtain ⟨k1, f1, l1⟩ := hM.row (.there .here)
          go_wp2
          go_roundw
          case rel => exact ⟨k + 1, a3, c3, by omega, by go_num, by rw [HBT.out, HLL.out]; (repeat' (first | with_reducible exact hM | with_reducible exact hMp | with_reducible apply Mem.drew | with_reducible apply Mem.drewN | with_reducible apply Mem.alloc | with_reducible apply Mem.set | with_reducible exact Sto.row | ((with_reducible refine Sto.rowEq2 ?_ ?_); omega; rfl) | ((with_reducible refine Sto.rowEq ?_); omega) | with_reducible apply Sto.int | with_reducible apply Sto.there | with_reducible assumption | (unfold I64; omega) | (with_reducible (have hMx := Mem.undrew hM; exact hMx)) | (with_reducible (have hMx := Mem.undrew hMp; exact hMx))))⟩
          case measure => simp [intOf]; omega
        · by_cases v10 : v = 10
          · subst v10
            have HBT := Lib.hid (show burnL (s.take (k + 1)) = L by rw [hbt]; simp)
            clear hbt v46
            go_wp2
            go_roundw
            case rel => exact ⟨k + 1, a', c', by omega, by go_num, by rw [HBT.out]; (repeat' (first | with_reducible exact hM | with_reducible exact hMp | with_reducible apply Mem.drew | with_reducible apply Mem.drewN | with_reducible apply Mem.alloc | with_reducible apply Mem.set | with_reducible exact Sto.row | ((with_reducible refine Sto.rowEq2 ?_ ?_); omega; rfl) | ((with_reducible refine Sto.rowEq ?_); omega) | with_reducible apply Sto.int | with_reducible apply Sto.there | with_reducible assumption | (unfold I64; omega) | (with_reducible (have hMx := Mem.undrew hM; exact hMx)) | (with_reducible (have hMx := Mem.undrew hMp; exact hMx))))⟩
            case measure => simp [intOf]; omega
          · have HBT := Lib.hid (show burnL (s.take (k + 1)) = L ++ [(v : Int) - 97 + 1] by rw [hbt, decide_eq_false v10, if_neg v46]; rfl)
            have hll : (L ++ [(v : Int) - 97 + 1]).length = L.length + 1 := by rw [List.length_append]; rfl
            have HLL := Lib.hid hll; clear hbt hll
            have hwc : IntKind.i64.wrap (v : Int) = (v : Int) := wrap_in (by omega)
            have hwd : IntKind.i64.wrap ((v : Int) - 97) = (v : Int) - 97 := wrap_in (by omega)
            have hwe : IntKind.i64.wrap ((v : Int) - 97 + 1) = (v : Int) - 97 + 1 := wrap_in (by omega)
            obtain ⟨k1, f1, l1⟩ := hM.row (.there .here)
            go_upto_region 11 with fail
            clear k1 f1 l1
            apply Mem.atWpA
            · (repeat' (first | with_reducible exact hM | with_reducible exact hMp | with_reducible apply Mem.drew | with_reducible apply Mem.drewN | with_reducible apply Mem.alloc | with_reducible apply Mem.set | with_reducible exact Sto.row | ((with_reducible refine Sto.rowEq2 ?_ ?_); omega; rfl) | ((with_reducible refine Sto.rowEq ?_); omega) | with_reducible apply Sto.int | with_reducible apply Sto.there | with_reducible assumption | (unfold I64; omega) | (with_reducible (have hMx := Mem.undrew hM; exact hMx)) | (with_reducible (have hMx := Mem.undrew hMp; exact hMx))))
            clear hM
            intro wst hM
            (try simp only [World.size_alloc, World.size_setCell, World.heap_drewN, heapDrew, Nat.add_assoc, Nat.reduceAdd, List.setIfInBounds_toArray, List.set_cons_zero, List.set_cons_succ, List.cons_append, List.nil_append] at hM)
            refine AtF.startA hM.tail hM 11 (by kernel_rfl) ?_
            clear hM
            intro wd hM
            have hS := hM.tail
            refine AtF.taked (i := 0) (v := ?_) (some 43) rfl rfl (by kernel_rfl) (by kernel_rfl) (by kernel_rfl) (anc_path [] _ _ (by kernel_rfl) (by kernel_rfl)) (fun _ _ _ h => h) (Or.inl ⟨by kernel_rfl, ?_⟩) hS rfl ?_
            rotate_left
            · (intro wS hSw; (try dsimp only at hSw); go_simp; (try rw [if_neg (by omega)]); try with_reducible rfl)
            simp only [Act.put, List.setIfInBounds_toArray, List.set_cons_zero, List.set_cons_succ]
            refine AtF.taked (i := 1) (v := ?_) (some 44) rfl rfl (by kernel_rfl) (by kernel_rfl) (by kernel_rfl) (anc_path [] _ _ (by kernel_rfl) (by kernel_rfl)) (fun _ _ _ h => h) (Or.inl ⟨by kernel_rfl, ?_⟩) hS rfl ?_
            rotate_left
            · (intro wS hSw; (try dsimp only at hSw); have kr0 := (Mem.row hSw .here).cell; go_simp; (try rw [if_neg (by omega)]); try with_reducible rfl)
            simp only [Act.put, List.setIfInBounds_toArray, List.set_cons_zero, List.set_cons_succ]
            refine AtF.taked (i := 2) (v := ?_) (some 45) rfl rfl (by kernel_rfl) (by kernel_rfl) (by kernel_rfl) (anc_path [] _ _ (by kernel_rfl) (by kernel_rfl)) (fun _ _ _ h => h) (Or.inl ⟨by kernel_rfl, ?_⟩) hS rfl ?_
            rotate_left
            · (intro wS hSw; (try dsimp only at hSw); go_simp; (try rw [if_neg (by omega)]); try with_reducible rfl)
            simp only [Act.put, List.setIfInBounds_toArray, List.set_cons_zero, List.set_cons_succ]
            refine AtF.taked (i := 3) (v := ?_) (some 46) rfl rfl (by kernel_rfl) (by kernel_rfl) (by kernel_rfl) (anc_path [] _ _ (by kernel_rfl) (by kernel_rfl)) (fun _ _ _ h => h) (Or.inl ⟨by kernel_rfl, ?_⟩) hS rfl ?_
            rotate_left
            · (intro wS hSw; (try dsimp only at hSw); go_simp; (try rw [if_neg (by omega)]); try with_reducible rfl)
            simp only [Act.put, List.setIfInBounds_toArray, List.set_cons_zero, List.set_cons_succ]
            refine AtF.taked (i := 4) (v := ?_) (some 47) rfl rfl (by kernel_rfl) (by kernel_rfl) (by kernel_rfl) (anc_path [] _ _ (by kernel_rfl) (by kernel_rfl)) (fun _ _ _ h => h) (Or.inl ⟨by kernel_rfl, ?_⟩) hS rfl ?_
            rotate_left
            · (intro wS hSw; (try dsimp only at hSw); have kr0 := (Mem.row hSw .here).cell; go_simp; (try rw [if_neg (by omega)]); try with_reducible rfl)
            simp only [Act.put, List.setIfInBounds_toArray, List.set_cons_zero, List.set_cons_succ]
            refine AtF.taked (i := 5) (v := ?_) (some 48) rfl rfl (by kernel_rfl) (by kernel_rfl) (by kernel_rfl) (anc_path [] _ _ (by kernel_rfl) (by kernel_rfl)) (fun _ _ _ h => h) (Or.inl ⟨by kernel_rfl, ?_⟩) hS rfl ?_
            rotate_left
            · (intro wS hSw; (try dsimp only at hSw); go_simp; (try rw [if_neg (by omega)]); try with_reducible rfl)
            simp only [Act.put, List.setIfInBounds_toArray, List.set_cons_zero, List.set_cons_succ]
            refine AtF.taked (i := 6) (v := ?_) (some 49) rfl rfl (by kernel_rfl) (by kernel_rfl) (by kernel_rfl) (anc_path [] _ _ (by kernel_rfl) (by kernel_rfl)) (fun _ _ _ h => h) (Or.inl ⟨by kernel_rfl, ?_⟩) hS rfl ?_
            rotate_left
            · (intro wS hSw; (try dsimp only at hSw); go_simp; (try rw [if_neg (by omega)]); try with_reducible rfl)
            simp only [Act.put, List.setIfInBounds_toArray, List.set_cons_zero, List.set_cons_succ]
            refine AtF.taked (i := 7) (v := ?_) (some 50) rfl rfl (by kernel_rfl) (by kernel_rfl) (by kernel_rfl) (anc_path [] _ _ (by kernel_rfl) (by kernel_rfl)) (fun _ _ _ h => h) (Or.inl ⟨by kernel_rfl, ?_⟩) hS rfl ?_
            rotate_left
            · (intro wS hSw; (try dsimp only at hSw); go_simp; (try rw [if_neg (by omega)]); try with_reducible rfl)
            simp only [Act.put, List.setIfInBounds_toArray, List.set_cons_zero, List.set_cons_succ]
            refine AtF.only (i := 8) (by kernel_rfl) rfl rfl ?_
            intro K hK
            go_simp
            refine hK.out _ _ (by apply Mem.tail; apply Mem.tail; (repeat' (first | with_reducible exact hM | with_reducible exact hMp | with_reducible apply Mem.drew | with_reducible apply Mem.drewN | with_reducible apply Mem.alloc | with_reducible apply Mem.set | with_reducible exact Sto.row | ((with_reducible refine Sto.rowEq2 ?_ ?_); omega; rfl) | ((with_reducible refine Sto.rowEq ?_); omega) | with_reducible apply Sto.int | with_reducible apply Sto.there | with_reducible assumption | (unfold I64; omega) | (with_reducible (have hMx := Mem.undrew hM; exact hMx)) | (with_reducible (have hMx := Mem.undrew hMp; exact hMx))))) ?_
            clear hK K hS
            have hMp := hM
            apply Mem.atF
            · (repeat' (first | with_reducible exact hM | with_reducible exact hMp | with_reducible apply Mem.drew | with_reducible apply Mem.drewN | with_reducible apply Mem.alloc | with_reducible apply Mem.set | with_reducible exact Sto.row | ((with_reducible refine Sto.rowEq2 ?_ ?_); omega; rfl) | ((with_reducible refine Sto.rowEq ?_); omega) | with_reducible apply Sto.int | with_reducible apply Sto.there | with_reducible assumption | (unfold I64; omega) | (with_reducible (have hMx := Mem.undrew hM; exact hMx)) | (with_reducible (have hMx := Mem.undrew hMp; exact hMx))))
            clear hM
            intro hM
            (try simp only [World.size_alloc, World.size_setCell, World.heap_drewN, heapDrew, Nat.add_assoc, Nat.reduceAdd, List.setIfInBounds_toArray, List.set_cons_zero, List.set_cons_succ, List.cons_append, List.nil_append] at hM)
            have hS := hM.tail.tail
            refine AtF.only (i := 9) (by kernel_rfl) rfl rfl ?_
            intro K hK
            refine step_appM hM (fun _ => (.there .here)) (hM.oneI .here (by unfold I64; omega)) (by omega) rfl (.tmp 44) (.tmp 51) 26 Tryd.underlying26 rfl rfl rfl ?_
            clear hM
            intro a6 c6 w6 hM
            try dsimp only
            refine hK.out _ _ (hM.tail.tail) ?_
            clear hK K hS
            have hS := hM.tail.tail
            refine AtF.taked (i := 10) (v := ?_) (some 53) rfl rfl (by kernel_rfl) (by kernel_rfl) (by kernel_rfl) (anc_path [] _ _ (by kernel_rfl) (by kernel_rfl)) (fun _ _ _ h => h) (Or.inl ⟨by kernel_rfl, ?_⟩) hS rfl ?_
            rotate_left
            · (intro wS hSw; (try dsimp only at hSw); go_simp; (try rw [if_neg (by omega)]); try with_reducible rfl)
            simp only [Act.put, List.setIfInBounds_toArray, List.set_cons_zero, List.set_cons_succ]
            refine AtF.last (by kernel_rfl) rfl (by kernel_rfl) ?_
            intro K hK
            clear hS
            have kk0 := (hM.row .here).cell
            have ff0 := (hM.row .here).free
            have ll0 := (hM.row .here).lt
            have kk2 := (hM.row (.there (.there .here))).cell
            have ff2 := (hM.row (.there (.there .here))).free
            have ll2 := (hM.row (.there (.there .here))).lt
            go_simp
            clear kk0 ff0 ll0 kk2 ff2 ll2
            refine hK.out _ _ ?_
            clear hK K
            apply Mem.atEx
            · (repeat' (first | with_reducible exact hM | with_reducible exact hMp | with_reducible apply Mem.drew | with_reducible apply Mem.drewN | with_reducible apply Mem.alloc | with_reducible apply Mem.set | with_reducible exact Sto.row | ((with_reducible refine Sto.rowEq2 ?_ ?_); omega; rfl) | ((with_reducible refine Sto.rowEq ?_); omega) | with_reducible apply Sto.int | with_reducible apply Sto.there | with_reducible assumption | (unfold I64; omega) | (with_reducible (have hMx := Mem.undrew hM; exact hMx)) | (with_reducible (have hMx := Mem.undrew hMp; exact hMx))))
            clear hM
            intro wst hM
            (try simp only [World.size_alloc, World.size_setCell, World.heap_drewN, heapDrew, Nat.add_assoc, Nat.reduceAdd, List.setIfInBounds_toArray, List.set_cons_zero, List.set_cons_succ, List.cons_append, List.nil_append] at hM)
            replace hM := hM.tail
            go_wp2
            go_roundw
            case rel => exact ⟨k + 1, a6, c6, by omega, by go_num, by rw [HBT.out, HLL.out]; exact hM⟩
            case measure => simp [intOf]; omega
      · obtain rfl : k = s.length := by omega
        rw [List.take_length] at hM
        have hbw : ∀ x ∈ burnL s, I64 x := fun x hx => by
          have := burn_wf s x hx
          unfold I64
          omega
        have hpt := parse_text s
        rw [HV.out, HU.out] at hpt
        obtain ⟨L, hL⟩ : ∃ L, burnL s = L := ⟨_, rfl⟩
        rw [hL] at hM hpt
        have HL := Lib.hid hL; clear hL
        obtain ⟨g, hg⟩ : ∃ g, goodB 20 (V : Int) (U : Int) L = g := ⟨_, rfl⟩
        obtain ⟨t, ht⟩ : ∃ t, textR (V : Int) (U : Int) L = t := ⟨_, rfl⟩
        rw [hg, ht] at hpt
        have HG := Lib.hid hg; have HT2 := Lib.hid ht
        clear hg ht hlt hk
        obtain ⟨k1, f1, l1⟩ := hM.row (.there .here)
        go_wp2_with fail
        clear k1 f1 l1
        apply Mem.atA
        · (repeat' (first | with_reducible exact hM | with_reducible exact hMp | with_reducible apply Mem.drew | with_reducible apply Mem.drewN | with_reducible apply Mem.alloc | with_reducible apply Mem.set | with_reducible exact Sto.row | ((with_reducible refine Sto.rowEq2 ?_ ?_); omega; rfl) | ((with_reducible refine Sto.rowEq ?_); omega) | with_reducible apply Sto.int | with_reducible apply Sto.there | with_reducible assumption | (unfold I64; omega) | (with_reducible (have hMx := Mem.undrew hM; exact hMx)) | (with_reducible (have hMx := Mem.undrew hMp; exact hMx))))
        clear hM
        intro wst hM
        (try simp only [World.size_alloc, World.size_setCell, World.heap_drewN, heapDrew, Nat.add_assoc, Nat.reduceAdd, List.setIfInBounds_toArray, List.set_cons_zero, List.set_cons_succ, List.cons_append, List.nil_append] at hM)
        (first | refine (implText_any (V : Int) (U : Int) a' L.length c' L _ (hM.intsR .here)).mono ?_)
        rw [HT2.out]
        rw [HG.out]
        rintro e wc1 ⟨rfl, hb⟩
        replace hM := hM.ext hb
        clear hb
        cases g
        · have hp : parseB s = false := by rw [← hpt]; rfl
          clear hpt
          obtain ⟨e1, e2, e3⟩ := HPN.out hp
          obtain rfl : pb = false := by rw [← HPB.out]; exact hp
          subst e1 e2 e3
          clear hp
          obtain ⟨k3, f3, l3⟩ := hM.row (.there (.there (.there .here)))
          go_wp2
          refine bodyPost_ret (v := .tuple #[.agg #[.int .i64 0, .int .i64 0, .slice none 0 0], .bool false]) (by simp [results, Tryd.results25, go_sem, k3]) rfl ⟨none, 0, rfl, ?_⟩
          apply Mem.nilInts
          (repeat' (first | with_reducible exact hM | with_reducible exact hMp | with_reducible apply Mem.drew | with_reducible apply Mem.drewN | with_reducible apply Mem.alloc | with_reducible apply Mem.set | with_reducible exact Sto.row | ((with_reducible refine Sto.rowEq2 ?_ ?_); omega; rfl) | ((with_reducible refine Sto.rowEq ?_); omega) | with_reducible apply Sto.int | with_reducible apply Sto.there | with_reducible assumption | (unfold I64; omega) | (with_reducible (have hMx := Mem.undrew hM; exact hMx)) | (with_reducible (have hMx := Mem.undrew hMp; exact hMx))))
        · cases hts : (t == s)
          rotate_left
          · have hp : parseB s = true := by rw [← hpt]; unfold bne; rw [hts]; rfl
            obtain ⟨e1, e2, e3⟩ := HPY.out hp
            obtain rfl : pb = true := by rw [← HPB.out]; exact hp
            rw [HV.out] at e1
            rw [HU.out] at e2
            rw [HL.out] at e3
            subst e1 e2 e3
            clear hpt hp
            obtain ⟨k1, f1, l1⟩ := hM.row (.there .here)
            obtain ⟨k3, f3, l3⟩ := hM.row (.there (.there (.there .here)))
            go_wp2
            refine bodyPost_ret (v := .tuple #[.agg #[.int .i64 V, .int .i64 U, .slice a' L.length c'], .bool true]) (by simp [results, Tryd.results25, go_sem, k1, k3]) rfl ⟨a', c', rfl, ?_⟩
            apply Mem.first
            (repeat' (first | with_reducible exact hM | with_reducible exact hMp | with_reducible apply Mem.drew | with_reducible apply Mem.drewN | with_reducible apply Mem.alloc | with_reducible apply Mem.set | with_reducible exact Sto.row | ((with_reducible refine Sto.rowEq2 ?_ ?_); omega; rfl) | ((with_reducible refine Sto.rowEq ?_); omega) | with_reducible apply Sto.int | with_reducible apply Sto.there | with_reducible assumption | (unfold I64; omega) | (with_reducible (have hMx := Mem.undrew hM; exact hMx)) | (with_reducible (have hMx := Mem.undrew hMp; exact hMx))))
          · have hp : parseB s = false := by rw [← hpt]; unfold bne; rw [hts]; rfl
            clear hpt
            obtain ⟨e1, e2, e3⟩ := HPN.out hp
            obtain rfl : pb = false := by rw [← HPB.out]; exact hp
            subst e1 e2 e3
            clear hp
            obtain ⟨k3, f3, l3⟩ := hM.row (.there (.there (.there .here)))
            go_wp2
            refine bodyPost_ret (v := .tuple #[.agg #[.int .i64 0, .int .i64 0, .slice none 0 0], .bool false]) (by simp [results, Tryd.results25, go_sem, k3]) rfl ⟨none, 0, rfl, ?_⟩
            apply Mem.nilInts
            (repeat' (first | with_reducible exact hM | with_reducible exact hMp | with_reducible apply Mem.drew | with_reducible apply Mem.drewN | with_reducible apply Mem.alloc | with_reducible apply Mem.set | with_reducible exact Sto.row | ((with_reducible refine Sto.rowEq2 ?_ ?_); omega; rfl) | ((with_reducible refine Sto.rowEq ?_); omega) | with_reducible apply Sto.int | with_reducible apply Sto.there | with_reducible assumption | (unfold I64; omega) | (with_reducible (have hMx := Mem.undrew hM; exact hMx)) | (with_reducible (have hMx := Mem.undrew hMp; exact hMx))))
  · have h30' : (30 : Int) < (s.length : Int) := by omega
    have hp := parse_long (s := s) (by omega)
    obtain ⟨e1, e2, e3⟩ := HPN.out hp
    obtain rfl : pb = false := by rw [← HPB.out]; exact hp
    subst e1 e2 e3
    clear hp
    go_upto_region 4 with fail
    apply Mem.atWpA
    · (repeat' (first | with_reducible exact hM | with_reducible exact hMp | with_reducible apply Mem.drew | with_reducible apply Mem.drewN | with_reducible apply Mem.alloc | with_reducible apply Mem.set | with_reducible exact Sto.row | ((with_reducible refine Sto.rowEq2 ?_ ?_); omega; rfl) | ((with_reducible refine Sto.rowEq ?_); omega) | with_reducible apply Sto.int | with_reducible apply Sto.there | with_reducible assumption | (unfold I64; omega) | (with_reducible (have hMx := Mem.undrew hM; exact hMx)) | (with_reducible (have hMx := Mem.undrew hMp; exact hMx))))
    clear hM
    intro wst hM
    (try simp only [World.size_alloc, World.size_setCell, World.heap_drewN, heapDrew, Nat.add_assoc, Nat.reduceAdd, List.setIfInBounds_toArray, List.set_cons_zero, List.set_cons_succ, List.cons_append, List.nil_append] at hM)
    obtain ⟨k2, f2, l2⟩ := hM.row (.there (.there .here))
    go_wp2
    refine bodyPost_ret (v := .tuple #[.agg #[.int .i64 0, .int .i64 0, .slice none 0 0], .bool false]) (by simp [results, Tryd.results25, go_sem, k2]) rfl ⟨none, 0, rfl, ?_⟩
    apply Mem.nilInts
    (repeat' (first | with_reducible exact hM | with_reducible exact hMp | with_reducible apply Mem.drew | with_reducible apply Mem.drewN | with_reducible apply Mem.alloc | with_reducible apply Mem.set | with_reducible exact Sto.row | ((with_reducible refine Sto.rowEq2 ?_ ?_); omega; rfl) | ((with_reducible refine Sto.rowEq ?_); omega) | with_reducible apply Sto.int | with_reducible apply Sto.there | with_reducible assumption | (unfold I64; omega) | (with_reducible (have hMx := Mem.undrew hM; exact hMx)) | (with_reducible (have hMx := Mem.undrew hMp; exact hMx))))
end Go.Proofs.YtpoabdmapbdmfaaDoor
