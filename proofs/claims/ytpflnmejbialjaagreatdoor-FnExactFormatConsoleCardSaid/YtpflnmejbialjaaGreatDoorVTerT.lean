/-
  TerrainText: both sides.
-/
import Derived.Test.YtpflnmejbialjaaGreatDoorVFBy
import Derived.Test.YtpflnmejbialjaaGreatDoorVAt
import Derived.Test.YtpflnmejbialjaaGreatDoorVWrap
import Derived.Test.YtpflnmejbialjaaGreatDoorVMir
import Derived.Test.YtpflnmejbialjaaGreatDoorVGood
import Derived.Deep.CutBlock
/-
  TerrainText: both sides.
-/
namespace Go.Proofs.YtpflnmejbialjaaGreatDoor
set_option linter.unusedSimpArgs false
set_option linter.unusedVariables false
open Go.RowKit

theorem info8 : (Tryz.prog.info? 5).map (fun i => (i.zero, i.size, i.bytes)) = some (some (.int .u8 0), 1, 1) := by kernel_rfl
/-- a picture: a letter for each cell -/
def picTo (W : Nat) (g : Nat → UInt8) : Nat → Bs
  | 0 => []
  | k + 1 => picTo W g k ++ (g k :: lineE W k)
theorem pic_len {W : Nat} (hW : 0 < W) (g : Nat → UInt8) : ∀ k, (picTo W g k).length = k + k / W
  | 0 => by rw [Nat.zero_div]; rfl
  | k + 1 => by
    have ih := pic_len hW g k
    have : (lineE W k).length = if k % W = W - 1 then 1 else 0 := by
      unfold lineE
      split <;> rfl
    rw [picTo, List.length_append, List.length_cons, ih, this, div_line hW]
    omega
/-- what a function value answers for the cells -/
def Letters (f : FuncId) (caps : Array Value) (g : Nat → UInt8) (n : Nat) (w : World) : Prop :=
  ∀ k, k < n → ∀ w', Below w.heap.size w w' → Calls Tryz.prog f (#[.int .i64 k] ++ caps) w' fun o w'' => o = .returned (.int .u8 ((g k).toNat : Int)) ∧ Below w'.heap.size w' w''
theorem u8_wrap {x : Int} (h0 : 0 ≤ x) (h1 : x < 256) : IntKind.u8.wrap x = x := by
  have h2 : ∀ m : Nat, m < 256 → IntKind.u8.wrap (m : Int) = (m : Int) := by decide +kernel
  obtain ⟨m, rfl⟩ := Int.eq_ofNat_of_zero_le h0
  exact h2 m (by omega)
theorem cellC_pos {b : Int} (h0 : b ≠ 0) (h : 0 ≤ b ∧ b ≤ 20) : ((cellC b).toNat : Int) = 97 + b - 1 := by
  obtain ⟨m, rfl⟩ := Int.eq_ofNat_of_zero_le h.1
  rw [cellC, if_neg h0, Int.toNat_natCast, UInt8.toNat_ofNat']
  omega
set_option maxRecDepth 100000 in
set_option maxHeartbeats 8000000 in
theorem picture_any (f : FuncId) (caps : Array Value) (g : Nat → UInt8) (W : Nat) (H : Int) (a : Option Addr) (n c : Nat) (w : World) (hW : 1 ≤ W ∧ W ≤ 5) (hn : 1 ≤ n ∧ n ≤ 25) (hcf : ∀ args w, (callFunc f args).run Tryz.prog w = .ok (.enter f args) w) (hf : Letters f caps g n w) :
    Calls Tryz.prog 21 #[.agg #[.int .i64 W, .int .i64 H, .slice a n c], .func (.func f) #[] caps] w fun e w' => e = .returned (.string (bsA (picTo W g n))) ∧ Below w.heap.size w w' := by
  have hM := Mem.start w
  have HF := Lib.hid hf; clear hf
  obtain ⟨hn1, hn2⟩ := hn
  obtain ⟨j0, hj, hy0, hy1, hy2⟩ := info_parts info8
  go_enter Tryz.func21, Tryz.ntmps21
  go_upto_region 2 with fail
  apply Mem.atWpA
  · (repeat' (first | with_reducible exact hM | with_reducible exact hMp | with_reducible apply Mem.drew | with_reducible apply Mem.drewN | with_reducible apply Mem.alloc | with_reducible apply Mem.set | with_reducible exact Sto.row | ((with_reducible refine Sto.rowEq2 ?_ ?_); omega; rfl) | ((with_reducible refine Sto.rowEq ?_); omega) | with_reducible apply Sto.int | with_reducible apply Sto.there | with_reducible assumption | (unfold I64; omega) | (with_reducible (have hMx := Mem.undrew hM; exact hMx)) | (with_reducible (have hMx := Mem.undrew hMp; exact hMx))))
  clear hM
  intro wst hM
  (try simp only [World.size_alloc, World.size_setCell, World.heap_drewN, heapDrew, Nat.add_assoc, Nat.reduceAdd, List.setIfInBounds_toArray, List.set_cons_zero, List.set_cons_succ, List.cons_append, List.nil_append] at hM)
  have hz : picTo W g 0 = [] := rfl
  replace hM := Mem.toOwR (F := FByt) hM
  rw [← hz] at hM
  obtain ⟨k1, f1, l1⟩ := hM.row (.there .here)
  go_wp2_with fail
  clear k1 f1 l1
  go_loopw [5, 11] (fun s5 s11 wr => ∃ (k : Nat) (a' : Option Addr) (c' : Nat), k ≤ n ∧ s11 = .int .i64 k ∧ s5 = .slice a' (picTo W g k).length c' ∧ Mem w.heap.size w wr [owE FByt 5 a' (picTo W g k).length c' (picTo W g k), rowE w.heap.size 35 #[.int .i64 W, .int .i64 H, .slice a n c]]) (fun _ s11 _ => n - (intOf s11).toNat)
  case atStart => exact ⟨0, _, _, Nat.zero_le _, rfl, rfl, hM⟩
  case round =>
    clear hM
    obtain ⟨k, a', c', hk, rfl, rfl, hM⟩ := hrel
    have hpl := pic_len (by omega : 0 < W) g k
    have hkw : k / W ≤ k := Nat.div_le_self _ _
    have hst : picTo W g (k + 1) = picTo W g k ++ (g k :: lineE W k) := rfl
    obtain ⟨P, hP⟩ : ∃ P, picTo W g k = P := ⟨_, rfl⟩
    rw [hP] at hM hpl hst ⊢
    have hp50 : P.length ≤ 50 := by omega
    have HPL := Lib.hid hpl; have HST := Lib.hid hst; have HP := Lib.hid hP
    clear hpl hst hP hkw
    by_cases hlt : k < n
    · have i0 : (0 : Int) ≤ (k : Int) := by omega
      have i1 : (k : Int) < (n : Int) := by omega
      have hwW : IntKind.i64.wrap ((W : Int) - 1) = (W : Int) - 1 := wrap_in (by omega)
      go_wp2_with fail
      apply Mem.atA
      · (repeat' (first | with_reducible exact hM | with_reducible exact hMp | with_reducible apply Mem.drew | with_reducible apply Mem.drewN | with_reducible apply Mem.alloc | with_reducible apply Mem.set | with_reducible exact Sto.row | ((with_reducible refine Sto.rowEq2 ?_ ?_); omega; rfl) | ((with_reducible refine Sto.rowEq ?_); omega) | with_reducible apply Sto.int | with_reducible apply Sto.there | with_reducible assumption | (unfold I64; omega) | (with_reducible (have hMx := Mem.undrew hM; exact hMx)) | (with_reducible (have hMx := Mem.undrew hMp; exact hMx))))
      clear hM
      intro wst hM
      (try simp only [World.size_alloc, World.size_setCell, World.heap_drewN, heapDrew, Nat.add_assoc, Nat.reduceAdd, List.setIfInBounds_toArray, List.set_cons_zero, List.set_cons_succ, List.cons_append, List.nil_append] at hM)
      refine (HF.out k hlt _ hM.below).mono ?_
      rintro e w3 ⟨rfl, hb⟩
      replace hM := hM.ext hb
      clear hb
      obtain ⟨x, hx⟩ : ∃ x, g k = x := ⟨_, rfl⟩
      rw [hx] at HST ⊢
      clear hx
      go_wp2_with (at_builtin; apply Mem.atL; (focus ((repeat' (first | with_reducible exact hM | with_reducible exact hMp | with_reducible apply Mem.drew | with_reducible apply Mem.drewN | with_reducible apply Mem.alloc | with_reducible apply Mem.set | with_reducible exact Sto.row | ((with_reducible refine Sto.rowEq2 ?_ ?_); omega; rfl) | ((with_reducible refine Sto.rowEq ?_); omega) | with_reducible apply Sto.int | with_reducible apply Sto.there | with_reducible assumption | (unfold I64; omega) | (with_reducible (have hMx := Mem.undrew hM; exact hMx)) | (with_reducible (have hMx := Mem.undrew hMp; exact hMx)))); done)); clear hM; intro hM; refine wpList_pushR (F := FByt) x hM (fun _ => .here) rfl trivial (by decide) (by show (P.length + 1) * 1 ≤ _; omega) j0 (.int .u8 0) 1 hj hy0 hy1 hy2 rfl (by omega) rfl _ _ _ Tryz.underlying73 rfl rfl rfl ?_)
      intro a3 c3 w4 hM
      have e1 : P.length + 1 = (P ++ [x]).length := by rw [List.length_append]; rfl
      rw [e1] at hM ⊢
      have hp51 : (P ++ [x]).length ≤ 51 := by rw [← e1]; omega
      have HS2 := Lib.hid (show picTo W g (k + 1) = (P ++ [x]) ++ lineE W k by rw [HST.out, List.append_assoc]; rfl)
      clear e1
      generalize P ++ [x] = P2 at hM hp51 HS2 ⊢
      go_upto_region 6 with fail
      apply Mem.atWpA
      · (repeat' (first | with_reducible exact hM | with_reducible exact hMp | with_reducible apply Mem.drew | with_reducible apply Mem.drewN | with_reducible apply Mem.alloc | with_reducible apply Mem.set | with_reducible exact Sto.row | ((with_reducible refine Sto.rowEq2 ?_ ?_); omega; rfl) | ((with_reducible refine Sto.rowEq ?_); omega) | with_reducible apply Sto.int | with_reducible apply Sto.there | with_reducible assumption | (unfold I64; omega) | (with_reducible (have hMx := Mem.undrew hM; exact hMx)) | (with_reducible (have hMx := Mem.undrew hMp; exact hMx))))
      clear hM
      intro wst hM
      (try simp only [World.size_alloc, World.size_setCell, World.heap_drewN, heapDrew, Nat.add_assoc, Nat.reduceAdd, List.setIfInBounds_toArray, List.set_cons_zero, List.set_cons_succ, List.cons_append, List.nil_append] at hM)
      obtain ⟨r, hr⟩ : ∃ r, k % W = r := ⟨_, rfl⟩
      have hrw : ((k : Int) % (W : Int)) = (r : Int) := by rw [← Int.natCast_emod, hr]
      have HRW := Lib.hid hrw; clear hrw
      have hle : lineE W k = if r = W - 1 then [10] else [] := by rw [lineE, hr]
      have HLE := Lib.hid hle; clear hle hr
      refine AtT.startA hM hM 6 (by kernel_rfl) ?_
      clear hM
      intro wd hM
      have hS := hM
      refine AtT.taked (i := 0) (v := ?_) (some 20) rfl rfl (by kernel_rfl) (by kernel_rfl) (by kernel_rfl) (by kernel_rfl) (fun _ _ _ h => h) (Or.inl ⟨by kernel_rfl, ?_⟩) hS ?_
      rotate_left
      · (intro wS hSw; (try dsimp only at hSw); have kr0 := (Mem.row hSw (.there .here)).cell; have ks := (Mem.row hSw (.there .here)).cell; go_simp; (try rw [if_neg (by omega)]); try with_reducible rfl)
      simp only [Act.put, List.setIfInBounds_toArray, List.set_cons_zero, List.set_cons_succ]
      refine AtT.taked (i := 1) (v := ?_) (some 21) rfl rfl (by kernel_rfl) (by kernel_rfl) (by kernel_rfl) (by kernel_rfl) (fun _ _ _ h => h) (Or.inl ⟨by kernel_rfl, ?_⟩) hS ?_
      rotate_left
      · (intro wS hSw; (try dsimp only at hSw); go_simp; (try rw [if_neg (by omega)]); try with_reducible rfl)
      simp only [Act.put, List.setIfInBounds_toArray, List.set_cons_zero, List.set_cons_succ]
      refine AtT.taked (i := 3) (v := ?_) (some 23) rfl rfl (by kernel_rfl) (by kernel_rfl) (by kernel_rfl) (by kernel_rfl) (fun _ _ _ h => h) (Or.inl ⟨by kernel_rfl, ?_⟩) hS ?_
      rotate_left
      · (intro wS hSw; (try dsimp only at hSw); go_simp; (try rw [if_neg (by omega)]); try with_reducible rfl)
      simp only [Act.put, List.setIfInBounds_toArray, List.set_cons_zero, List.set_cons_succ]
      refine AtT.taked (i := 4) (v := ?_) (some 24) rfl rfl (by kernel_rfl) (by kernel_rfl) (by kernel_rfl) (by kernel_rfl) (fun _ _ _ h => h) (Or.inl ⟨by kernel_rfl, ?_⟩) hS ?_
      rotate_left
      · (intro wS hSw; (try dsimp only at hSw); have kr0 := (Mem.row hSw (.there .here)).cell; have ks := (Mem.row hSw (.there .here)).cell; go_simp; (try rw [if_neg (by omega)]); try with_reducible rfl)
      simp only [Act.put, List.setIfInBounds_toArray, List.set_cons_zero, List.set_cons_succ]
      refine AtT.taked (i := 5) (v := ?_) (some 25) rfl rfl (by kernel_rfl) (by kernel_rfl) (by kernel_rfl) (by kernel_rfl) (fun _ _ _ h => h) (Or.inl ⟨by kernel_rfl, ?_⟩) hS ?_
      rotate_left
      · (intro wS hSw; (try dsimp only at hSw); go_simp; (try rw [if_neg (by omega)]); try with_reducible rfl)
      simp only [Act.put, List.setIfInBounds_toArray, List.set_cons_zero, List.set_cons_succ]
      refine AtT.only (i := 2) (by kernel_rfl) rfl rfl ?_
      intro K hK
      go_simp
      refine (column_any (W : Int) H (k : Int) _ _ (by omega) (by omega)).mono ?_
      rw [HRW.out]
      rintro e w5 ⟨rfl, hb⟩
      replace hM := hM.ext hb
      clear hb
      try dsimp only
      refine hK.out _ _ (hM) ?_
      clear hK K hS
      have hS := hM
      refine AtT.last (by kernel_rfl) rfl (by kernel_rfl) ?_
      intro K hK
      clear hS
      go_simp
      refine hK.out _ _ ?_
      clear hK K
      by_cases hrl : r = W - 1
      · have e1 : ((r : Int) == (W : Int) - 1) = true := by rw [beq_iff_eq]; omega
        have HS3 := Lib.hid (show picTo W g (k + 1) = P2 ++ [10] by rw [HS2.out, HLE.out, if_pos hrl])
        clear hrl
        go_wp2_with (at_builtin; apply Mem.atL; (focus ((repeat' (first | with_reducible exact hM | with_reducible exact hMp | with_reducible apply Mem.drew | with_reducible apply Mem.drewN | with_reducible apply Mem.alloc | with_reducible apply Mem.set | with_reducible exact Sto.row | ((with_reducible refine Sto.rowEq2 ?_ ?_); omega; rfl) | ((with_reducible refine Sto.rowEq ?_); omega) | with_reducible apply Sto.int | with_reducible apply Sto.there | with_reducible assumption | (unfold I64; omega) | (with_reducible (have hMx := Mem.undrew hM; exact hMx)) | (with_reducible (have hMx := Mem.undrew hMp; exact hMx)))); done)); clear hM; intro hM; refine wpList_pushR (F := FByt) 10 hM (fun _ => .here) rfl trivial (by decide) (by show (P2.length + 1) * 1 ≤ _; omega) j0 (.int .u8 0) 1 hj hy0 hy1 hy2 rfl (by omega) rfl _ _ _ Tryz.underlying73 rfl rfl rfl ?_)
        intro a5 c5 w6 hM
        have e2 : P2.length + 1 = (P2 ++ [10]).length := by rw [List.length_append]; rfl
        rw [e2, ← HS3.out] at hM
        rw [e2, ← HS3.out]
        clear e2
        go_wp2
        go_roundw
        case rel => exact ⟨k + 1, a5, c5, by omega, by go_num, rfl, by (repeat' (first | with_reducible exact hM | with_reducible exact hMp | with_reducible apply Mem.drew | with_reducible apply Mem.drewN | with_reducible apply Mem.alloc | with_reducible apply Mem.set | with_reducible exact Sto.row | ((with_reducible refine Sto.rowEq2 ?_ ?_); omega; rfl) | ((with_reducible refine Sto.rowEq ?_); omega) | with_reducible apply Sto.int | with_reducible apply Sto.there | with_reducible assumption | (unfold I64; omega) | (with_reducible (have hMx := Mem.undrew hM; exact hMx)) | (with_reducible (have hMx := Mem.undrew hMp; exact hMx))))⟩
        case measure => simp [intOf]; omega
      · have e1 : ((r : Int) == (W : Int) - 1) = false := by rw [beq_eq_false_iff_ne]; omega
        have HS3 := Lib.hid (show picTo W g (k + 1) = P2 by rw [HS2.out, HLE.out, if_neg hrl, List.append_nil])
        clear hrl
        rw [← HS3.out] at hM
        rw [← HS3.out]
        go_wp2
        go_roundw
        case rel => exact ⟨k + 1, a3, c3, by omega, by go_num, rfl, by (repeat' (first | with_reducible exact hM | with_reducible exact hMp | with_reducible apply Mem.drew | with_reducible apply Mem.drewN | with_reducible apply Mem.alloc | with_reducible apply Mem.set | with_reducible exact Sto.row | ((with_reducible refine Sto.rowEq2 ?_ ?_); omega; rfl) | ((with_reducible refine Sto.rowEq ?_); omega) | with_reducible apply Sto.int | with_reducible apply Sto.there | with_reducible assumption | (unfold I64; omega) | (with_reducible (have hMx := Mem.undrew hM; exact hMx)) | (with_reducible (have hMx := Mem.undrew hMp; exact hMx))))⟩
        case measure => simp [intOf]; omega
    · obtain rfl : k = n := by omega
      obtain ⟨gb, rfl, -⟩ := (hM.ow .here).head (Nat.lt_of_lt_of_le (show 0 < k by omega) (by rw [HPL.out]; exact Nat.le_add_right _ _))
      have HCZ := Lib.hid (fun j (hj : j < P.length) => (show wr.cell? ⟨gb, j, none⟩ = some (.int .u8 (P[j].toNat : Int)) by
        have h9 := (hM.ow .here).cell hj (j := 0) (by decide)
        simpa [FByt, List.getD, hj] using h9))
      rw [← HP.out]
      rw [HP.out]
      go_wp2_with (refine wpList_toStringC (l := P) HCZ.out rfl 73 9 5 (.tmp 31) rfl rfl Tryz.underlying73 Tryz.underlying5 Tryz.underlying9 ?_)
      go_wp2
      go_ret
      exact ⟨by rw [HP.out]; rfl, (by apply Mem.below; (repeat' (first | with_reducible exact hM | with_reducible exact hMp | with_reducible apply Mem.drew | with_reducible apply Mem.drewN | with_reducible apply Mem.alloc | with_reducible apply Mem.set | with_reducible exact Sto.row | ((with_reducible refine Sto.rowEq2 ?_ ?_); omega; rfl) | ((with_reducible refine Sto.rowEq ?_); omega) | with_reducible apply Sto.int | with_reducible apply Sto.there | with_reducible assumption | (unfold I64; omega) | (with_reducible (have hMx := Mem.undrew hM; exact hMx)) | (with_reducible (have hMx := Mem.undrew hMp; exact hMx)))))⟩
end Go.Proofs.YtpflnmejbialjaaGreatDoor
