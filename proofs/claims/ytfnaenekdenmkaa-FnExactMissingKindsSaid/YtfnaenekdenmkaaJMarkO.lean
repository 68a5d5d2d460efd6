/-
  What a law writes over stores (orders: to come).
-/
import Derived.Test.YtfnaenekdenmkaaJOpnO
/-
  What a law writes over stores (orders: to come).
-/
namespace Go.Proofs.Ytfnaenekdenmkaa
set_option linter.unusedSimpArgs false
set_option linter.unusedVariables false
open Go.RowKit

def fromS (q m : Nat) : List StockI := (List.range m).map fun i => ⟨mkT (q + 2 * i), ((q + 2 * i + 1 : Nat) : Int)⟩
theorem fromS_length (q m : Nat) : (fromS q m).length = m := by simp [fromS]
theorem fromS_get {q m k : Nat} (h : k < m) : (fromS q m).getD k StockI.zero = ⟨mkT (q + 2 * k), ((q + 2 * k + 1 : Nat) : Int)⟩ := by
  simp [fromS, List.getD, h]
theorem mkT_len {k : Nat} (h : k ≤ 1000000000) : (mkT k).length ≤ maxLen := by
  have := digits_len (n := k) (by omega)
  unfold mkT maxLen
  rw [List.length_append]
  simp
  omega
set_option maxRecDepth 100000 in
set_option maxHeartbeats 4000000 in
theorem markStockS_any (B : Nat) (w0 : World) (G : List Ent) (a : Option Addr) (n c : Nat) (xs : List StockI) (q : Nat) (w : World) (hM : Mem B w0 w (owE FStock 46 a n c xs :: G)) (hq : 0 < q) (hq2 : q + 2 * n ≤ 900000000) :
    Calls Try.prog 18 #[.slice a n c, .int .i64 q] w fun e w' => e = .returned (.int .i64 ((q + 2 * n : Nat) : Int)) ∧ Mem B w0 w' (owE FStock 46 a n c (fromS q n) :: G) := by
  have HL := Lib.hid ((hM.ow .here).len)
  go_enter Try.func18, Try.ntmps18
  go_wp2
  go_loopw [1, 5] (fun v i wr => ∃ k : Nat, k ≤ n ∧ i = .int .i64 k ∧ v = .int .i64 ((q + 2 * k : Nat) : Int) ∧ Mem B w0 wr (owE FStock 46 a n c (fromS q k ++ xs.drop k) :: G)) (fun _ i _ => n - (intOf i).toNat)
  case atStart => exact ⟨0, Nat.zero_le _, rfl, rfl, by simpa [fromS] using hM⟩
  case round =>
    clear hM
    obtain ⟨k, hk, rfl, rfl, hM⟩ := hrel
    by_cases hlt : k < n
    · obtain ⟨g, rfl, -⟩ := (hM.ow .here).head (by omega)
      have hlen : (fromS q k ++ xs.drop k).length = n := by rw [List.length_append, fromS_length, List.length_drop, HL.out]; omega
      obtain ⟨ys, hys⟩ : ∃ ys, fromS q k ++ xs.drop k = ys := ⟨_, rfl⟩
      rw [hys] at hlen hM
      have HYS := Lib.hid hys; clear hys
      have hwf := (hM.ow .here).rd.wf _ (getD_memO (d := StockI.zero) (xs := ys) (k := k) (by omega))
      obtain ⟨y, hy⟩ : ∃ y, ys.getD k StockI.zero = y := ⟨_, rfl⟩
      rw [hy] at hwf
      have HY := Lib.hid hy; have HWF := Lib.hid hwf; have HYL := Lib.hid hlen
      clear hy hwf hlen
      obtain ⟨yk, yc⟩ := y
      have hfz := (hM.ow .here).free
      have hd := (hM.ow .here).cellStock hlt
      rw [HY.out] at hd
      have hd0 := hd.1
      have hd1 := hd.2
      clear hd
      dsimp only at hd0 hd1
      obtain ⟨p, hp⟩ : ∃ p, p = q + 2 * k := ⟨_, rfl⟩
      rw [← hp]
      have i0 : (0 : Int) ≤ (k : Int) := by omega
      have i1 : (k : Int) < (n : Int) := by omega
      have hw1 : IntKind.i64.wrap ((p : Int) + 1) = ((p + 1 : Nat) : Int) := by rw [wrap_in (by omega)]; omega
      have hw2 : IntKind.i64.wrap (((p + 1 : Nat) : Int) + 1) = ((p + 2 : Nat) : Int) := by rw [wrap_in (by omega)]; omega
      have HM1 := Lib.hid (fun w => markText_any p w (by omega) (by omega))
      have HSL := Lib.hid (mkT_len (k := p) (by omega))
      have HP1 := Lib.hid (show I64 ((p + 1 : Nat) : Int) by unfold I64; omega)
      have HP2 := Lib.hid (show ((p + 2 : Nat) : Int) = ((q + 2 * (k + 1) : Nat) : Int) by omega)
      have HF := Lib.hid (show fromS q (k + 1) = fromS q k ++ [⟨mkT p, ((p + 1 : Nat) : Int)⟩] by rw [hp]; simp [fromS, List.range_succ])
      clear hp
      generalize mkT p = s at HM1 HF HSL
      generalize p + 1 = p1 at hw1 hw2 HF HP1
      generalize p + 2 = p2 at hw2 HP2
      go_wp2_with fail
      refine (HM1.out _).mono ?_
      rintro e w5 ⟨rfl, hb⟩
      replace hM := hM.drewN 0 |>.ext hb
      clear hb hd0 hd1 hfz
      have hfz := (hM.ow .here).free
      have hd := (hM.ow .here).cellStock hlt
      rw [HY.out] at hd
      have hd0 := hd.1
      have hd1 := hd.2
      clear hd
      dsimp only at hd0 hd1
      have hM2 := hM.setStock0 hlt s HSL.out ⟨yk, yc⟩ HY.out HWF.out .here
      have hM3 := hM2.setStock1 hlt (p1 : Int) HP1.out ⟨s, yc⟩ (by rw [List.getD_eq_getElem?_getD, List.getElem?_set_self (by rw [HYL.out]; exact hlt)]; rfl) ⟨HSL.out, HWF.out.2⟩ .here
      have HM3 := Lib.hid hM3
      rw [List.set_set, ← HYS.out, set_fromV (fromS q k) (fromS_length q k) (by rw [HL.out]; exact hlt), ← HF.out] at HM3
      clear hM hM2 hM3
      go_wp2
      go_roundw
      case rel => exact ⟨k + 1, by omega, by go_num, by rw [HP2.out], HM3.out⟩
      case measure => simp [intOf]; omega
    · obtain rfl : k = n := by omega
      rw [List.drop_of_length_le (by rw [HL.out]; exact Nat.le_refl _), List.append_nil] at hM
      go_wp2
      go_ret
      exact ⟨rfl, by (repeat' (first | with_reducible exact hM | with_reducible exact hMp | with_reducible apply Mem.drew | with_reducible apply Mem.drewN | with_reducible apply Mem.alloc | with_reducible apply Mem.set | with_reducible exact Sto.row | ((with_reducible refine Sto.rowEq2 ?_ ?_); omega; rfl) | ((with_reducible refine Sto.rowEq ?_); omega) | with_reducible apply Sto.int | with_reducible apply Sto.there | with_reducible assumption | (unfold I64; omega) | (with_reducible (have hMx := Mem.undrew hM; exact hMx)) | (with_reducible (have hMx := Mem.undrew hMp; exact hMx))))⟩
end Go.Proofs.Ytfnaenekdenmkaa
