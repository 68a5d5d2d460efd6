/-
  The text that a law writes over a string.
-/
import Derived.Test.YtjnbdgldpmmamaaMByt2
import Derived.Test.YtjnbdgldpmmamaaMStr
/-
  The text that a law writes over a string.
-/
namespace Go.Proofs.Ytjnbdgldpmmamaa
set_option linter.unusedSimpArgs false
set_option linter.unusedVariables false
open Go.RowKit

def mkT (k : Nat) : Bs := [109] ++ Lib.decDigits k
def tailT (j : Nat) (o : Bs) : Bs := if j = 0 then o else Lib.decDigits j ++ o
theorem dig_one {r : Nat} (h : r < 10) {x : UInt8} (hx : x.toNat = 48 + r) : Lib.decDigits r = [x] := by
  rw [Lib.decDigits_one h]
  congr 1
  apply UInt8.toNat_inj.1
  rw [hx, UInt8.toNat_ofNat']
  omega
theorem tailT_step {j : Nat} {o : Bs} (hj : 0 < j) {x : UInt8} (hx : x.toNat = 48 + j % 10) : tailT (j / 10) ([x] ++ o) = tailT j o := by
  rw [← dig_one (Nat.mod_lt j (by decide)) hx]
  unfold tailT
  by_cases h : j < 10
  · rw [if_pos (by omega), if_neg (by omega), Nat.mod_eq_of_lt h]
  · rw [if_neg (by omega), if_neg (by omega), ← List.append_assoc]
    congr 1
    conv => rhs; rw [Lib.decDigits, dif_neg h, ← Lib.decDigits_one (Nat.mod_lt j (by decide))]
theorem tailT_len (j : Nat) (o : Bs) : o.length ≤ (tailT j o).length := by
  unfold tailT
  split
  · exact Nat.le_refl _
  · rw [List.length_append]; omega
theorem c109 : (⟨#[109]⟩ : ByteArray) = bsA [109] := rfl

set_option maxRecDepth 100000 in
set_option maxHeartbeats 4000000 in
theorem markText_any (k : Nat) (w : World) (h0 : 0 < k) (hk : k ≤ 1000000000) :
    Calls Try.prog 40 #[.int .i64 k] w fun e w' => e = .returned (.string (bsA (mkT k))) ∧ Below w.heap.size w w' := by
  have hM := Mem.start w
  have hdl := digits_len (n := k) (by omega)
  have S1 := bsA_size
  have S2 := bsA_app
  have C1 := c109
  have HT0 : tailT k [] = Lib.decDigits k := by rw [tailT, if_neg (by omega), List.append_nil]
  have HR := Lib.hid (show mkT k = [109] ++ Lib.decDigits k from rfl)
  generalize Lib.decDigits k = D at hdl HT0 HR
  have hneg : ¬ ((k : Int) ≤ 0) := by omega
  have hc1 : ¬ 9223372036854775807 < ([109] : Bs).length + D.length := by simp; omega
  go_enter Try.func40, Try.ntmps40
  go_wp2
  go_loopw [0, 3] (fun i s wr => ∃ (j : Nat) (o : Bs), i = .int .i64 j ∧ s = .string (bsA o) ∧ j ≤ k ∧ tailT j o = D ∧ Mem w.heap.size w wr []) (fun i _ _ => (intOf i).toNat)
  case atStart => exact ⟨k, [], rfl, rfl, Nat.le_refl _, HT0, hM⟩
  case round =>
    clear hM HT0 h0 hneg
    obtain ⟨j, o, rfl, rfl, hjk, htl, hM⟩ := hrel
    have hol := tailT_len j o
    rw [htl] at hol
    by_cases hj : 0 < j
    · have hr10 : j % 10 < 10 := Nat.mod_lt j (by decide)
      obtain ⟨x, hx⟩ : ∃ x : UInt8, x.toNat = 48 + j % 10 := ⟨UInt8.ofNat (48 + j % 10), by rw [UInt8.toNat_ofNat']; omega⟩
      have hst := tailT_step (o := o) hj hx
      have hq : Int.tdiv (j : Int) 10 = ((j / 10 : Nat) : Int) := by rw [Int.tdiv_eq_ediv_of_nonneg (by omega)]; omega
      have hr : Int.tmod (j : Int) 10 = ((j % 10 : Nat) : Int) := by rw [Int.tmod_eq_emod_of_nonneg (by omega)]; omega
      have hqj : j / 10 < j := Nat.div_lt_self hj (by decide)
      have hwq : IntKind.i64.wrap ((j / 10 : Nat) : Int) = ((j / 10 : Nat) : Int) := wrap_in (by omega)
      have hwi : IntKind.i64.wrap (48 + ((j % 10 : Nat) : Int)) = (x.toNat : Int) := by rw [wrap_in (by omega), hx]; omega
      have hxl : x.toNat < 256 := x.toNat_lt
      have hwb : IntKind.u8.wrap (x.toNat : Int) = (x.toNat : Int) := by
        have h2 : ∀ m : Nat, m < 256 → IntKind.u8.wrap (m : Int) = (m : Int) := by decide +kernel
        exact h2 _ hxl
      have HST := Lib.hid (hst.trans htl); clear hst htl
      clear hx
      generalize j / 10 = q at hq hqj hwq HST
      generalize j % 10 = r at hr hr10 hwi
      have hcat : ¬ 9223372036854775807 < ([x] : Bs).length + o.length := by simp; omega
      have hj0 : (0 : Int) < (j : Int) := by omega
      go_wp2_with (apply Mem.atL; (focus ((repeat' (first | with_reducible exact hM | with_reducible exact hMp | with_reducible apply Mem.drew | with_reducible apply Mem.drewN | with_reducible apply Mem.alloc | with_reducible apply Mem.set | with_reducible exact Sto.row | ((with_reducible refine Sto.rowEq2 ?_ ?_); omega; rfl) | ((with_reducible refine Sto.rowEq ?_); omega) | with_reducible apply Sto.int | with_reducible apply Sto.there | with_reducible assumption | (unfold I64; omega) | (with_reducible (have hMx := Mem.undrew hM; exact hMx)) | (with_reducible (have hMx := Mem.undrew hMp; exact hMx)))); done)); clear hM; intro hM; refine wpList_toStringC (l := [x]) (fun i hi => by obtain rfl : i = 0 := (by simp at hi; exact hi); exact (hM.row .here).1 0) rfl 31 9 5 (.tmp 12) rfl rfl Try.underlying31 Try.underlying5 Try.underlying9 ?_)
      go_wp2
      go_roundw
      case rel => exact ⟨q, [x] ++ o, rfl, rfl, by omega, HST.out, hM.tail⟩
      case measure => simp [intOf]; omega
    · obtain rfl : j = 0 := by omega
      have HTL := Lib.hid (show o = D by rw [← htl]; rfl)
      clear htl
      go_wp2
      go_ret
      exact ⟨by rw [HR.out, ← HTL.out]; rfl, (by apply Mem.below; (repeat' (first | with_reducible exact hM | with_reducible exact hMp | with_reducible apply Mem.drew | with_reducible apply Mem.drewN | with_reducible apply Mem.alloc | with_reducible apply Mem.set | with_reducible exact Sto.row | ((with_reducible refine Sto.rowEq2 ?_ ?_); omega; rfl) | ((with_reducible refine Sto.rowEq ?_); omega) | with_reducible apply Sto.int | with_reducible apply Sto.there | with_reducible assumption | (unfold I64; omega) | (with_reducible (have hMx := Mem.undrew hM; exact hMx)) | (with_reducible (have hMx := Mem.undrew hMp; exact hMx)))))⟩
end Go.Proofs.Ytjnbdgldpmmamaa
