/-
  The records at the beginning of a text, as the program reads them.
-/
import Derived.Test.YtpflnmejbialjaaGreatDoorVRecE
import Derived.Test.YtpflnmejbialjaaGreatDoorVAt
import Derived.Test.YtpflnmejbialjaaGreatDoorVLogL
/-
  The records at the beginning of a text, as the program reads them.
-/
namespace Go.Proofs.YtpflnmejbialjaaGreatDoor
set_option linter.unusedSimpArgs false
set_option linter.unusedVariables false
open Go.RowKit

/-- what decode returns -/
def decV : Option (RecB × Nat) → Value
  | none => .tuple #[.agg #[.string ⟨#[]⟩, .string ⟨#[]⟩], .int .i64 0, .bool false]
  | some (e, n) => .tuple #[.agg #[.string (bsA e.c), .string (bsA e.r)], .int .i64 n, .bool true]
theorem aft_len (b : UInt8) : ∀ l : Bs, (aftB b l).length ≤ l.length
  | [] => Nat.le_refl _
  | x :: l => by
    have := aft_len b l
    simp only [aftB]
    split <;> simp <;> omega
theorem readI_enc {k : Nat} {line : Bs} (h : line.length ≤ 4000) : readI k line = if encB k (parseI line) && (encL k (parseI line) == line ++ [10]) then some (parseI line) else none := by
  have hk : inB (k : Int) 0 59 = decide (k ≤ 59) := by
    rw [Bool.eq_iff_iff]
    simp only [inB, decide_eq_true_eq]
    omega
  unfold readI encL encB
  rw [hk, decide_eq_true h, Int.toNat_natCast]
  cases decide (k ≤ 59) <;> cases okB (parseI line) <;> simp

set_option maxRecDepth 100000 in
set_option maxHeartbeats 8000000 in
theorem decode_any (k : Nat) (l : Bs) (w : World) (ht : Tab w) (hl : l.length ≤ 4194304) (hk : k ≤ 1000000) :
    Calls Tryz.prog 69 #[.int .i64 k, .string (bsA l)] w fun e w' => e = .returned (decV (decB k l)) ∧ Below w.heap.size w w' := by
  have hM := Mem.start w
  have HT := Lib.hid ht; clear ht
  have S1 := bsA_size
  have S2 := bsA_app
  have S3 := bsA_list
  have C3 := c10
  have l1 := bef_len 10 l
  cases h1 : hasB 10 l
  · have HR := Lib.hid (show decB k l = none by rw [decB, h1]; rfl)
    have H1 := Lib.hid h1; clear h1
    go_enter Tryz.func69, Tryz.ntmps69
    go_wp2_with fail
    apply Mem.atA
    · (repeat' (first | with_reducible exact hM | with_reducible exact hMp | with_reducible apply Mem.drew | with_reducible apply Mem.drewN | with_reducible apply Mem.alloc | with_reducible apply Mem.set | with_reducible exact Sto.row | ((with_reducible refine Sto.rowEq2 ?_ ?_); omega; rfl) | ((with_reducible refine Sto.rowEq ?_); omega) | with_reducible apply Sto.int | with_reducible apply Sto.there | with_reducible assumption | (unfold I64; omega) | (with_reducible (have hMx := Mem.undrew hM; exact hMx)) | (with_reducible (have hMx := Mem.undrew hMp; exact hMx))))
    clear hM
    intro wst hM
    (try simp only [World.size_alloc, World.size_setCell, World.heap_drewN, heapDrew, Nat.add_assoc, Nat.reduceAdd, List.setIfInBounds_toArray, List.set_cons_zero, List.set_cons_succ, List.cons_append, List.nil_append] at hM)
    (first | refine (cut_any l 10 _ (by omega)).mono ?_)
    rw [H1.out]
    rintro e wc1 ⟨rfl, hb⟩
    replace hM := hM.ext hb
    clear hb
    obtain ⟨k0, f0, l0⟩ := hM.row .here
    go_wp2
    refine bodyPost_ret (v := .tuple #[.agg #[.string ⟨#[]⟩, .string ⟨#[]⟩], .int .i64 0, .bool false]) (by simp [results, Tryz.results69, go_sem, k0]) rfl ⟨by rw [HR.out]; rfl, (by apply Mem.below; (repeat' (first | with_reducible exact hM | with_reducible exact hMp | with_reducible apply Mem.drew | with_reducible apply Mem.drewN | with_reducible apply Mem.alloc | with_reducible apply Mem.set | with_reducible exact Sto.row | ((with_reducible refine Sto.rowEq2 ?_ ?_); omega; rfl) | ((with_reducible refine Sto.rowEq ?_); omega) | with_reducible apply Sto.int | with_reducible apply Sto.there | with_reducible assumption | (unfold I64; omega) | (with_reducible (have hMx := Mem.undrew hM; exact hMx)) | (with_reducible (have hMx := Mem.undrew hMp; exact hMx)))))⟩
  have HR := Lib.hid (show decB k l = (readI k (befB 10 l)).map fun e => (e, (befB 10 l).length + 1) by rw [decB, h1]; rfl)
  have H1 := Lib.hid h1; clear h1
  by_cases h2 : (befB 10 l).length ≤ 4000
  rotate_left
  · have HR2 := Lib.hid (show decB k l = none by rw [HR.out, readI, decide_eq_false h2]; rfl)
    have h2' : 4000 < (befB 10 l).length := by omega
    go_enter Tryz.func69, Tryz.ntmps69
    go_wp2_with fail
    apply Mem.atA
    · (repeat' (first | with_reducible exact hM | with_reducible exact hMp | with_reducible apply Mem.drew | with_reducible apply Mem.drewN | with_reducible apply Mem.alloc | with_reducible apply Mem.set | with_reducible exact Sto.row | ((with_reducible refine Sto.rowEq2 ?_ ?_); omega; rfl) | ((with_reducible refine Sto.rowEq ?_); omega) | with_reducible apply Sto.int | with_reducible apply Sto.there | with_reducible assumption | (unfold I64; omega) | (with_reducible (have hMx := Mem.undrew hM; exact hMx)) | (with_reducible (have hMx := Mem.undrew hMp; exact hMx))))
    clear hM
    intro wst hM
    (try simp only [World.size_alloc, World.size_setCell, World.heap_drewN, heapDrew, Nat.add_assoc, Nat.reduceAdd, List.setIfInBounds_toArray, List.set_cons_zero, List.set_cons_succ, List.cons_append, List.nil_append] at hM)
    (first | refine (cut_any l 10 _ (by omega)).mono ?_)
    rw [H1.out]
    rintro e wc2 ⟨rfl, hb⟩
    replace hM := hM.ext hb
    clear hb
    generalize befB 10 l = line at l1 h2 h2' ⊢
    generalize aftB 10 l = rest0
    obtain ⟨k0, f0, l0⟩ := hM.row .here
    go_wp2
    refine bodyPost_ret (v := .tuple #[.agg #[.string ⟨#[]⟩, .string ⟨#[]⟩], .int .i64 0, .bool false]) (by simp [results, Tryz.results69, go_sem, k0]) rfl ⟨by rw [HR2.out]; rfl, (by apply Mem.below; (repeat' (first | with_reducible exact hM | with_reducible exact hMp | with_reducible apply Mem.drew | with_reducible apply Mem.drewN | with_reducible apply Mem.alloc | with_reducible apply Mem.set | with_reducible exact Sto.row | ((with_reducible refine Sto.rowEq2 ?_ ?_); omega; rfl) | ((with_reducible refine Sto.rowEq ?_); omega) | with_reducible apply Sto.int | with_reducible apply Sto.there | with_reducible assumption | (unfold I64; omega) | (with_reducible (have hMx := Mem.undrew hM; exact hMx)) | (with_reducible (have hMx := Mem.undrew hMp; exact hMx)))))⟩
  have HRd := Lib.hid (readI_enc (k := k) h2)
  have HP : parseI (befB 10 l) = ⟨befB 64 (aftB 32 (befB 35 (befB 10 l))), aftB 64 (aftB 32 (befB 35 (befB 10 l)))⟩ := rfl
  rw [HP] at HRd
  clear HP
  go_enter Tryz.func69, Tryz.ntmps69
  go_wp2_with fail
  apply Mem.atA
  · (repeat' (first | with_reducible exact hM | with_reducible exact hMp | with_reducible apply Mem.drew | with_reducible apply Mem.drewN | with_reducible apply Mem.alloc | with_reducible apply Mem.set | with_reducible exact Sto.row | ((with_reducible refine Sto.rowEq2 ?_ ?_); omega; rfl) | ((with_reducible refine Sto.rowEq ?_); omega) | with_reducible apply Sto.int | with_reducible apply Sto.there | with_reducible assumption | (unfold I64; omega) | (with_reducible (have hMx := Mem.undrew hM; exact hMx)) | (with_reducible (have hMx := Mem.undrew hMp; exact hMx))))
  clear hM
  intro wst hM
  (try simp only [World.size_alloc, World.size_setCell, World.heap_drewN, heapDrew, Nat.add_assoc, Nat.reduceAdd, List.setIfInBounds_toArray, List.set_cons_zero, List.set_cons_succ, List.cons_append, List.nil_append] at hM)
  (first | refine (cut_any l 10 _ (by omega)).mono ?_)
  rw [H1.out]
  rintro e wc3 ⟨rfl, hb⟩
  replace hM := hM.ext hb
  clear hb
  generalize befB 10 l = line at l1 h2 HR HRd ⊢
  generalize aftB 10 l = rest0
  have l3 := bef_len 35 line
  go_wp2_with fail
  apply Mem.atA
  · (repeat' (first | with_reducible exact hM | with_reducible exact hMp | with_reducible apply Mem.drew | with_reducible apply Mem.drewN | with_reducible apply Mem.alloc | with_reducible apply Mem.set | with_reducible exact Sto.row | ((with_reducible refine Sto.rowEq2 ?_ ?_); omega; rfl) | ((with_reducible refine Sto.rowEq ?_); omega) | with_reducible apply Sto.int | with_reducible apply Sto.there | with_reducible assumption | (unfold I64; omega) | (with_reducible (have hMx := Mem.undrew hM; exact hMx)) | (with_reducible (have hMx := Mem.undrew hMp; exact hMx))))
  clear hM
  intro wst hM
  (try simp only [World.size_alloc, World.size_setCell, World.heap_drewN, heapDrew, Nat.add_assoc, Nat.reduceAdd, List.setIfInBounds_toArray, List.set_cons_zero, List.set_cons_succ, List.cons_append, List.nil_append] at hM)
  (first | refine (cut_any line 35 _ (by omega)).mono ?_)
  rintro e wc4 ⟨rfl, hb⟩
  replace hM := hM.ext hb
  clear hb
  generalize befB 35 line = t at l3 HRd ⊢
  generalize aftB 35 line = rest1
  have l4 := aft_len 32 t
  go_wp2_with fail
  apply Mem.atA
  · (repeat' (first | with_reducible exact hM | with_reducible exact hMp | with_reducible apply Mem.drew | with_reducible apply Mem.drewN | with_reducible apply Mem.alloc | with_reducible apply Mem.set | with_reducible exact Sto.row | ((with_reducible refine Sto.rowEq2 ?_ ?_); omega; rfl) | ((with_reducible refine Sto.rowEq ?_); omega) | with_reducible apply Sto.int | with_reducible apply Sto.there | with_reducible assumption | (unfold I64; omega) | (with_reducible (have hMx := Mem.undrew hM; exact hMx)) | (with_reducible (have hMx := Mem.undrew hMp; exact hMx))))
  clear hM
  intro wst hM
  (try simp only [World.size_alloc, World.size_setCell, World.heap_drewN, heapDrew, Nat.add_assoc, Nat.reduceAdd, List.setIfInBounds_toArray, List.set_cons_zero, List.set_cons_succ, List.cons_append, List.nil_append] at hM)
  (first | refine (cut_any t 32 _ (by omega)).mono ?_)
  rintro e wc5 ⟨rfl, hb⟩
  replace hM := hM.ext hb
  clear hb
  generalize aftB 32 t = both at l4 HRd ⊢
  generalize befB 32 t = rest2
  generalize hasB 35 line = b1
  generalize hasB 32 t = b2
  go_wp2_with fail
  apply Mem.atA
  · (repeat' (first | with_reducible exact hM | with_reducible exact hMp | with_reducible apply Mem.drew | with_reducible apply Mem.drewN | with_reducible apply Mem.alloc | with_reducible apply Mem.set | with_reducible exact Sto.row | ((with_reducible refine Sto.rowEq2 ?_ ?_); omega; rfl) | ((with_reducible refine Sto.rowEq ?_); omega) | with_reducible apply Sto.int | with_reducible apply Sto.there | with_reducible assumption | (unfold I64; omega) | (with_reducible (have hMx := Mem.undrew hM; exact hMx)) | (with_reducible (have hMx := Mem.undrew hMp; exact hMx))))
  clear hM
  intro wst hM
  (try simp only [World.size_alloc, World.size_setCell, World.heap_drewN, heapDrew, Nat.add_assoc, Nat.reduceAdd, List.setIfInBounds_toArray, List.set_cons_zero, List.set_cons_succ, List.cons_append, List.nil_append] at hM)
  (first | refine (cut_any both 64 _ (by omega)).mono ?_)
  rintro e wc6 ⟨rfl, hb⟩
  replace hM := hM.ext hb
  clear hb
  generalize aftB 64 both = r at HRd ⊢
  generalize befB 64 both = c at HRd ⊢
  generalize hasB 64 both = b3
  go_wp2_with fail
  apply Mem.atA
  · (repeat' (first | with_reducible exact hM | with_reducible exact hMp | with_reducible apply Mem.drew | with_reducible apply Mem.drewN | with_reducible apply Mem.alloc | with_reducible apply Mem.set | with_reducible exact Sto.row | ((with_reducible refine Sto.rowEq2 ?_ ?_); omega; rfl) | ((with_reducible refine Sto.rowEq ?_); omega) | with_reducible apply Sto.int | with_reducible apply Sto.there | with_reducible assumption | (unfold I64; omega) | (with_reducible (have hMx := Mem.undrew hM; exact hMx)) | (with_reducible (have hMx := Mem.undrew hMp; exact hMx))))
  clear hM
  intro wst hM
  (try simp only [World.size_alloc, World.size_setCell, World.heap_drewN, heapDrew, Nat.add_assoc, Nat.reduceAdd, List.setIfInBounds_toArray, List.set_cons_zero, List.set_cons_succ, List.cons_append, List.nil_append] at hM)
  (first | refine (encode_any (k : Int) c r _ (HT.out.ext hM.below)).mono ?_)
  rintro e wc7 ⟨rfl, hb⟩
  replace hM := hM.ext hb
  clear hb
  cases hb : encB k ⟨c, r⟩
  · have HR2 := Lib.hid (show decB k l = none by rw [HR.out, HRd.out, hb]; rfl)
    have HB := Lib.hid hb; clear hb
    generalize encL k ⟨c, r⟩ = en at HRd ⊢
    obtain ⟨k0, f0, l0⟩ := hM.row .here
    obtain ⟨k1, f1, l1⟩ := hM.row (.there .here)
    go_wp2
    refine bodyPost_ret (v := .tuple #[.agg #[.string ⟨#[]⟩, .string ⟨#[]⟩], .int .i64 0, .bool false]) (by simp [results, Tryz.results69, go_sem, k1]) rfl ⟨by rw [HR2.out]; rfl, (by apply Mem.below; (repeat' (first | with_reducible exact hM | with_reducible exact hMp | with_reducible apply Mem.drew | with_reducible apply Mem.drewN | with_reducible apply Mem.alloc | with_reducible apply Mem.set | with_reducible exact Sto.row | ((with_reducible refine Sto.rowEq2 ?_ ?_); omega; rfl) | ((with_reducible refine Sto.rowEq ?_); omega) | with_reducible apply Sto.int | with_reducible apply Sto.there | with_reducible assumption | (unfold I64; omega) | (with_reducible (have hMx := Mem.undrew hM; exact hMx)) | (with_reducible (have hMx := Mem.undrew hMp; exact hMx)))))⟩
  rw [hb, Bool.true_and] at HRd
  clear hb
  generalize encL k ⟨c, r⟩ = en at HRd ⊢
  have hcat : ¬ 9223372036854775807 < line.length + 1 := by omega
  have hw : IntKind.i64.wrap ((line.length : Int) + 1) = (line.length : Int) + 1 := wrap_in (by omega)
  cases hq : en == line ++ [10]
  · have HR2 := Lib.hid (show decB k l = none by rw [HR.out, HRd.out, hq]; rfl)
    have hq' : (en != line ++ [10]) = true := by rw [bne, hq]; rfl
    obtain ⟨k0, f0, l0⟩ := hM.row .here
    obtain ⟨k1, f1, l1⟩ := hM.row (.there .here)
    go_wp2
    refine bodyPost_ret (v := .tuple #[.agg #[.string ⟨#[]⟩, .string ⟨#[]⟩], .int .i64 0, .bool false]) (by simp [results, Tryz.results69, go_sem, k1]) rfl ⟨by rw [HR2.out]; rfl, (by apply Mem.below; (repeat' (first | with_reducible exact hM | with_reducible exact hMp | with_reducible apply Mem.drew | with_reducible apply Mem.drewN | with_reducible apply Mem.alloc | with_reducible apply Mem.set | with_reducible exact Sto.row | ((with_reducible refine Sto.rowEq2 ?_ ?_); omega; rfl) | ((with_reducible refine Sto.rowEq ?_); omega) | with_reducible apply Sto.int | with_reducible apply Sto.there | with_reducible assumption | (unfold I64; omega) | (with_reducible (have hMx := Mem.undrew hM; exact hMx)) | (with_reducible (have hMx := Mem.undrew hMp; exact hMx)))))⟩
  · have HR2 := Lib.hid (show decB k l = some (⟨c, r⟩, line.length + 1) by rw [HR.out, HRd.out, hq]; rfl)
    have hq' : (en != line ++ [10]) = false := by rw [bne, hq]; rfl
    obtain ⟨k0, f0, l0⟩ := hM.row .here
    obtain ⟨k1, f1, l1⟩ := hM.row (.there .here)
    go_wp2
    refine bodyPost_ret (v := .tuple #[.agg #[.string (bsA c), .string (bsA r)], .int .i64 ((line.length : Int) + 1), .bool true]) (by simp [results, Tryz.results69, go_sem, k0, k1]) rfl ⟨by rw [HR2.out]; rfl, (by apply Mem.below; (repeat' (first | with_reducible exact hM | with_reducible exact hMp | with_reducible apply Mem.drew | with_reducible apply Mem.drewN | with_reducible apply Mem.alloc | with_reducible apply Mem.set | with_reducible exact Sto.row | ((with_reducible refine Sto.rowEq2 ?_ ?_); omega; rfl) | ((with_reducible refine Sto.rowEq ?_); omega) | with_reducible apply Sto.int | with_reducible apply Sto.there | with_reducible assumption | (unfold I64; omega) | (with_reducible (have hMx := Mem.undrew hM; exact hMx)) | (with_reducible (have hMx := Mem.undrew hMp; exact hMx)))))⟩
theorem decode_none {k : Nat} {l : Bs} {w : World} (h : decB k l = none) (ht : Tab w) (hl : l.length ≤ 4194304) (hk : k ≤ 1000000) :
    Calls Tryz.prog 69 #[.int .i64 k, .string (bsA l)] w fun e w' => e = .returned (.tuple #[.agg #[.string ⟨#[]⟩, .string ⟨#[]⟩], .int .i64 0, .bool false]) ∧ Below w.heap.size w w' := by
  have := decode_any k l w ht hl hk
  rw [h] at this
  exact this
theorem decode_some {k : Nat} {l : Bs} {w : World} {c r : Bs} {n : Nat} (h : decB k l = some (⟨c, r⟩, n)) (ht : Tab w) (hl : l.length ≤ 4194304) (hk : k ≤ 1000000) :
    Calls Tryz.prog 69 #[.int .i64 k, .string (bsA l)] w fun e w' => e = .returned (.tuple #[.agg #[.string (bsA c), .string (bsA r)], .int .i64 n, .bool true]) ∧ Below w.heap.size w w' := by
  have := decode_any k l w ht hl hk
  rw [h] at this
  exact this
end Go.Proofs.YtpflnmejbialjaaGreatDoor
