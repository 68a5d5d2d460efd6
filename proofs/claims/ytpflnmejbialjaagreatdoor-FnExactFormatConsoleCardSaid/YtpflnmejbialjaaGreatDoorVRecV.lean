/-
  Is a record valid: both sides.
-/
import Derived.Test.YtpflnmejbialjaaGreatDoorVStrW
import Derived.Test.YtpflnmejbialjaaGreatDoorVShelf
import Derived.Test.YtpflnmejbialjaaGreatDoorVRegA
import Derived.Lib.IndexAny
import Derived.Lib.SmallJoins
import Derived.BigQuiet
/-
  Is a record valid: both sides.
-/
namespace Go.Proofs.YtpflnmejbialjaaGreatDoor
set_option linter.unusedSimpArgs false
set_option linter.unusedVariables false
open Go.RowKit

theorem contains_has (l : Bs) (b : UInt8) : decide (0 ≤ Lib.indexByte l b) = hasB b l := by
  rw [index_bef]
  cases hasB b l <;> simp
theorem containsAny_has (l : Bs) (a b : UInt8) : Lib.containsAny l [a, b] = (hasB a l || hasB b l) := by
  unfold Lib.containsAny
  induction l with
  | nil => rfl
  | cons x l ih =>
    have hge := Lib.indexAny_ge [a, b] l
    rw [Lib.indexAny, hasB_cons, hasB_cons]
    by_cases h1 : (x == a) = true
    · have hc : [a, b].contains x = true := by simp only [List.contains_cons, h1, Bool.true_or]
      rw [hc, h1]
      simp
    · by_cases h2 : (x == b) = true
      · have hc : [a, b].contains x = true := by simp only [List.contains_cons, h2, Bool.true_or, Bool.or_true]
        rw [hc, h2]
        simp
      · have h1' : (x == a) = false := by simpa using h1
        have h2' : (x == b) = false := by simpa using h2
        have hc : [a, b].contains x = false := by simp only [List.contains_cons, List.contains_nil, h1', h2', Bool.or_self]
        rw [hc, h1', h2', Bool.false_or, Bool.false_or, ← ih]
        simp only [Bool.false_eq_true, if_false]
        by_cases hm : Lib.indexAny l [a, b] = -1
        · simp [hm]
        · have : (Lib.indexAny l [a, b] == -1) = false := by simpa using hm
          rw [this]
          simp only [Bool.false_eq_true, if_false]
          rw [Bool.eq_iff_iff]
          simp
          omega
theorem pr_ascii {l : Bs} (h : prB l = true) : ∀ (j : Nat) b, l[j]? = some b → b.toNat < 128 := by
  intro j b hb
  have := List.all_eq_true.1 h b (List.mem_of_getElem? hb)
  simp at this
  omega
theorem plain_eq (l : Bs) (m : Nat) : plainB l m = (prB l && !hasB 35 l && decide (l.length ≤ m)) := by
  unfold plainB prB
  congr 1
  rw [Bool.eq_iff_iff]
  simp only [List.all_eq_true, Bool.and_eq_true, Bool.not_eq_true', hasB_false, decide_eq_true_eq, beq_eq_false_iff_ne]
  exact ⟨fun h => ⟨fun x hx => (h x hx).1, fun x hx => (h x hx).2⟩, fun h x hx => ⟨h.1 x hx, h.2 x hx⟩⟩
theorem ok_eq (c r : Bs) : okB ⟨c, r⟩ = (inB (c.length : Int) 1 160 && (prB c && (!(hasB 35 c || hasB 64 c) && (decide (r.length ≤ 200) && (prB r && !hasB 35 r))))) := by
  have h1 : (!c.isEmpty && decide (c.length ≤ 160)) = inB (c.length : Int) 1 160 := by
    rw [Bool.eq_iff_iff]
    cases c <;> simp [inB] <;> omega
  rw [okB, plain_eq, plain_eq, ← h1]
  cases c.isEmpty <;> cases prB c <;> cases hasB 35 c <;> cases decide (c.length ≤ 160) <;> cases hasB 64 c <;> cases prB r <;> cases hasB 35 r <;> cases decide (r.length ≤ 200) <;> rfl
theorem ok_eq2 (c r : Bs) : okB ⟨c, r⟩ = (!(c == []) && (plainB c 160 && (!hasB 64 c && plainB r 200))) := by
  have h1 : c.isEmpty = (c == []) := by cases c <;> rfl
  rw [okB, h1, Bool.and_assoc, Bool.and_assoc]

theorem contains_any (l : Bs) (b : UInt8) (w : World) : Calls Tryz.prog 93 #[.string (bsA l), .string ⟨#[b]⟩] w fun e w' => e = .returned (.bool (hasB b l)) ∧ w = w' :=
  (Tryz.strings_Contains_one (bsA l) b w).mono fun _ _ h => ⟨by rw [h.1, bsA_dat, contains_has], h.2.symm⟩
theorem containsAny_any (l : Bs) (w : World) (hl : l.length ≤ 100000) (ha : prB l = true) : Calls Tryz.prog 92 #[.string (bsA l), .string ⟨#[35, 64]⟩] w fun e w' => e = .returned (.bool (hasB 35 l || hasB 64 l)) ∧ Below w.heap.size w w' :=
  (Tryz.strings_ContainsAny_laid (bsA l) ⟨#[35, 64]⟩ w (by rw [bsA_size]; omega) (by decide) (pr_ascii ha) (by
    intro j b hb
    rcases j with _ | _ | j
    · obtain rfl : 35 = b := by simpa using hb
      decide
    · obtain rfl : 64 = b := by simpa using hb
      decide
    · simp at hb)).mono fun _ _ h => ⟨by rw [h.1, ← containsAny_has]; rfl, h.2⟩

set_option maxRecDepth 100000 in
set_option maxHeartbeats 4000000 in
theorem isValidRecord_any (c r : Bs) (w : World) :
    Calls Tryz.prog 86 #[.agg #[.string (bsA c), .string (bsA r)]] w fun e w' => e = .returned (.bool (okB ⟨c, r⟩)) ∧ Below w.heap.size w w' := by
  have hM := Mem.start w
  have S1 := bsA_size
  have HO := Lib.hid (ok_eq c r)
  go_enter Tryz.func86, Tryz.ntmps86
  go_wp2_with fail
  apply Mem.atA
  · (repeat' (first | with_reducible exact hM | with_reducible exact hMp | with_reducible apply Mem.drew | with_reducible apply Mem.drewN | with_reducible apply Mem.alloc | with_reducible apply Mem.set | with_reducible exact Sto.row | ((with_reducible refine Sto.rowEq2 ?_ ?_); omega; rfl) | ((with_reducible refine Sto.rowEq ?_); omega) | with_reducible apply Sto.int | with_reducible apply Sto.there | with_reducible assumption | (unfold I64; omega) | (with_reducible (have hMx := Mem.undrew hM; exact hMx)) | (with_reducible (have hMx := Mem.undrew hMp; exact hMx))))
  clear hM
  intro wst hM
  (try simp only [World.size_alloc, World.size_setCell, World.heap_drewN, heapDrew, Nat.add_assoc, Nat.reduceAdd, List.setIfInBounds_toArray, List.set_cons_zero, List.set_cons_succ, List.cons_append, List.nil_append] at hM)
  apply Calls.mono
  · (apply in_any) <;> (first | (show (_ : Prop); with_reducible assumption) | (apply Hid.out; with_reducible assumption) | (apply Mem.intsR hM; (repeat' (first | with_reducible exact In.here | with_reducible apply In.there)); done) | (apply Ints.ext (hb := hM.below); with_reducible assumption) | (apply Rd.ext (hb := hM.below); with_reducible assumption) | (apply Mem.row hM; (repeat' (first | with_reducible exact In.here | with_reducible apply In.there)); done) | (apply Row.ext (hb := hM.below); with_reducible assumption) | exact ⟨by omega, by omega⟩ | omega | (trace_state; fail))
  rintro e wc1 ⟨rfl, rfl⟩
  cases h1 : inB (c.length : Int) 1 160
  · have HR := Lib.hid (show okB ⟨c, r⟩ = false by rw [HO.out, h1]; rfl)
    obtain ⟨k0, f0, l0⟩ := hM.row .here
    go_wp2
    go_ret
    exact ⟨rb (by rw [HR.out]), (by apply Mem.below; (repeat' (first | with_reducible exact hM | with_reducible exact hMp | with_reducible apply Mem.drew | with_reducible apply Mem.drewN | with_reducible apply Mem.alloc | with_reducible apply Mem.set | with_reducible exact Sto.row | ((with_reducible refine Sto.rowEq2 ?_ ?_); omega; rfl) | ((with_reducible refine Sto.rowEq ?_); omega) | with_reducible apply Sto.int | with_reducible apply Sto.there | with_reducible assumption | (unfold I64; omega) | (with_reducible (have hMx := Mem.undrew hM; exact hMx)) | (with_reducible (have hMx := Mem.undrew hMp; exact hMx)))))⟩
  obtain ⟨-, c1⟩ := inB_true h1
  rw [h1, Bool.true_and] at HO
  obtain ⟨k0, f0, l0⟩ := hM.row .here
  go_wp2_with fail
  clear k0 f0 l0
  apply Mem.atA
  · (repeat' (first | with_reducible exact hM | with_reducible exact hMp | with_reducible apply Mem.drew | with_reducible apply Mem.drewN | with_reducible apply Mem.alloc | with_reducible apply Mem.set | with_reducible exact Sto.row | ((with_reducible refine Sto.rowEq2 ?_ ?_); omega; rfl) | ((with_reducible refine Sto.rowEq ?_); omega) | with_reducible apply Sto.int | with_reducible apply Sto.there | with_reducible assumption | (unfold I64; omega) | (with_reducible (have hMx := Mem.undrew hM; exact hMx)) | (with_reducible (have hMx := Mem.undrew hMp; exact hMx))))
  clear hM
  intro wst hM
  (try simp only [World.size_alloc, World.size_setCell, World.heap_drewN, heapDrew, Nat.add_assoc, Nat.reduceAdd, List.setIfInBounds_toArray, List.set_cons_zero, List.set_cons_succ, List.cons_append, List.nil_append] at hM)
  apply Calls.mono
  · (apply isPrintable_any) <;> (first | (show (_ : Prop); with_reducible assumption) | (apply Hid.out; with_reducible assumption) | (apply Mem.intsR hM; (repeat' (first | with_reducible exact In.here | with_reducible apply In.there)); done) | (apply Ints.ext (hb := hM.below); with_reducible assumption) | (apply Rd.ext (hb := hM.below); with_reducible assumption) | (apply Mem.row hM; (repeat' (first | with_reducible exact In.here | with_reducible apply In.there)); done) | (apply Row.ext (hb := hM.below); with_reducible assumption) | exact ⟨by omega, by omega⟩ | omega | (trace_state; fail))
  rintro e wc2 ⟨rfl, rfl⟩
  cases h2 : prB c
  · have HR := Lib.hid (show okB ⟨c, r⟩ = false by rw [HO.out, h2]; rfl)
    obtain ⟨k0, f0, l0⟩ := hM.row .here
    go_wp2
    go_ret
    exact ⟨rb (by rw [HR.out]), (by apply Mem.below; (repeat' (first | with_reducible exact hM | with_reducible exact hMp | with_reducible apply Mem.drew | with_reducible apply Mem.drewN | with_reducible apply Mem.alloc | with_reducible apply Mem.set | with_reducible exact Sto.row | ((with_reducible refine Sto.rowEq2 ?_ ?_); omega; rfl) | ((with_reducible refine Sto.rowEq ?_); omega) | with_reducible apply Sto.int | with_reducible apply Sto.there | with_reducible assumption | (unfold I64; omega) | (with_reducible (have hMx := Mem.undrew hM; exact hMx)) | (with_reducible (have hMx := Mem.undrew hMp; exact hMx)))))⟩
  have HP := Lib.hid h2
  rw [h2, Bool.true_and] at HO
  obtain ⟨k0, f0, l0⟩ := hM.row .here
  go_wp2_with fail
  clear k0 f0 l0
  apply Mem.atA
  · (repeat' (first | with_reducible exact hM | with_reducible exact hMp | with_reducible apply Mem.drew | with_reducible apply Mem.drewN | with_reducible apply Mem.alloc | with_reducible apply Mem.set | with_reducible exact Sto.row | ((with_reducible refine Sto.rowEq2 ?_ ?_); omega; rfl) | ((with_reducible refine Sto.rowEq ?_); omega) | with_reducible apply Sto.int | with_reducible apply Sto.there | with_reducible assumption | (unfold I64; omega) | (with_reducible (have hMx := Mem.undrew hM; exact hMx)) | (with_reducible (have hMx := Mem.undrew hMp; exact hMx))))
  clear hM
  intro wst hM
  (try simp only [World.size_alloc, World.size_setCell, World.heap_drewN, heapDrew, Nat.add_assoc, Nat.reduceAdd, List.setIfInBounds_toArray, List.set_cons_zero, List.set_cons_succ, List.cons_append, List.nil_append] at hM)
  (first | refine (containsAny_any c _ (by omega) HP.out).mono ?_)
  rintro e wc3 ⟨rfl, hb⟩
  replace hM := hM.ext hb
  clear hb
  cases h3 : hasB 35 c || hasB 64 c
  rotate_left
  · have HR := Lib.hid (show okB ⟨c, r⟩ = false by rw [HO.out, h3]; rfl)
    obtain ⟨k0, f0, l0⟩ := hM.row .here
    go_wp2
    go_ret
    exact ⟨rb (by rw [HR.out]), (by apply Mem.below; (repeat' (first | with_reducible exact hM | with_reducible exact hMp | with_reducible apply Mem.drew | with_reducible apply Mem.drewN | with_reducible apply Mem.alloc | with_reducible apply Mem.set | with_reducible exact Sto.row | ((with_reducible refine Sto.rowEq2 ?_ ?_); omega; rfl) | ((with_reducible refine Sto.rowEq ?_); omega) | with_reducible apply Sto.int | with_reducible apply Sto.there | with_reducible assumption | (unfold I64; omega) | (with_reducible (have hMx := Mem.undrew hM; exact hMx)) | (with_reducible (have hMx := Mem.undrew hMp; exact hMx)))))⟩
  rw [h3, Bool.not_false, Bool.true_and] at HO
  by_cases h4 : r.length ≤ 200
  rotate_left
  · have HR := Lib.hid (show okB ⟨c, r⟩ = false by rw [HO.out]; simp [h4])
    obtain ⟨k0, f0, l0⟩ := hM.row .here
    go_wp2
    go_ret
    exact ⟨rb (by rw [HR.out]), (by apply Mem.below; (repeat' (first | with_reducible exact hM | with_reducible exact hMp | with_reducible apply Mem.drew | with_reducible apply Mem.drewN | with_reducible apply Mem.alloc | with_reducible apply Mem.set | with_reducible exact Sto.row | ((with_reducible refine Sto.rowEq2 ?_ ?_); omega; rfl) | ((with_reducible refine Sto.rowEq ?_); omega) | with_reducible apply Sto.int | with_reducible apply Sto.there | with_reducible assumption | (unfold I64; omega) | (with_reducible (have hMx := Mem.undrew hM; exact hMx)) | (with_reducible (have hMx := Mem.undrew hMp; exact hMx)))))⟩
  rw [decide_eq_true h4, Bool.true_and] at HO
  obtain ⟨k0, f0, l0⟩ := hM.row .here
  go_wp2_with fail
  clear k0 f0 l0
  apply Mem.atA
  · (repeat' (first | with_reducible exact hM | with_reducible exact hMp | with_reducible apply Mem.drew | with_reducible apply Mem.drewN | with_reducible apply Mem.alloc | with_reducible apply Mem.set | with_reducible exact Sto.row | ((with_reducible refine Sto.rowEq2 ?_ ?_); omega; rfl) | ((with_reducible refine Sto.rowEq ?_); omega) | with_reducible apply Sto.int | with_reducible apply Sto.there | with_reducible assumption | (unfold I64; omega) | (with_reducible (have hMx := Mem.undrew hM; exact hMx)) | (with_reducible (have hMx := Mem.undrew hMp; exact hMx))))
  clear hM
  intro wst hM
  (try simp only [World.size_alloc, World.size_setCell, World.heap_drewN, heapDrew, Nat.add_assoc, Nat.reduceAdd, List.setIfInBounds_toArray, List.set_cons_zero, List.set_cons_succ, List.cons_append, List.nil_append] at hM)
  apply Calls.mono
  · (apply isPrintable_any) <;> (first | (show (_ : Prop); with_reducible assumption) | (apply Hid.out; with_reducible assumption) | (apply Mem.intsR hM; (repeat' (first | with_reducible exact In.here | with_reducible apply In.there)); done) | (apply Ints.ext (hb := hM.below); with_reducible assumption) | (apply Rd.ext (hb := hM.below); with_reducible assumption) | (apply Mem.row hM; (repeat' (first | with_reducible exact In.here | with_reducible apply In.there)); done) | (apply Row.ext (hb := hM.below); with_reducible assumption) | exact ⟨by omega, by omega⟩ | omega | (trace_state; fail))
  rintro e wc4 ⟨rfl, rfl⟩
  cases h5 : prB r
  · have HR := Lib.hid (show okB ⟨c, r⟩ = false by rw [HO.out, h5]; rfl)
    obtain ⟨k0, f0, l0⟩ := hM.row .here
    go_wp2
    go_ret
    exact ⟨rb (by rw [HR.out]), (by apply Mem.below; (repeat' (first | with_reducible exact hM | with_reducible exact hMp | with_reducible apply Mem.drew | with_reducible apply Mem.drewN | with_reducible apply Mem.alloc | with_reducible apply Mem.set | with_reducible exact Sto.row | ((with_reducible refine Sto.rowEq2 ?_ ?_); omega; rfl) | ((with_reducible refine Sto.rowEq ?_); omega) | with_reducible apply Sto.int | with_reducible apply Sto.there | with_reducible assumption | (unfold I64; omega) | (with_reducible (have hMx := Mem.undrew hM; exact hMx)) | (with_reducible (have hMx := Mem.undrew hMp; exact hMx)))))⟩
  rw [h5, Bool.true_and] at HO
  obtain ⟨k0, f0, l0⟩ := hM.row .here
  go_wp2_with fail
  clear k0 f0 l0
  apply Mem.atA
  · (repeat' (first | with_reducible exact hM | with_reducible exact hMp | with_reducible apply Mem.drew | with_reducible apply Mem.drewN | with_reducible apply Mem.alloc | with_reducible apply Mem.set | with_reducible exact Sto.row | ((with_reducible refine Sto.rowEq2 ?_ ?_); omega; rfl) | ((with_reducible refine Sto.rowEq ?_); omega) | with_reducible apply Sto.int | with_reducible apply Sto.there | with_reducible assumption | (unfold I64; omega) | (with_reducible (have hMx := Mem.undrew hM; exact hMx)) | (with_reducible (have hMx := Mem.undrew hMp; exact hMx))))
  clear hM
  intro wst hM
  (try simp only [World.size_alloc, World.size_setCell, World.heap_drewN, heapDrew, Nat.add_assoc, Nat.reduceAdd, List.setIfInBounds_toArray, List.set_cons_zero, List.set_cons_succ, List.cons_append, List.nil_append] at hM)
  apply Calls.mono
  · (apply contains_any) <;> (first | (show (_ : Prop); with_reducible assumption) | (apply Hid.out; with_reducible assumption) | (apply Mem.intsR hM; (repeat' (first | with_reducible exact In.here | with_reducible apply In.there)); done) | (apply Ints.ext (hb := hM.below); with_reducible assumption) | (apply Rd.ext (hb := hM.below); with_reducible assumption) | (apply Mem.row hM; (repeat' (first | with_reducible exact In.here | with_reducible apply In.there)); done) | (apply Row.ext (hb := hM.below); with_reducible assumption) | exact ⟨by omega, by omega⟩ | omega | (trace_state; fail))
  rintro e wc5 ⟨rfl, rfl⟩
  obtain ⟨k0, f0, l0⟩ := hM.row .here
  go_wp2
  go_ret
  exact ⟨rb (by rw [HO.out]), (by apply Mem.below; (repeat' (first | with_reducible exact hM | with_reducible exact hMp | with_reducible apply Mem.drew | with_reducible apply Mem.drewN | with_reducible apply Mem.alloc | with_reducible apply Mem.set | with_reducible exact Sto.row | ((with_reducible refine Sto.rowEq2 ?_ ?_); omega; rfl) | ((with_reducible refine Sto.rowEq ?_); omega) | with_reducible apply Sto.int | with_reducible apply Sto.there | with_reducible assumption | (unfold I64; omega) | (with_reducible (have hMx := Mem.undrew hM; exact hMx)) | (with_reducible (have hMx := Mem.undrew hMp; exact hMx)))))⟩

theorem nil_list : (⟨#[]⟩ : ByteArray).toList = [] := ByteArray.toList_mk []
set_option maxRecDepth 100000 in
set_option maxHeartbeats 4000000 in
theorem l27Good_any (c r : Bs) (w : World) (hc : c.length ≤ 4611686018427387904) (hr : r.length ≤ 4611686018427387904) :
    Calls Tryz.prog 66 #[.agg #[.string (bsA c), .string (bsA r)]] w fun e w' => e = .returned (.bool (okB ⟨c, r⟩)) ∧ Below w.heap.size w w' := by
  have hM := Mem.start w
  have S1 := bsA_size
  have S3 := bsA_list
  have S4 := nil_list
  have HO := Lib.hid (ok_eq2 c r)
  cases h1 : c == []
  rotate_left
  · have HR := Lib.hid (show okB ⟨c, r⟩ = false by rw [HO.out, h1]; rfl)
    go_enter Tryz.func66, Tryz.ntmps66
    go_wp2
    go_ret
    exact ⟨rb (by rw [HR.out]), (by apply Mem.below; (repeat' (first | with_reducible exact hM | with_reducible exact hMp | with_reducible apply Mem.drew | with_reducible apply Mem.drewN | with_reducible apply Mem.alloc | with_reducible apply Mem.set | with_reducible exact Sto.row | ((with_reducible refine Sto.rowEq2 ?_ ?_); omega; rfl) | ((with_reducible refine Sto.rowEq ?_); omega) | with_reducible apply Sto.int | with_reducible apply Sto.there | with_reducible assumption | (unfold I64; omega) | (with_reducible (have hMx := Mem.undrew hM; exact hMx)) | (with_reducible (have hMx := Mem.undrew hMp; exact hMx)))))⟩
  rw [h1, Bool.not_false, Bool.true_and] at HO
  go_enter Tryz.func66, Tryz.ntmps66
  go_wp2_with fail
  apply Mem.atA
  · (repeat' (first | with_reducible exact hM | with_reducible exact hMp | with_reducible apply Mem.drew | with_reducible apply Mem.drewN | with_reducible apply Mem.alloc | with_reducible apply Mem.set | with_reducible exact Sto.row | ((with_reducible refine Sto.rowEq2 ?_ ?_); omega; rfl) | ((with_reducible refine Sto.rowEq ?_); omega) | with_reducible apply Sto.int | with_reducible apply Sto.there | with_reducible assumption | (unfold I64; omega) | (with_reducible (have hMx := Mem.undrew hM; exact hMx)) | (with_reducible (have hMx := Mem.undrew hMp; exact hMx))))
  clear hM
  intro wst hM
  (try simp only [World.size_alloc, World.size_setCell, World.heap_drewN, heapDrew, Nat.add_assoc, Nat.reduceAdd, List.setIfInBounds_toArray, List.set_cons_zero, List.set_cons_succ, List.cons_append, List.nil_append] at hM)
  (first | refine (l27Plain_any c 160 _ hc).mono ?_)
  rintro e wc6 ⟨rfl, rfl⟩
  cases h2 : plainB c 160
  · have HR := Lib.hid (show okB ⟨c, r⟩ = false by rw [HO.out, h2]; rfl)
    obtain ⟨k0, f0, l0⟩ := hM.row .here
    go_wp2
    go_ret
    exact ⟨rb (by rw [HR.out]), (by apply Mem.below; (repeat' (first | with_reducible exact hM | with_reducible exact hMp | with_reducible apply Mem.drew | with_reducible apply Mem.drewN | with_reducible apply Mem.alloc | with_reducible apply Mem.set | with_reducible exact Sto.row | ((with_reducible refine Sto.rowEq2 ?_ ?_); omega; rfl) | ((with_reducible refine Sto.rowEq ?_); omega) | with_reducible apply Sto.int | with_reducible apply Sto.there | with_reducible assumption | (unfold I64; omega) | (with_reducible (have hMx := Mem.undrew hM; exact hMx)) | (with_reducible (have hMx := Mem.undrew hMp; exact hMx)))))⟩
  rw [h2, Bool.true_and] at HO
  obtain ⟨k0, f0, l0⟩ := hM.row .here
  go_wp2_with fail
  clear k0 f0 l0
  apply Mem.atA
  · (repeat' (first | with_reducible exact hM | with_reducible exact hMp | with_reducible apply Mem.drew | with_reducible apply Mem.drewN | with_reducible apply Mem.alloc | with_reducible apply Mem.set | with_reducible exact Sto.row | ((with_reducible refine Sto.rowEq2 ?_ ?_); omega; rfl) | ((with_reducible refine Sto.rowEq ?_); omega) | with_reducible apply Sto.int | with_reducible apply Sto.there | with_reducible assumption | (unfold I64; omega) | (with_reducible (have hMx := Mem.undrew hM; exact hMx)) | (with_reducible (have hMx := Mem.undrew hMp; exact hMx))))
  clear hM
  intro wst hM
  (try simp only [World.size_alloc, World.size_setCell, World.heap_drewN, heapDrew, Nat.add_assoc, Nat.reduceAdd, List.setIfInBounds_toArray, List.set_cons_zero, List.set_cons_succ, List.cons_append, List.nil_append] at hM)
  (first | refine (l1Stands_any c 64 64 rfl _ hc).mono ?_)
  rintro e wc7 ⟨rfl, rfl⟩
  cases h3 : hasB 64 c
  rotate_left
  · have HR := Lib.hid (show okB ⟨c, r⟩ = false by rw [HO.out, h3]; rfl)
    obtain ⟨k0, f0, l0⟩ := hM.row .here
    go_wp2
    go_ret
    exact ⟨rb (by rw [HR.out]), (by apply Mem.below; (repeat' (first | with_reducible exact hM | with_reducible exact hMp | with_reducible apply Mem.drew | with_reducible apply Mem.drewN | with_reducible apply Mem.alloc | with_reducible apply Mem.set | with_reducible exact Sto.row | ((with_reducible refine Sto.rowEq2 ?_ ?_); omega; rfl) | ((with_reducible refine Sto.rowEq ?_); omega) | with_reducible apply Sto.int | with_reducible apply Sto.there | with_reducible assumption | (unfold I64; omega) | (with_reducible (have hMx := Mem.undrew hM; exact hMx)) | (with_reducible (have hMx := Mem.undrew hMp; exact hMx)))))⟩
  rw [h3, Bool.not_false, Bool.true_and] at HO
  obtain ⟨k0, f0, l0⟩ := hM.row .here
  go_wp2_with fail
  clear k0 f0 l0
  apply Mem.atA
  · (repeat' (first | with_reducible exact hM | with_reducible exact hMp | with_reducible apply Mem.drew | with_reducible apply Mem.drewN | with_reducible apply Mem.alloc | with_reducible apply Mem.set | with_reducible exact Sto.row | ((with_reducible refine Sto.rowEq2 ?_ ?_); omega; rfl) | ((with_reducible refine Sto.rowEq ?_); omega) | with_reducible apply Sto.int | with_reducible apply Sto.there | with_reducible assumption | (unfold I64; omega) | (with_reducible (have hMx := Mem.undrew hM; exact hMx)) | (with_reducible (have hMx := Mem.undrew hMp; exact hMx))))
  clear hM
  intro wst hM
  (try simp only [World.size_alloc, World.size_setCell, World.heap_drewN, heapDrew, Nat.add_assoc, Nat.reduceAdd, List.setIfInBounds_toArray, List.set_cons_zero, List.set_cons_succ, List.cons_append, List.nil_append] at hM)
  (first | refine (l27Plain_any r 200 _ hr).mono ?_)
  rintro e wc8 ⟨rfl, rfl⟩
  obtain ⟨k0, f0, l0⟩ := hM.row .here
  go_wp2
  go_ret
  exact ⟨rb (by rw [HO.out]), (by apply Mem.below; (repeat' (first | with_reducible exact hM | with_reducible exact hMp | with_reducible apply Mem.drew | with_reducible apply Mem.drewN | with_reducible apply Mem.alloc | with_reducible apply Mem.set | with_reducible exact Sto.row | ((with_reducible refine Sto.rowEq2 ?_ ?_); omega; rfl) | ((with_reducible refine Sto.rowEq ?_); omega) | with_reducible apply Sto.int | with_reducible apply Sto.there | with_reducible assumption | (unfold I64; omega) | (with_reducible (have hMx := Mem.undrew hM; exact hMx)) | (with_reducible (have hMx := Mem.undrew hMp; exact hMx)))))⟩
end Go.Proofs.YtpflnmejbialjaaGreatDoor
