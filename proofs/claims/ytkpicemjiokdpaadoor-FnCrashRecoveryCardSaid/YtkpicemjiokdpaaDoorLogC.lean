/-
  What survives a crash: both sides.
-/
import Derived.Test.YtkpicemjiokdpaaDoorLogH
import Derived.Test.YtkpicemjiokdpaaDoorByt
namespace Go.Proofs.YtkpicemjiokdpaaDoor
set_option linter.unusedSimpArgs false
set_option linter.unusedVariables false
open Go.RowKit

/-- the bytes that are kept, the last one torn -/
def tearB (X : Bs) : Bs := X.set (X.length - 1) (255 - X.getD (X.length - 1) 0)
def crashB (P : Bs) (k : Nat) (torn : Bool) : Bs := if torn && decide (0 < k) then tearB (P.take k) else P.take k
def crashV (D P : Bs) (c k : Int) (torn : Bool) : Value := if okI D P c && inB k 0 P.length then .tuple #[.string (bsA (D ++ crashB P k.toNat torn)), .bool true] else .tuple #[.string (bsA []), .bool false]
theorem tear_app (D X : Bs) (h : 0 < X.length) : D ++ tearB X = tearB (D ++ X) := by
  unfold tearB
  have e : (D ++ X).length - 1 = D.length + (X.length - 1) := by rw [List.length_append]; omega
  rw [e, List.set_append_right _ _ (by omega), Nat.add_sub_cancel_left]
  congr 2
  simp [List.getD, List.getElem?_append_right]
theorem tear_val {x : UInt8} {v : Nat} (h : x.toNat = v) : ((255 - x).toNat : Int) = 255 - (v : Int) := by
  have h1 := x.toNat_lt
  rw [UInt8.toNat_sub, h]
  have : (255 : UInt8).toNat = 255 := rfl
  rw [this]
  omega

set_option maxRecDepth 100000 in
set_option maxHeartbeats 8000000 in
theorem specCrash_any (D P : Bs) (c k : Int) (torn : Bool) (w : World) (hl : D.length + P.length ≤ 4194304) :
    Calls Tryd.prog 25 #[logV D P c, .int .i64 k, .bool torn] w fun e w' => e = .returned (crashV D P c k torn) ∧ Below w.heap.size w w' := by
  have hM := Mem.start w
  have S1 := bsA_size
  have S2 := bsA_app
  cases h1 : okI D P c
  · have HR := Lib.hid (show crashV D P c k torn = .tuple #[.string (bsA []), .bool false] by rw [crashV, h1]; rfl)
    have H1 := Lib.hid h1; clear h1
    go_enter Tryd.func25, Tryd.ntmps25
    go_wp2_with fail
    apply Mem.atA
    · (repeat' (first | with_reducible exact hM | with_reducible exact hMp | with_reducible apply Mem.drew | with_reducible apply Mem.drewN | with_reducible apply Mem.alloc | with_reducible apply Mem.set | with_reducible exact Sto.row | ((with_reducible refine Sto.rowEq2 ?_ ?_); omega; rfl) | ((with_reducible refine Sto.rowEq ?_); omega) | with_reducible apply Sto.int | with_reducible apply Sto.there | with_reducible assumption | (unfold I64; omega) | (with_reducible (have hMx := Mem.undrew hM; exact hMx)) | (with_reducible (have hMx := Mem.undrew hMp; exact hMx))))
    clear hM
    intro wst hM
    (try simp only [World.size_alloc, World.size_setCell, World.heap_drewN, heapDrew, Nat.add_assoc, Nat.reduceAdd, List.setIfInBounds_toArray, List.set_cons_zero, List.set_cons_succ, List.cons_append, List.nil_append] at hM)
    refine (l27Log_b H1.out hl).mono ?_
    rintro e wc1 ⟨rfl, hb⟩
    replace hM := hM.ext hb
    clear hb
    go_wp2
    go_ret2
    exact ⟨by rw [HR.out]; rfl, (by apply Mem.below; (repeat' (first | with_reducible exact hM | with_reducible exact hMp | with_reducible apply Mem.drew | with_reducible apply Mem.drewN | with_reducible apply Mem.alloc | with_reducible apply Mem.set | with_reducible exact Sto.row | ((with_reducible refine Sto.rowEq2 ?_ ?_); omega; rfl) | ((with_reducible refine Sto.rowEq ?_); omega) | with_reducible apply Sto.int | with_reducible apply Sto.there | with_reducible assumption | (unfold I64; omega) | (with_reducible (have hMx := Mem.undrew hM; exact hMx)) | (with_reducible (have hMx := Mem.undrew hMp; exact hMx)))))⟩
  cases h2 : inB k 0 P.length
  · have HR := Lib.hid (show crashV D P c k torn = .tuple #[.string (bsA []), .bool false] by rw [crashV, h1, h2]; rfl)
    have H1 := Lib.hid h1; clear h1
    have H2 := Lib.hid h2; clear h2
    go_enter Tryd.func25, Tryd.ntmps25
    go_wp2_with fail
    apply Mem.atA
    · (repeat' (first | with_reducible exact hM | with_reducible exact hMp | with_reducible apply Mem.drew | with_reducible apply Mem.drewN | with_reducible apply Mem.alloc | with_reducible apply Mem.set | with_reducible exact Sto.row | ((with_reducible refine Sto.rowEq2 ?_ ?_); omega; rfl) | ((with_reducible refine Sto.rowEq ?_); omega) | with_reducible apply Sto.int | with_reducible apply Sto.there | with_reducible assumption | (unfold I64; omega) | (with_reducible (have hMx := Mem.undrew hM; exact hMx)) | (with_reducible (have hMx := Mem.undrew hMp; exact hMx))))
    clear hM
    intro wst hM
    (try simp only [World.size_alloc, World.size_setCell, World.heap_drewN, heapDrew, Nat.add_assoc, Nat.reduceAdd, List.setIfInBounds_toArray, List.set_cons_zero, List.set_cons_succ, List.cons_append, List.nil_append] at hM)
    refine (l27Log_b H1.out hl).mono ?_
    rintro e wc2 ⟨rfl, hb⟩
    replace hM := hM.ext hb
    clear hb
    obtain ⟨k0, f0, l0⟩ := hM.row .here
    go_wp2_with fail
    clear k0 f0 l0
    apply Mem.atA
    · (repeat' (first | with_reducible exact hM | with_reducible exact hMp | with_reducible apply Mem.drew | with_reducible apply Mem.drewN | with_reducible apply Mem.alloc | with_reducible apply Mem.set | with_reducible exact Sto.row | ((with_reducible refine Sto.rowEq2 ?_ ?_); omega; rfl) | ((with_reducible refine Sto.rowEq ?_); omega) | with_reducible apply Sto.int | with_reducible apply Sto.there | with_reducible assumption | (unfold I64; omega) | (with_reducible (have hMx := Mem.undrew hM; exact hMx)) | (with_reducible (have hMx := Mem.undrew hMp; exact hMx))))
    clear hM
    intro wst hM
    (try simp only [World.size_alloc, World.size_setCell, World.heap_drewN, heapDrew, Nat.add_assoc, Nat.reduceAdd, List.setIfInBounds_toArray, List.set_cons_zero, List.set_cons_succ, List.cons_append, List.nil_append] at hM)
    apply Calls.mono
    · (apply l1In_any) <;> (first | (show (_ : Prop); with_reducible assumption) | (apply Hid.out; with_reducible assumption) | (apply Mem.intsR hM; (repeat' (first | with_reducible exact In.here | with_reducible apply In.there)); done) | (apply Ints.ext (hb := hM.below); with_reducible assumption) | (apply Rd.ext (hb := hM.below); with_reducible assumption) | (apply Mem.row hM; (repeat' (first | with_reducible exact In.here | with_reducible apply In.there)); done) | (apply Row.ext (hb := hM.below); with_reducible assumption) | exact ⟨by omega, by omega⟩ | omega | (trace_state; fail))
    rw [H2.out]
    rintro e wc3 ⟨rfl, rfl⟩
    go_wp2
    go_ret2
    exact ⟨by rw [HR.out]; rfl, (by apply Mem.below; (repeat' (first | with_reducible exact hM | with_reducible exact hMp | with_reducible apply Mem.drew | with_reducible apply Mem.drewN | with_reducible apply Mem.alloc | with_reducible apply Mem.set | with_reducible exact Sto.row | ((with_reducible refine Sto.rowEq2 ?_ ?_); omega; rfl) | ((with_reducible refine Sto.rowEq ?_); omega) | with_reducible apply Sto.int | with_reducible apply Sto.there | with_reducible assumption | (unfold I64; omega) | (with_reducible (have hMx := Mem.undrew hM; exact hMx)) | (with_reducible (have hMx := Mem.undrew hMp; exact hMx)))))⟩
  obtain ⟨k0, k1⟩ := inB_true h2
  obtain ⟨k, rfl⟩ := Int.eq_ofNat_of_zero_le k0
  have hk : k ≤ P.length := by omega
  have HR := Lib.hid (show crashV D P c k torn = .tuple #[.string (bsA (D ++ crashB P k torn)), .bool true] by rw [crashV, h1, h2, Int.toNat_natCast]; rfl)
  have H1 := Lib.hid h1; clear h1
  have H2 := Lib.hid h2; clear h2
  have E1 : (bsA P).extract 0 k = bsA (P.take k) := bsA_to P k
  have hkl : (P.take k).length = k := by rw [List.length_take]; omega
  have HKL := Lib.hid hkl; clear hkl
  by_cases ht : torn = true ∧ 0 < k
  rotate_left
  · have HC := Lib.hid (show crashB P k torn = P.take k by unfold crashB; rw [if_neg]; simpa using ht)
    have hcat : ¬ 9223372036854775807 < D.length + (P.take k).length := by rw [HKL.out]; omega
    generalize P.take k = X at E1 HKL HC hcat
    cases torn
    all_goals
      try have h00 : ¬ 0 < k := by simpa using ht
      clear ht
      go_enter Tryd.func25, Tryd.ntmps25
      go_wp2_with fail
      apply Mem.atA
      · (repeat' (first | with_reducible exact hM | with_reducible exact hMp | with_reducible apply Mem.drew | with_reducible apply Mem.drewN | with_reducible apply Mem.alloc | with_reducible apply Mem.set | with_reducible exact Sto.row | ((with_reducible refine Sto.rowEq2 ?_ ?_); omega; rfl) | ((with_reducible refine Sto.rowEq ?_); omega) | with_reducible apply Sto.int | with_reducible apply Sto.there | with_reducible assumption | (unfold I64; omega) | (with_reducible (have hMx := Mem.undrew hM; exact hMx)) | (with_reducible (have hMx := Mem.undrew hMp; exact hMx))))
      clear hM
      intro wst hM
      (try simp only [World.size_alloc, World.size_setCell, World.heap_drewN, heapDrew, Nat.add_assoc, Nat.reduceAdd, List.setIfInBounds_toArray, List.set_cons_zero, List.set_cons_succ, List.cons_append, List.nil_append] at hM)
      refine (l27Log_b H1.out hl).mono ?_
      rintro e wc4 ⟨rfl, hb⟩
      replace hM := hM.ext hb
      clear hb
      obtain ⟨k0, f0, l0⟩ := hM.row .here
      go_wp2_with fail
      clear k0 f0 l0
      apply Mem.atA
      · (repeat' (first | with_reducible exact hM | with_reducible exact hMp | with_reducible apply Mem.drew | with_reducible apply Mem.drewN | with_reducible apply Mem.alloc | with_reducible apply Mem.set | with_reducible exact Sto.row | ((with_reducible refine Sto.rowEq2 ?_ ?_); omega; rfl) | ((with_reducible refine Sto.rowEq ?_); omega) | with_reducible apply Sto.int | with_reducible apply Sto.there | with_reducible assumption | (unfold I64; omega) | (with_reducible (have hMx := Mem.undrew hM; exact hMx)) | (with_reducible (have hMx := Mem.undrew hMp; exact hMx))))
      clear hM
      intro wst hM
      (try simp only [World.size_alloc, World.size_setCell, World.heap_drewN, heapDrew, Nat.add_assoc, Nat.reduceAdd, List.setIfInBounds_toArray, List.set_cons_zero, List.set_cons_succ, List.cons_append, List.nil_append] at hM)
      apply Calls.mono
      · (apply l1In_any) <;> (first | (show (_ : Prop); with_reducible assumption) | (apply Hid.out; with_reducible assumption) | (apply Mem.intsR hM; (repeat' (first | with_reducible exact In.here | with_reducible apply In.there)); done) | (apply Ints.ext (hb := hM.below); with_reducible assumption) | (apply Rd.ext (hb := hM.below); with_reducible assumption) | (apply Mem.row hM; (repeat' (first | with_reducible exact In.here | with_reducible apply In.there)); done) | (apply Row.ext (hb := hM.below); with_reducible assumption) | exact ⟨by omega, by omega⟩ | omega | (trace_state; fail))
      rw [H2.out]
      rintro e wc5 ⟨rfl, rfl⟩
      obtain ⟨k0, f0, l0⟩ := hM.row .here
      go_wp2_with (apply Mem.atL; (focus ((repeat' (first | with_reducible exact hM | with_reducible exact hMp | with_reducible apply Mem.drew | with_reducible apply Mem.drewN | with_reducible apply Mem.alloc | with_reducible apply Mem.set | with_reducible exact Sto.row | ((with_reducible refine Sto.rowEq2 ?_ ?_); omega; rfl) | ((with_reducible refine Sto.rowEq ?_); omega) | with_reducible apply Sto.int | with_reducible apply Sto.there | with_reducible assumption | (unfold I64; omega) | (with_reducible (have hMx := Mem.undrew hM; exact hMx)) | (with_reducible (have hMx := Mem.undrew hMp; exact hMx)))); done)); clear hM k0 f0 l0; intro hM; refine wpList_toBytes (l := X) hM rfl 9 53 5 (.tmp 23) rfl rfl Tryd.underlying9 Tryd.underlying53 Tryd.underlying5 ?_)
      intro cb wb hM
      obtain ⟨k1, f1, l1⟩ := hM.row (.there .here)
      go_wp2_with (apply Mem.atL; (focus ((repeat' (first | with_reducible exact hM | with_reducible exact hMp | with_reducible apply Mem.drew | with_reducible apply Mem.drewN | with_reducible apply Mem.alloc | with_reducible apply Mem.set | with_reducible exact Sto.row | ((with_reducible refine Sto.rowEq2 ?_ ?_); omega; rfl) | ((with_reducible refine Sto.rowEq ?_); omega) | with_reducible apply Sto.int | with_reducible apply Sto.there | with_reducible assumption | (unfold I64; omega) | (with_reducible (have hMx := Mem.undrew hM; exact hMx)) | (with_reducible (have hMx := Mem.undrew hMp; exact hMx)))); done)); clear hM; intro hM; refine wpList_toString (l := X) hM .here rfl 53 9 5 (.tmp 42) rfl rfl Tryd.underlying53 Tryd.underlying5 Tryd.underlying9 ?_)
      go_wp2
      go_ret2
      exact ⟨by rw [HR.out, HC.out]; rfl, (by apply Mem.below; (repeat' (first | with_reducible exact hM | with_reducible exact hMp | with_reducible apply Mem.drew | with_reducible apply Mem.drewN | with_reducible apply Mem.alloc | with_reducible apply Mem.set | with_reducible exact Sto.row | ((with_reducible refine Sto.rowEq2 ?_ ?_); omega; rfl) | ((with_reducible refine Sto.rowEq ?_); omega) | with_reducible apply Sto.int | with_reducible apply Sto.there | with_reducible assumption | (unfold I64; omega) | (with_reducible (have hMx := Mem.undrew hM; exact hMx)) | (with_reducible (have hMx := Mem.undrew hMp; exact hMx)))))⟩
  obtain ⟨rfl, h0⟩ := ht
  have HC := Lib.hid (show crashB P k true = tearB (P.take k) by unfold crashB; rw [if_pos]; simpa using h0)
  obtain ⟨m, hm⟩ : ∃ m, m + 1 = k := ⟨k - 1, by omega⟩
  have hmk : m < k := by omega
  have hw : IntKind.i64.wrap ((k : Int) - 1) = (m : Int) := by rw [wrap_in (by omega)]; omega
  have hw2 : (k : Int) - 1 = (m : Int) := by omega
  have HW2 := Lib.hid hw2; clear hw2
  have HM := Lib.hid hm; clear hm
  generalize P.take k = X at E1 HKL HC
  have hcat : ¬ 9223372036854775807 < D.length + X.length := by rw [HKL.out]; omega
  go_enter Tryd.func25, Tryd.ntmps25
  go_wp2_with fail
  apply Mem.atA
  · (repeat' (first | with_reducible exact hM | with_reducible exact hMp | with_reducible apply Mem.drew | with_reducible apply Mem.drewN | with_reducible apply Mem.alloc | with_reducible apply Mem.set | with_reducible exact Sto.row | ((with_reducible refine Sto.rowEq2 ?_ ?_); omega; rfl) | ((with_reducible refine Sto.rowEq ?_); omega) | with_reducible apply Sto.int | with_reducible apply Sto.there | with_reducible assumption | (unfold I64; omega) | (with_reducible (have hMx := Mem.undrew hM; exact hMx)) | (with_reducible (have hMx := Mem.undrew hMp; exact hMx))))
  clear hM
  intro wst hM
  (try simp only [World.size_alloc, World.size_setCell, World.heap_drewN, heapDrew, Nat.add_assoc, Nat.reduceAdd, List.setIfInBounds_toArray, List.set_cons_zero, List.set_cons_succ, List.cons_append, List.nil_append] at hM)
  refine (l27Log_b H1.out hl).mono ?_
  rintro e wc6 ⟨rfl, hb⟩
  replace hM := hM.ext hb
  clear hb
  obtain ⟨k0, f0, l0⟩ := hM.row .here
  go_wp2_with fail
  clear k0 f0 l0
  apply Mem.atA
  · (repeat' (first | with_reducible exact hM | with_reducible exact hMp | with_reducible apply Mem.drew | with_reducible apply Mem.drewN | with_reducible apply Mem.alloc | with_reducible apply Mem.set | with_reducible exact Sto.row | ((with_reducible refine Sto.rowEq2 ?_ ?_); omega; rfl) | ((with_reducible refine Sto.rowEq ?_); omega) | with_reducible apply Sto.int | with_reducible apply Sto.there | with_reducible assumption | (unfold I64; omega) | (with_reducible (have hMx := Mem.undrew hM; exact hMx)) | (with_reducible (have hMx := Mem.undrew hMp; exact hMx))))
  clear hM
  intro wst hM
  (try simp only [World.size_alloc, World.size_setCell, World.heap_drewN, heapDrew, Nat.add_assoc, Nat.reduceAdd, List.setIfInBounds_toArray, List.set_cons_zero, List.set_cons_succ, List.cons_append, List.nil_append] at hM)
  apply Calls.mono
  · (apply l1In_any) <;> (first | (show (_ : Prop); with_reducible assumption) | (apply Hid.out; with_reducible assumption) | (apply Mem.intsR hM; (repeat' (first | with_reducible exact In.here | with_reducible apply In.there)); done) | (apply Ints.ext (hb := hM.below); with_reducible assumption) | (apply Rd.ext (hb := hM.below); with_reducible assumption) | (apply Mem.row hM; (repeat' (first | with_reducible exact In.here | with_reducible apply In.there)); done) | (apply Row.ext (hb := hM.below); with_reducible assumption) | exact ⟨by omega, by omega⟩ | omega | (trace_state; fail))
  rw [H2.out]
  rintro e wc7 ⟨rfl, rfl⟩
  obtain ⟨k0, f0, l0⟩ := hM.row .here
  go_wp2_with (apply Mem.atL; (focus ((repeat' (first | with_reducible exact hM | with_reducible exact hMp | with_reducible apply Mem.drew | with_reducible apply Mem.drewN | with_reducible apply Mem.alloc | with_reducible apply Mem.set | with_reducible exact Sto.row | ((with_reducible refine Sto.rowEq2 ?_ ?_); omega; rfl) | ((with_reducible refine Sto.rowEq ?_); omega) | with_reducible apply Sto.int | with_reducible apply Sto.there | with_reducible assumption | (unfold I64; omega) | (with_reducible (have hMx := Mem.undrew hM; exact hMx)) | (with_reducible (have hMx := Mem.undrew hMp; exact hMx)))); done)); clear hM k0 f0 l0; intro hM; refine wpList_toBytes (l := X) hM rfl 9 53 5 (.tmp 23) rfl rfl Tryd.underlying9 Tryd.underlying53 Tryd.underlying5 ?_)
  intro cb wb hM
  obtain ⟨lb, ccb, fcb⟩ := hM.bytCell .here
  have hmX : m < X.length := by rw [HKL.out]; exact hmk
  have ccm := ccb m hmX
  have fcm := fcb m hmX
  clear ccb fcb
  have hgx : X.getD m 0 = X[m] := by simp [List.getD, hmX]
  generalize X[m] = x at ccm hgx
  obtain ⟨v, hv⟩ : ∃ v : Nat, x.toNat = v := ⟨_, rfl⟩
  rw [hv] at ccm
  have hvl : v < 256 := by have := x.toNat_lt; omega
  have HV := Lib.hid hv; clear hv
  have HGX := Lib.hid hgx; clear hgx
  go_upto_region 6 with fail
  have hT : X.set m (255 - x) = tearB X := by
    unfold tearB
    rw [HKL.out, show k - 1 = m by have := HM.out; omega, HGX.out]
  have hM2 := hM.bytSet (j := m) (x := 255 - x) hmX .here
  rw [tear_val HV.out, hT] at hM2
  have hYL : X.length = (tearB X).length := by unfold tearB; rw [List.length_set]
  have HYL := Lib.hid hYL; clear hYL
  clear hT hM
  apply Mem.atWpA hM2
  clear hM2
  intro w5 hM
  have hcat2 : ¬ 9223372036854775807 < D.length + (tearB X).length := by rw [← HYL.out]; exact hcat
  generalize tearB X = Y at hM HC HYL hcat2
  clear hcat
  obtain ⟨k1, f1, l1⟩ := hM.row (.there .here)
  go_wp2_with (apply Mem.atL; (focus ((repeat' (first | with_reducible exact hM | with_reducible exact hMp | with_reducible apply Mem.drew | with_reducible apply Mem.drewN | with_reducible apply Mem.alloc | with_reducible apply Mem.set | with_reducible exact Sto.row | ((with_reducible refine Sto.rowEq2 ?_ ?_); omega; rfl) | ((with_reducible refine Sto.rowEq ?_); omega) | with_reducible apply Sto.int | with_reducible apply Sto.there | with_reducible assumption | (unfold I64; omega) | (with_reducible (have hMx := Mem.undrew hM; exact hMx)) | (with_reducible (have hMx := Mem.undrew hMp; exact hMx)))); done)); clear hM; intro hM; refine wpList_toString (l := Y) hM .here rfl 53 9 5 (.tmp 42) rfl (congrArg (fun n => Value.slice (some ⟨wst.heap.size, 0, none⟩) n cb) HYL.out) Tryd.underlying53 Tryd.underlying5 Tryd.underlying9 ?_)
  go_wp2
  go_ret2
  exact ⟨by rw [HR.out, HC.out]; rfl, (by apply Mem.below; (repeat' (first | with_reducible exact hM | with_reducible exact hMp | with_reducible apply Mem.drew | with_reducible apply Mem.drewN | with_reducible apply Mem.alloc | with_reducible apply Mem.set | with_reducible exact Sto.row | ((with_reducible refine Sto.rowEq2 ?_ ?_); omega; rfl) | ((with_reducible refine Sto.rowEq ?_); omega) | with_reducible apply Sto.int | with_reducible apply Sto.there | with_reducible assumption | (unfold I64; omega) | (with_reducible (have hMx := Mem.undrew hM; exact hMx)) | (with_reducible (have hMx := Mem.undrew hMp; exact hMx)))))⟩
end Go.Proofs.YtkpicemjiokdpaaDoor
