/-
  Incidents: what the laws do with them.
-/
import Derived.Test.YtpflnmejbialjaaGreatDoorVGrid
import Derived.Test.YtpflnmejbialjaaGreatDoorVRd
/-
  Incidents: what the laws do with them.
-/
namespace Go.Proofs.YtpflnmejbialjaaGreatDoor
set_option linter.unusedSimpArgs false
set_option linter.unusedVariables false
open Go.RowKit

def szI (n1 n2 n3 : Nat) (l : Int) : Int := if szF n1 l < 0 then -1 else if szF n2 (szF n1 l) < 0 then -1 else szF n3 (szF n2 (szF n1 l))
theorem szI_facts {n1 n2 n3 : Nat} {l : Int} (hl : l ≤ 1048576) : szI n1 n2 n3 l ≤ 1048576 ∧ (0 ≤ szI n1 n2 n3 l → (n1 : Int) ≤ 1048576 ∧ (n2 : Int) ≤ 1048576 ∧ (n3 : Int) ≤ 1048576) := by
  unfold szI szF
  repeat' split
  all_goals omega

set_option maxRecDepth 100000 in
set_option maxHeartbeats 1000000 in
theorem szIncident_any (W H : Int) (a1 : Option Addr) (n1 c1 : Nat) (a2 : Option Addr) (n2 c2 : Nat) (a3 : Option Addr) (n3 c3 : Nat) (t l : Int) (w : World) (h1 : n1 ≤ 17592186044416) (h2 : n2 ≤ 17592186044416) (h3 : n3 ≤ 17592186044416) (hl : -1 ≤ l ∧ l ≤ 1048576) :
    Calls Tryz.prog 9 #[.agg #[.int .i64 W, .int .i64 H, .slice a1 n1 c1, .slice a2 n2 c2, .slice a3 n3 c3, .int .i64 t], .int .i64 l] w fun e w' => e = .returned (.int .i64 (szI n1 n2 n3 l)) ∧ Below w.heap.size w w' := by
  have hM := Mem.start w
  obtain ⟨l0, l1⟩ := hl
  obtain ⟨z1, hz1⟩ : ∃ z, szF n1 l = z := ⟨_, rfl⟩
  obtain ⟨z2, hz2⟩ : ∃ z, szF n2 z1 = z := ⟨_, rfl⟩
  obtain ⟨z3, hz3⟩ : ∃ z, szF n3 z2 = z := ⟨_, rfl⟩
  have HF := Lib.hid (show szI n1 n2 n3 l = if z1 < 0 then -1 else if z2 < 0 then -1 else z3 by rw [szI, hz1, hz2, hz3])
  have b1 : -1 ≤ z1 ∧ z1 ≤ 1048576 := by rw [← hz1]; unfold szF; split <;> omega
  have b2 : -1 ≤ z2 ∧ (0 ≤ z1 → z2 ≤ 1048576) := by rw [← hz2]; unfold szF; split <;> omega
  have H1 := Lib.hid hz1; have H2 := Lib.hid hz2; have H3 := Lib.hid hz3
  clear hz1 hz2 hz3
  obtain ⟨b10, b11⟩ := b1
  obtain ⟨b20, b21⟩ := b2
  go_enter Tryz.func9, Tryz.ntmps9
  go_wp2_with fail
  apply Mem.at
  · (repeat' (first | with_reducible exact hM | with_reducible exact hMp | with_reducible apply Mem.drew | with_reducible apply Mem.drewN | with_reducible apply Mem.alloc | with_reducible apply Mem.set | with_reducible exact Sto.row | ((with_reducible refine Sto.rowEq2 ?_ ?_); omega; rfl) | ((with_reducible refine Sto.rowEq ?_); omega) | with_reducible apply Sto.int | with_reducible apply Sto.there | with_reducible assumption | (unfold I64; omega) | (with_reducible (have hMx := Mem.undrew hM; exact hMx)) | (with_reducible (have hMx := Mem.undrew hMp; exact hMx))))
  clear hM
  intro hM
  (try simp only [World.size_alloc, World.size_setCell, World.heap_drewN, heapDrew, Nat.add_assoc, Nat.reduceAdd, List.setIfInBounds_toArray, List.set_cons_zero, List.set_cons_succ, List.cons_append, List.nil_append] at hM)
  refine (szTerrain_any _ _ _ _ _ _ _ h1 ⟨l0, l1⟩).mono ?_
  rw [H1.out]
  rintro e w1 ⟨rfl, hb⟩
  replace hM := hM.ext hb
  clear hb
  by_cases g1 : z1 < 0
  · go_wp2
    go_ret
    exact ⟨ri (by rw [HF.out, if_pos g1]), (by apply Mem.below; (repeat' (first | with_reducible exact hM | with_reducible exact hMp | with_reducible apply Mem.drew | with_reducible apply Mem.drewN | with_reducible apply Mem.alloc | with_reducible apply Mem.set | with_reducible exact Sto.row | ((with_reducible refine Sto.rowEq2 ?_ ?_); omega; rfl) | ((with_reducible refine Sto.rowEq ?_); omega) | with_reducible apply Sto.int | with_reducible apply Sto.there | with_reducible assumption | (unfold I64; omega) | (with_reducible (have hMx := Mem.undrew hM; exact hMx)) | (with_reducible (have hMx := Mem.undrew hMp; exact hMx)))))⟩
  obtain ⟨k0, f0, l0⟩ := hM.row .here
  go_wp2_with fail
  clear k0 f0 l0
  apply Mem.at
  · (repeat' (first | with_reducible exact hM | with_reducible exact hMp | with_reducible apply Mem.drew | with_reducible apply Mem.drewN | with_reducible apply Mem.alloc | with_reducible apply Mem.set | with_reducible exact Sto.row | ((with_reducible refine Sto.rowEq2 ?_ ?_); omega; rfl) | ((with_reducible refine Sto.rowEq ?_); omega) | with_reducible apply Sto.int | with_reducible apply Sto.there | with_reducible assumption | (unfold I64; omega) | (with_reducible (have hMx := Mem.undrew hM; exact hMx)) | (with_reducible (have hMx := Mem.undrew hMp; exact hMx))))
  clear hM
  intro hM
  (try simp only [World.size_alloc, World.size_setCell, World.heap_drewN, heapDrew, Nat.add_assoc, Nat.reduceAdd, List.setIfInBounds_toArray, List.set_cons_zero, List.set_cons_succ, List.cons_append, List.nil_append] at hM)
  refine (szIntS_any _ _ _ _ _ h2 ⟨b10, b11⟩).mono ?_
  rw [H2.out]
  rintro e w2 ⟨rfl, rfl⟩
  by_cases g2 : z2 < 0
  · go_wp2
    go_ret
    exact ⟨ri (by rw [HF.out, if_neg (Int.not_lt.mpr g1), if_pos g2]), (by apply Mem.below; (repeat' (first | with_reducible exact hM | with_reducible exact hMp | with_reducible apply Mem.drew | with_reducible apply Mem.drewN | with_reducible apply Mem.alloc | with_reducible apply Mem.set | with_reducible exact Sto.row | ((with_reducible refine Sto.rowEq2 ?_ ?_); omega; rfl) | ((with_reducible refine Sto.rowEq ?_); omega) | with_reducible apply Sto.int | with_reducible apply Sto.there | with_reducible assumption | (unfold I64; omega) | (with_reducible (have hMx := Mem.undrew hM; exact hMx)) | (with_reducible (have hMx := Mem.undrew hMp; exact hMx)))))⟩
  obtain ⟨k0, f0, l0⟩ := hM.row .here
  go_wp2_with fail
  clear k0 f0 l0
  apply Mem.at
  · (repeat' (first | with_reducible exact hM | with_reducible exact hMp | with_reducible apply Mem.drew | with_reducible apply Mem.drewN | with_reducible apply Mem.alloc | with_reducible apply Mem.set | with_reducible exact Sto.row | ((with_reducible refine Sto.rowEq2 ?_ ?_); omega; rfl) | ((with_reducible refine Sto.rowEq ?_); omega) | with_reducible apply Sto.int | with_reducible apply Sto.there | with_reducible assumption | (unfold I64; omega) | (with_reducible (have hMx := Mem.undrew hM; exact hMx)) | (with_reducible (have hMx := Mem.undrew hMp; exact hMx))))
  clear hM
  intro hM
  (try simp only [World.size_alloc, World.size_setCell, World.heap_drewN, heapDrew, Nat.add_assoc, Nat.reduceAdd, List.setIfInBounds_toArray, List.set_cons_zero, List.set_cons_succ, List.cons_append, List.nil_append] at hM)
  refine (szIntS_any _ _ _ _ _ h3 ⟨b20, b21 (by omega)⟩).mono ?_
  rw [H3.out]
  rintro e w3 ⟨rfl, rfl⟩
  have b3 : z3 < 0 → z3 = -1 := fun h => by
    have := H3.out
    unfold szF at this
    split at this <;> omega
  have HB3 := Lib.hid b3; clear b3
  by_cases g3 : z3 < 0
  · go_wp2
    go_ret
    exact ⟨ri (by rw [HF.out, if_neg (Int.not_lt.mpr g1), if_neg (Int.not_lt.mpr g2), HB3.out g3]), (by apply Mem.below; (repeat' (first | with_reducible exact hM | with_reducible exact hMp | with_reducible apply Mem.drew | with_reducible apply Mem.drewN | with_reducible apply Mem.alloc | with_reducible apply Mem.set | with_reducible exact Sto.row | ((with_reducible refine Sto.rowEq2 ?_ ?_); omega; rfl) | ((with_reducible refine Sto.rowEq ?_); omega) | with_reducible apply Sto.int | with_reducible apply Sto.there | with_reducible assumption | (unfold I64; omega) | (with_reducible (have hMx := Mem.undrew hM; exact hMx)) | (with_reducible (have hMx := Mem.undrew hMp; exact hMx)))))⟩
  · go_wp2
    go_ret
    exact ⟨ri (by rw [HF.out, if_neg (Int.not_lt.mpr g1), if_neg (Int.not_lt.mpr g2)]), (by apply Mem.below; (repeat' (first | with_reducible exact hM | with_reducible exact hMp | with_reducible apply Mem.drew | with_reducible apply Mem.drewN | with_reducible apply Mem.alloc | with_reducible apply Mem.set | with_reducible exact Sto.row | ((with_reducible refine Sto.rowEq2 ?_ ?_); omega; rfl) | ((with_reducible refine Sto.rowEq ?_); omega) | with_reducible apply Sto.int | with_reducible apply Sto.there | with_reducible assumption | (unfold I64; omega) | (with_reducible (have hMx := Mem.undrew hM; exact hMx)) | (with_reducible (have hMx := Mem.undrew hMp; exact hMx)))))⟩

set_option maxRecDepth 100000 in
set_option maxHeartbeats 2000000 in
theorem toIncident_any (W H : Int) (a1 : Option Addr) (n1 c1 : Nat) (xs1 : List Int) (a2 : Option Addr) (n2 c2 : Nat) (xs2 : List Int) (a3 : Option Addr) (n3 c3 : Nat) (xs3 : List Int) (t : Int) (w : World) (h1 : Ints w a1 n1 c1 xs1) (h2 : Ints w a2 n2 c2 xs2) (h3 : Ints w a3 n3 c3 xs3) :
    Calls Tryz.prog 16 #[.agg #[.int .i64 W, .int .i64 H, .slice a1 n1 c1, .slice a2 n2 c2, .slice a3 n3 c3, .int .i64 t]] w fun e w' => ∃ b1 d1 b2 d2 b3 d3, e = .returned (.agg #[.int .i64 W, .int .i64 H, .slice b1 n1 d1, .slice b2 n2 d2, .slice b3 n3 d3, .int .i64 t]) ∧ Mem w.heap.size w w' [intE b1 n1 d1 xs1, intE b2 n2 d2 xs2, intE b3 n3 d3 xs3] := by
  have hM := Mem.start w
  go_enter Tryz.func16, Tryz.ntmps16
  go_wp2_with fail
  apply Mem.at
  · (repeat' (first | with_reducible exact hM | with_reducible exact hMp | with_reducible apply Mem.drew | with_reducible apply Mem.drewN | with_reducible apply Mem.alloc | with_reducible apply Mem.set | with_reducible exact Sto.row | ((with_reducible refine Sto.rowEq2 ?_ ?_); omega; rfl) | ((with_reducible refine Sto.rowEq ?_); omega) | with_reducible apply Sto.int | with_reducible apply Sto.there | with_reducible assumption | (unfold I64; omega) | (with_reducible (have hMx := Mem.undrew hM; exact hMx)) | (with_reducible (have hMx := Mem.undrew hMp; exact hMx))))
  clear hM
  intro hM
  (try simp only [World.size_alloc, World.size_setCell, World.heap_drewN, heapDrew, Nat.add_assoc, Nat.reduceAdd, List.setIfInBounds_toArray, List.set_cons_zero, List.set_cons_succ, List.cons_append, List.nil_append] at hM)
  refine (toTerrain_any _ _ _ _ _ xs1 _ (h1.ext hM.below)).mono ?_
  rintro e w1 ⟨b1, d1, rfl, hO, hb⟩
  replace hM := hM.own hb hO
  clear hb hO
  obtain ⟨k1, f1, l1⟩ := hM.row (.there .here)
  obtain ⟨k2, f2, l2⟩ := hM.row (.there (.there .here))
  obtain ⟨k3, f3, l3⟩ := hM.row (.there (.there (.there .here)))
  go_wp2_with fail
  clear k1 f1 l1 k2 f2 l2 k3 f3 l3
  apply Mem.at
  · (repeat' (first | with_reducible exact hM | with_reducible exact hMp | with_reducible apply Mem.drew | with_reducible apply Mem.drewN | with_reducible apply Mem.alloc | with_reducible apply Mem.set | with_reducible exact Sto.row | ((with_reducible refine Sto.rowEq2 ?_ ?_); omega; rfl) | ((with_reducible refine Sto.rowEq ?_); omega) | with_reducible apply Sto.int | with_reducible apply Sto.there | with_reducible assumption | (unfold I64; omega) | (with_reducible (have hMx := Mem.undrew hM; exact hMx)) | (with_reducible (have hMx := Mem.undrew hMp; exact hMx))))
  clear hM
  intro hM
  (try simp only [World.size_alloc, World.size_setCell, World.heap_drewN, heapDrew, Nat.add_assoc, Nat.reduceAdd, List.setIfInBounds_toArray, List.set_cons_zero, List.set_cons_succ, List.cons_append, List.nil_append] at hM)
  refine (toIntS_any _ _ _ xs2 _ (h2.ext hM.below)).mono ?_
  rintro e w2 ⟨b2, d2, rfl, hO, hb⟩
  replace hM := hM.own hb hO
  clear hb hO
  obtain ⟨k2, f2, l2⟩ := hM.row (.there (.there .here))
  obtain ⟨k3, f3, l3⟩ := hM.row (.there (.there (.there .here)))
  obtain ⟨k4, f4, l4⟩ := hM.row (.there (.there (.there (.there .here))))
  go_wp2_with fail
  clear k2 f2 l2 k3 f3 l3 k4 f4 l4
  apply Mem.at
  · (repeat' (first | with_reducible exact hM | with_reducible exact hMp | with_reducible apply Mem.drew | with_reducible apply Mem.drewN | with_reducible apply Mem.alloc | with_reducible apply Mem.set | with_reducible exact Sto.row | ((with_reducible refine Sto.rowEq2 ?_ ?_); omega; rfl) | ((with_reducible refine Sto.rowEq ?_); omega) | with_reducible apply Sto.int | with_reducible apply Sto.there | with_reducible assumption | (unfold I64; omega) | (with_reducible (have hMx := Mem.undrew hM; exact hMx)) | (with_reducible (have hMx := Mem.undrew hMp; exact hMx))))
  clear hM
  intro hM
  (try simp only [World.size_alloc, World.size_setCell, World.heap_drewN, heapDrew, Nat.add_assoc, Nat.reduceAdd, List.setIfInBounds_toArray, List.set_cons_zero, List.set_cons_succ, List.cons_append, List.nil_append] at hM)
  refine (toIntS_any _ _ _ xs3 _ (h3.ext hM.below)).mono ?_
  rintro e w3 ⟨b3, d3, rfl, hO, hb⟩
  replace hM := hM.own hb hO
  clear hb hO
  obtain ⟨k3, f3, l3⟩ := hM.row (.there (.there (.there .here)))
  obtain ⟨k4, f4, l4⟩ := hM.row (.there (.there (.there (.there .here))))
  obtain ⟨k5, f5, l5⟩ := hM.row (.there (.there (.there (.there (.there .here)))))
  go_wp2
  refine bodyPost_ret (v := .agg #[.int .i64 W, .int .i64 H, .slice b1 n1 d1, .slice b2 n2 d2, .slice b3 n3 d3, .int .i64 t]) (by simp [results, Tryz.results16, go_sem, k4]) rfl ⟨b1, d1, b2, d2, b3, d3, rfl, ?_⟩
  apply Mem.pick (is := [2, 1, 0])
  · (repeat' (first | with_reducible exact hM | with_reducible exact hMp | with_reducible apply Mem.drew | with_reducible apply Mem.drewN | with_reducible apply Mem.alloc | with_reducible apply Mem.set | with_reducible exact Sto.row | ((with_reducible refine Sto.rowEq2 ?_ ?_); omega; rfl) | ((with_reducible refine Sto.rowEq ?_); omega) | with_reducible apply Sto.int | with_reducible apply Sto.there | with_reducible assumption | (unfold I64; omega) | (with_reducible (have hMx := Mem.undrew hM; exact hMx)) | (with_reducible (have hMx := Mem.undrew hMp; exact hMx))))
  · decide
  · rfl

def eqInc (W H : Int) (xs1 xs2 xs3 : List Int) (t : Int) (W' H' : Int) (ys1 ys2 ys3 : List Int) (t' : Int) : Bool := eqG W H xs1 W' H' ys1 && (xs2 == ys2) && (xs3 == ys3) && t == t'
theorem eqInc_refl (W H : Int) (xs1 xs2 xs3 : List Int) (t : Int) : eqInc W H xs1 xs2 xs3 t W H xs1 xs2 xs3 t = true := by simp [eqInc, eqG]

set_option maxRecDepth 100000 in
set_option maxHeartbeats 2000000 in
theorem eqIncident_any (W H : Int) (a1 : Option Addr) (n1 c1 : Nat) (xs1 : List Int) (a2 : Option Addr) (n2 c2 : Nat) (xs2 : List Int) (a3 : Option Addr) (n3 c3 : Nat) (xs3 : List Int) (t : Int) (W' H' : Int) (b1 : Option Addr) (m1 d1 : Nat) (ys1 : List Int) (b2 : Option Addr) (m2 d2 : Nat) (ys2 : List Int) (b3 : Option Addr) (m3 d3 : Nat) (ys3 : List Int) (t' : Int) (w : World)
    (h1 : Ints w a1 n1 c1 xs1) (h2 : Ints w a2 n2 c2 xs2) (h3 : Ints w a3 n3 c3 xs3) (g1 : Ints w b1 m1 d1 ys1) (g2 : Ints w b2 m2 d2 ys2) (g3 : Ints w b3 m3 d3 ys3) :
    Calls Tryz.prog 25 #[.agg #[.int .i64 W, .int .i64 H, .slice a1 n1 c1, .slice a2 n2 c2, .slice a3 n3 c3, .int .i64 t], .agg #[.int .i64 W', .int .i64 H', .slice b1 m1 d1, .slice b2 m2 d2, .slice b3 m3 d3, .int .i64 t']] w fun e w' => e = .returned (.bool (eqInc W H xs1 xs2 xs3 t W' H' ys1 ys2 ys3 t')) ∧ Below w.heap.size w w' := by
  have hM := Mem.start w
  obtain ⟨q1, hq1⟩ : ∃ q, eqG W H xs1 W' H' ys1 = q := ⟨_, rfl⟩
  obtain ⟨q2, hq2⟩ : ∃ q, (xs2 == ys2) = q := ⟨_, rfl⟩
  obtain ⟨q3, hq3⟩ : ∃ q, (xs3 == ys3) = q := ⟨_, rfl⟩
  have HF := Lib.hid (show eqInc W H xs1 xs2 xs3 t W' H' ys1 ys2 ys3 t' = (q1 && q2 && q3 && t == t') by rw [eqInc, hq1, hq2, hq3])
  have H1 := Lib.hid hq1; have H2 := Lib.hid hq2; have H3 := Lib.hid hq3
  clear hq1 hq2 hq3
  go_enter Tryz.func25, Tryz.ntmps25
  go_wp2_with fail
  apply Mem.at
  · (repeat' (first | with_reducible exact hM | with_reducible exact hMp | with_reducible apply Mem.drew | with_reducible apply Mem.drewN | with_reducible apply Mem.alloc | with_reducible apply Mem.set | with_reducible exact Sto.row | ((with_reducible refine Sto.rowEq2 ?_ ?_); omega; rfl) | ((with_reducible refine Sto.rowEq ?_); omega) | with_reducible apply Sto.int | with_reducible apply Sto.there | with_reducible assumption | (unfold I64; omega) | (with_reducible (have hMx := Mem.undrew hM; exact hMx)) | (with_reducible (have hMx := Mem.undrew hMp; exact hMx))))
  clear hM
  intro hM
  (try simp only [World.size_alloc, World.size_setCell, World.heap_drewN, heapDrew, Nat.add_assoc, Nat.reduceAdd, List.setIfInBounds_toArray, List.set_cons_zero, List.set_cons_succ, List.cons_append, List.nil_append] at hM)
  refine (eqTerrain_any _ _ _ _ _ xs1 _ _ _ _ _ ys1 _ (h1.ext hM.below) (g1.ext hM.below)).mono ?_
  rw [H1.out]
  rintro e w1 ⟨rfl, hb⟩
  replace hM := hM.ext hb
  clear hb
  cases q1
  · go_wp2
    go_ret
    exact ⟨rb (by rw [HF.out]; rfl), (by apply Mem.below; (repeat' (first | with_reducible exact hM | with_reducible exact hMp | with_reducible apply Mem.drew | with_reducible apply Mem.drewN | with_reducible apply Mem.alloc | with_reducible apply Mem.set | with_reducible exact Sto.row | ((with_reducible refine Sto.rowEq2 ?_ ?_); omega; rfl) | ((with_reducible refine Sto.rowEq ?_); omega) | with_reducible apply Sto.int | with_reducible apply Sto.there | with_reducible assumption | (unfold I64; omega) | (with_reducible (have hMx := Mem.undrew hM; exact hMx)) | (with_reducible (have hMx := Mem.undrew hMp; exact hMx)))))⟩
  obtain ⟨k0, f0, l0⟩ := hM.row .here
  obtain ⟨k1, f1, l1⟩ := hM.row (.there .here)
  go_wp2_with fail
  clear k0 f0 l0 k1 f1 l1
  apply Mem.at
  · (repeat' (first | with_reducible exact hM | with_reducible exact hMp | with_reducible apply Mem.drew | with_reducible apply Mem.drewN | with_reducible apply Mem.alloc | with_reducible apply Mem.set | with_reducible exact Sto.row | ((with_reducible refine Sto.rowEq2 ?_ ?_); omega; rfl) | ((with_reducible refine Sto.rowEq ?_); omega) | with_reducible apply Sto.int | with_reducible apply Sto.there | with_reducible assumption | (unfold I64; omega) | (with_reducible (have hMx := Mem.undrew hM; exact hMx)) | (with_reducible (have hMx := Mem.undrew hMp; exact hMx))))
  clear hM
  intro hM
  (try simp only [World.size_alloc, World.size_setCell, World.heap_drewN, heapDrew, Nat.add_assoc, Nat.reduceAdd, List.setIfInBounds_toArray, List.set_cons_zero, List.set_cons_succ, List.cons_append, List.nil_append] at hM)
  refine (eqIntS_any _ _ _ xs2 _ _ _ ys2 _ (h2.ext hM.below) (g2.ext hM.below)).mono ?_
  rw [H2.out]
  rintro e w2 ⟨rfl, hb⟩
  replace hM := hM.ext hb
  clear hb
  cases q2
  · go_wp2
    go_ret
    exact ⟨rb (by rw [HF.out]; rfl), (by apply Mem.below; (repeat' (first | with_reducible exact hM | with_reducible exact hMp | with_reducible apply Mem.drew | with_reducible apply Mem.drewN | with_reducible apply Mem.alloc | with_reducible apply Mem.set | with_reducible exact Sto.row | ((with_reducible refine Sto.rowEq2 ?_ ?_); omega; rfl) | ((with_reducible refine Sto.rowEq ?_); omega) | with_reducible apply Sto.int | with_reducible apply Sto.there | with_reducible assumption | (unfold I64; omega) | (with_reducible (have hMx := Mem.undrew hM; exact hMx)) | (with_reducible (have hMx := Mem.undrew hMp; exact hMx)))))⟩
  obtain ⟨k0, f0, l0⟩ := hM.row .here
  obtain ⟨k1, f1, l1⟩ := hM.row (.there .here)
  go_wp2_with fail
  clear k0 f0 l0 k1 f1 l1
  apply Mem.at
  · (repeat' (first | with_reducible exact hM | with_reducible exact hMp | with_reducible apply Mem.drew | with_reducible apply Mem.drewN | with_reducible apply Mem.alloc | with_reducible apply Mem.set | with_reducible exact Sto.row | ((with_reducible refine Sto.rowEq2 ?_ ?_); omega; rfl) | ((with_reducible refine Sto.rowEq ?_); omega) | with_reducible apply Sto.int | with_reducible apply Sto.there | with_reducible assumption | (unfold I64; omega) | (with_reducible (have hMx := Mem.undrew hM; exact hMx)) | (with_reducible (have hMx := Mem.undrew hMp; exact hMx))))
  clear hM
  intro hM
  (try simp only [World.size_alloc, World.size_setCell, World.heap_drewN, heapDrew, Nat.add_assoc, Nat.reduceAdd, List.setIfInBounds_toArray, List.set_cons_zero, List.set_cons_succ, List.cons_append, List.nil_append] at hM)
  refine (eqIntS_any _ _ _ xs3 _ _ _ ys3 _ (h3.ext hM.below) (g3.ext hM.below)).mono ?_
  rw [H3.out]
  rintro e w3 ⟨rfl, hb⟩
  replace hM := hM.ext hb
  clear hb
  cases q3
  · go_wp2
    go_ret
    exact ⟨rb (by rw [HF.out]; rfl), (by apply Mem.below; (repeat' (first | with_reducible exact hM | with_reducible exact hMp | with_reducible apply Mem.drew | with_reducible apply Mem.drewN | with_reducible apply Mem.alloc | with_reducible apply Mem.set | with_reducible exact Sto.row | ((with_reducible refine Sto.rowEq2 ?_ ?_); omega; rfl) | ((with_reducible refine Sto.rowEq ?_); omega) | with_reducible apply Sto.int | with_reducible apply Sto.there | with_reducible assumption | (unfold I64; omega) | (with_reducible (have hMx := Mem.undrew hM; exact hMx)) | (with_reducible (have hMx := Mem.undrew hMp; exact hMx)))))⟩
  obtain ⟨k0, f0, l0⟩ := hM.row .here
  obtain ⟨k1, f1, l1⟩ := hM.row (.there .here)
  by_cases ht : t = t'
  · have htb : (t != t') = false := by simpa using ht
    have HT := Lib.hid (show (true && true && true && t == t') = true by simpa using ht)
    clear ht
    go_wp2
    go_ret
    exact ⟨rb (by rw [HF.out, HT.out]), (by apply Mem.below; (repeat' (first | with_reducible exact hM | with_reducible exact hMp | with_reducible apply Mem.drew | with_reducible apply Mem.drewN | with_reducible apply Mem.alloc | with_reducible apply Mem.set | with_reducible exact Sto.row | ((with_reducible refine Sto.rowEq2 ?_ ?_); omega; rfl) | ((with_reducible refine Sto.rowEq ?_); omega) | with_reducible apply Sto.int | with_reducible apply Sto.there | with_reducible assumption | (unfold I64; omega) | (with_reducible (have hMx := Mem.undrew hM; exact hMx)) | (with_reducible (have hMx := Mem.undrew hMp; exact hMx)))))⟩
  · have htb : (t != t') = true := by simpa using ht
    have HT := Lib.hid (show (true && true && true && t == t') = false by simpa using ht)
    go_wp2
    go_ret
    exact ⟨rb (by rw [HF.out, HT.out]), (by apply Mem.below; (repeat' (first | with_reducible exact hM | with_reducible exact hMp | with_reducible apply Mem.drew | with_reducible apply Mem.drewN | with_reducible apply Mem.alloc | with_reducible apply Mem.set | with_reducible exact Sto.row | ((with_reducible refine Sto.rowEq2 ?_ ?_); omega; rfl) | ((with_reducible refine Sto.rowEq ?_); omega) | with_reducible apply Sto.int | with_reducible apply Sto.there | with_reducible assumption | (unfold I64; omega) | (with_reducible (have hMx := Mem.undrew hM; exact hMx)) | (with_reducible (have hMx := Mem.undrew hMp; exact hMx)))))⟩

end Go.Proofs.YtpflnmejbialjaaGreatDoor
