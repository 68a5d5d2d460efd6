/-
  Incidents: what the laws do with them.
-/
import Derived.Test.YtojfbcgfeojdfaaNGrid
import Derived.Test.YtojfbcgfeojdfaaNRd
/-
  Incidents: what the laws do with them.
-/
namespace Go.Proofs.Ytojfbcgfeojdfaa
set_option linter.unusedSimpArgs false
set_option linter.unusedVariables false
open Go.RowKit

def eqInc (W H : Int) (xs1 xs2 xs3 : List Int) (t : Int) (W' H' : Int) (ys1 ys2 ys3 : List Int) (t' : Int) : Bool := eqG W H xs1 W' H' ys1 && (xs2 == ys2) && (xs3 == ys3) && t == t'
theorem eqInc_refl (W H : Int) (xs1 xs2 xs3 : List Int) (t : Int) : eqInc W H xs1 xs2 xs3 t W H xs1 xs2 xs3 t = true := by simp [eqInc, eqG]

set_option maxRecDepth 100000 in
set_option maxHeartbeats 2000000 in
theorem eqIncident_any (W H : Int) (a1 : Option Addr) (n1 c1 : Nat) (xs1 : List Int) (a2 : Option Addr) (n2 c2 : Nat) (xs2 : List Int) (a3 : Option Addr) (n3 c3 : Nat) (xs3 : List Int) (t : Int) (W' H' : Int) (b1 : Option Addr) (m1 d1 : Nat) (ys1 : List Int) (b2 : Option Addr) (m2 d2 : Nat) (ys2 : List Int) (b3 : Option Addr) (m3 d3 : Nat) (ys3 : List Int) (t' : Int) (w : World)
    (h1 : Ints w a1 n1 c1 xs1) (h2 : Ints w a2 n2 c2 xs2) (h3 : Ints w a3 n3 c3 xs3) (g1 : Ints w b1 m1 d1 ys1) (g2 : Ints w b2 m2 d2 ys2) (g3 : Ints w b3 m3 d3 ys3) :
    Calls Try.prog 28 #[.agg #[.int .i64 W, .int .i64 H, .slice a1 n1 c1, .slice a2 n2 c2, .slice a3 n3 c3, .int .i64 t], .agg #[.int .i64 W', .int .i64 H', .slice b1 m1 d1, .slice b2 m2 d2, .slice b3 m3 d3, .int .i64 t']] w fun e w' => e = .returned (.bool (eqInc W H xs1 xs2 xs3 t W' H' ys1 ys2 ys3 t')) ∧ Below w.heap.size w w' := by
  have hM := Mem.start w
  obtain ⟨q1, hq1⟩ : ∃ q, eqG W H xs1 W' H' ys1 = q := ⟨_, rfl⟩
  obtain ⟨q2, hq2⟩ : ∃ q, (xs2 == ys2) = q := ⟨_, rfl⟩
  obtain ⟨q3, hq3⟩ : ∃ q, (xs3 == ys3) = q := ⟨_, rfl⟩
  have HF := Lib.hid (show eqInc W H xs1 xs2 xs3 t W' H' ys1 ys2 ys3 t' = (q1 && q2 && q3 && t == t') by rw [eqInc, hq1, hq2, hq3])
  have H1 := Lib.hid hq1; have H2 := Lib.hid hq2; have H3 := Lib.hid hq3
  clear hq1 hq2 hq3
  go_enter Try.func28, Try.ntmps28
  go_wp2_with fail
  apply Mem.at
  · (repeat' (first | with_reducible exact hM | with_reducible exact hMp | with_reducible apply Mem.drew | with_reducible apply Mem.drewN | with_reducible apply Mem.alloc | with_reducible apply Mem.set | with_reducible exact Sto.row | ((with_reducible refine Sto.rowEq2 ?_ ?_); omega; rfl) | ((with_reducible refine Sto.rowEq ?_); omega) | with_reducible apply Sto.int | with_reducible apply Sto.there | with_reducible assumption | (unfold I64; omega) | (with_reducible (have hMx := Mem.undrew hM; exact hMx)) | (with_reducible (have hMx := Mem.undrew hMp; exact hMx))))
  clear hM
  intro hM
  (try simp only [World.size_alloc, World.size_setCell, World.heap_drewN, heapDrew, Nat.add_assoc, Nat.reduceAdd, List.setIfInBounds_toArray, List.set_cons_zero, List.set_cons_succ, List.cons_append, List.nil_append] at hM)
  refine (eqTerrain_any _ _ _ _ _ xs1 _ _ _ _ _ ys1 _ (h1.ext hM.below) (g1.ext hM.below)).mono ?_
  rw [H1.out]
  rintro e w1 ⟨rfl, hb⟩
  replace hM := hM.ext hb
  clear hb
  cases q1
  · go_wp2
    go_ret
    exact ⟨rb (by rw [HF.out]; rfl), (by apply Mem.below; (repeat' (first | with_reducible exact hM | with_reducible exact hMp | with_reducible apply Mem.drew | with_reducible apply Mem.drewN | with_reducible apply Mem.alloc | with_reducible apply Mem.set | with_reducible exact Sto.row | ((with_reducible refine Sto.rowEq2 ?_ ?_); omega; rfl) | ((with_reducible refine Sto.rowEq ?_); omega) | with_reducible apply Sto.int | with_reducible apply Sto.there | with_reducible assumption | (unfold I64; omega) | (with_reducible (have hMx := Mem.undrew hM; exact hMx)) | (with_reducible (have hMx := Mem.undrew hMp; exact hMx)))))⟩
  obtain ⟨k0, f0, l0⟩ := hM.row .here
  obtain ⟨k1, f1, l1⟩ := hM.row (.there .here)
  go_wp2_with fail
  clear k0 f0 l0 k1 f1 l1
  apply Mem.at
  · (repeat' (first | with_reducible exact hM | with_reducible exact hMp | with_reducible apply Mem.drew | with_reducible apply Mem.drewN | with_reducible apply Mem.alloc | with_reducible apply Mem.set | with_reducible exact Sto.row | ((with_reducible refine Sto.rowEq2 ?_ ?_); omega; rfl) | ((with_reducible refine Sto.rowEq ?_); omega) | with_reducible apply Sto.int | with_reducible apply Sto.there | with_reducible assumption | (unfold I64; omega) | (with_reducible (have hMx := Mem.undrew hM; exact hMx)) | (with_reducible (have hMx := Mem.undrew hMp; exact hMx))))
  clear hM
  intro hM
  (try simp only [World.size_alloc, World.size_setCell, World.heap_drewN, heapDrew, Nat.add_assoc, Nat.reduceAdd, List.setIfInBounds_toArray, List.set_cons_zero, List.set_cons_succ, List.cons_append, List.nil_append] at hM)
  refine (eqIntS_any _ _ _ xs2 _ _ _ ys2 _ (h2.ext hM.below) (g2.ext hM.below)).mono ?_
  rw [H2.out]
  rintro e w2 ⟨rfl, hb⟩
  replace hM := hM.ext hb
  clear hb
  cases q2
  · go_wp2
    go_ret
    exact ⟨rb (by rw [HF.out]; rfl), (by apply Mem.below; (repeat' (first | with_reducible exact hM | with_reducible exact hMp | with_reducible apply Mem.drew | with_reducible apply Mem.drewN | with_reducible apply Mem.alloc | with_reducible apply Mem.set | with_reducible exact Sto.row | ((with_reducible refine Sto.rowEq2 ?_ ?_); omega; rfl) | ((with_reducible refine Sto.rowEq ?_); omega) | with_reducible apply Sto.int | with_reducible apply Sto.there | with_reducible assumption | (unfold I64; omega) | (with_reducible (have hMx := Mem.undrew hM; exact hMx)) | (with_reducible (have hMx := Mem.undrew hMp; exact hMx)))))⟩
  obtain ⟨k0, f0, l0⟩ := hM.row .here
  obtain ⟨k1, f1, l1⟩ := hM.row (.there .here)
  go_wp2_with fail
  clear k0 f0 l0 k1 f1 l1
  apply Mem.at
  · (repeat' (first | with_reducible exact hM | with_reducible exact hMp | with_reducible apply Mem.drew | with_reducible apply Mem.drewN | with_reducible apply Mem.alloc | with_reducible apply Mem.set | with_reducible exact Sto.row | ((with_reducible refine Sto.rowEq2 ?_ ?_); omega; rfl) | ((with_reducible refine Sto.rowEq ?_); omega) | with_reducible apply Sto.int | with_reducible apply Sto.there | with_reducible assumption | (unfold I64; omega) | (with_reducible (have hMx := Mem.undrew hM; exact hMx)) | (with_reducible (have hMx := Mem.undrew hMp; exact hMx))))
  clear hM
  intro hM
  (try simp only [World.size_alloc, World.size_setCell, World.heap_drewN, heapDrew, Nat.add_assoc, Nat.reduceAdd, List.setIfInBounds_toArray, List.set_cons_zero, List.set_cons_succ, List.cons_append, List.nil_append] at hM)
  refine (eqIntS_any _ _ _ xs3 _ _ _ ys3 _ (h3.ext hM.below) (g3.ext hM.below)).mono ?_
  rw [H3.out]
  rintro e w3 ⟨rfl, hb⟩
  replace hM := hM.ext hb
  clear hb
  cases q3
  · go_wp2
    go_ret
    exact ⟨rb (by rw [HF.out]; rfl), (by apply Mem.below; (repeat' (first | with_reducible exact hM | with_reducible exact hMp | with_reducible apply Mem.drew | with_reducible apply Mem.drewN | with_reducible apply Mem.alloc | with_reducible apply Mem.set | with_reducible exact Sto.row | ((with_reducible refine Sto.rowEq2 ?_ ?_); omega; rfl) | ((with_reducible refine Sto.rowEq ?_); omega) | with_reducible apply Sto.int | with_reducible apply Sto.there | with_reducible assumption | (unfold I64; omega) | (with_reducible (have hMx := Mem.undrew hM; exact hMx)) | (with_reducible (have hMx := Mem.undrew hMp; exact hMx)))))⟩
  obtain ⟨k0, f0, l0⟩ := hM.row .here
  obtain ⟨k1, f1, l1⟩ := hM.row (.there .here)
  by_cases ht : t = t'
  · have htb : (t != t') = false := by simpa using ht
    have HT := Lib.hid (show (true && true && true && t == t') = true by simpa using ht)
    clear ht
    go_wp2
    go_ret
    exact ⟨rb (by rw [HF.out, HT.out]), (by apply Mem.below; (repeat' (first | with_reducible exact hM | with_reducible exact hMp | with_reducible apply Mem.drew | with_reducible apply Mem.drewN | with_reducible apply Mem.alloc | with_reducible apply Mem.set | with_reducible exact Sto.row | ((with_reducible refine Sto.rowEq2 ?_ ?_); omega; rfl) | ((with_reducible refine Sto.rowEq ?_); omega) | with_reducible apply Sto.int | with_reducible apply Sto.there | with_reducible assumption | (unfold I64; omega) | (with_reducible (have hMx := Mem.undrew hM; exact hMx)) | (with_reducible (have hMx := Mem.undrew hMp; exact hMx)))))⟩
  · have htb : (t != t') = true := by simpa using ht
    have HT := Lib.hid (show (true && true && true && t == t') = false by simpa using ht)
    go_wp2
    go_ret
    exact ⟨rb (by rw [HF.out, HT.out]), (by apply Mem.below; (repeat' (first | with_reducible exact hM | with_reducible exact hMp | with_reducible apply Mem.drew | with_reducible apply Mem.drewN | with_reducible apply Mem.alloc | with_reducible apply Mem.set | with_reducible exact Sto.row | ((with_reducible refine Sto.rowEq2 ?_ ?_); omega; rfl) | ((with_reducible refine Sto.rowEq ?_); omega) | with_reducible apply Sto.int | with_reducible apply Sto.there | with_reducible assumption | (unfold I64; omega) | (with_reducible (have hMx := Mem.undrew hM; exact hMx)) | (with_reducible (have hMx := Mem.undrew hMp; exact hMx)))))⟩

set_option maxRecDepth 100000 in
set_option maxHeartbeats 2000000 in
theorem markIncident_any (B : Nat) (w0 : World) (G : List Ent) (W H : Int) (a1 : Option Addr) (n1 c1 : Nat) (xs1 : List Int) (a2 : Option Addr) (n2 c2 : Nat) (xs2 : List Int) (a3 : Option Addr) (n3 c3 : Nat) (xs3 : List Int) (t q : Int) (w : World)
    (hM : Mem B w0 w (intE a1 n1 c1 xs1 :: intE a2 n2 c2 xs2 :: intE a3 n3 c3 xs3 :: G)) (hq : 0 ≤ q ∧ q ≤ 1000000000000000000) :
    Calls Try.prog 31 #[.agg #[.int .i64 W, .int .i64 H, .slice a1 n1 c1, .slice a2 n2 c2, .slice a3 n3 c3, .int .i64 t], .int .i64 q] w fun e w' => e = .returned (.int .i64 (q + n1 + n2 + n3)) ∧ Mem B w0 w' (intE a1 n1 c1 (fromI q n1) :: intE a2 n2 c2 (fromI (q + n1) n2) :: intE a3 n3 c3 (fromI (q + n1 + n2) n3) :: G) := by
  obtain ⟨q0, q1⟩ := hq
  have r1 := (hM.ints .here).room
  have r2 := (hM.ints (.there .here)).room
  have r3 := (hM.ints (.there (.there .here))).room
  go_enter Try.func31, Try.ntmps31
  go_wp2_with fail
  apply Mem.at
  · (repeat' (first | with_reducible exact hM | with_reducible exact hMp | with_reducible apply Mem.drew | with_reducible apply Mem.drewN | with_reducible apply Mem.alloc | with_reducible apply Mem.set | with_reducible exact Sto.row | ((with_reducible refine Sto.rowEq2 ?_ ?_); omega; rfl) | ((with_reducible refine Sto.rowEq ?_); omega) | with_reducible apply Sto.int | with_reducible apply Sto.there | with_reducible assumption | (unfold I64; omega) | (with_reducible (have hMx := Mem.undrew hM; exact hMx)) | (with_reducible (have hMx := Mem.undrew hMp; exact hMx))))
  clear hM
  intro hM
  (try simp only [World.size_alloc, World.size_setCell, World.heap_drewN, heapDrew, Nat.add_assoc, Nat.reduceAdd, List.setIfInBounds_toArray, List.set_cons_zero, List.set_cons_succ, List.cons_append, List.nil_append] at hM)
  refine (markTerrain_any _ _ _ _ _ _ _ _ _ (hM.ints (.there .here)) ⟨q0, by omega⟩).mono ?_
  rintro e w1 ⟨rfl, hO, hk⟩
  replace hM := hM.put (e' := intE _ _ _ _) (.there .here) hk hO (fun k hk => .inl hk)
  clear hO hk
  obtain ⟨k0, f0, l0⟩ := hM.row .here
  go_wp2_with fail
  clear k0 f0 l0
  apply Mem.at
  · (repeat' (first | with_reducible exact hM | with_reducible exact hMp | with_reducible apply Mem.drew | with_reducible apply Mem.drewN | with_reducible apply Mem.alloc | with_reducible apply Mem.set | with_reducible exact Sto.row | ((with_reducible refine Sto.rowEq2 ?_ ?_); omega; rfl) | ((with_reducible refine Sto.rowEq ?_); omega) | with_reducible apply Sto.int | with_reducible apply Sto.there | with_reducible assumption | (unfold I64; omega) | (with_reducible (have hMx := Mem.undrew hM; exact hMx)) | (with_reducible (have hMx := Mem.undrew hMp; exact hMx))))
  clear hM
  intro hM
  (try simp only [World.size_alloc, World.size_setCell, World.heap_drewN, heapDrew, Nat.add_assoc, Nat.reduceAdd, List.setIfInBounds_toArray, List.set_cons_zero, List.set_cons_succ, List.cons_append, List.nil_append] at hM)
  refine (markIntS_any _ _ _ _ _ _ _ (hM.ints (.there (.there .here))) ⟨by omega, by omega⟩).mono ?_
  rintro e w2 ⟨rfl, hO, hk⟩
  replace hM := hM.put (e' := intE _ _ _ _) (.there (.there .here)) hk hO (fun k hk => .inl hk)
  clear hO hk
  obtain ⟨k0, f0, l0⟩ := hM.row .here
  go_wp2_with fail
  clear k0 f0 l0
  apply Mem.at
  · (repeat' (first | with_reducible exact hM | with_reducible exact hMp | with_reducible apply Mem.drew | with_reducible apply Mem.drewN | with_reducible apply Mem.alloc | with_reducible apply Mem.set | with_reducible exact Sto.row | ((with_reducible refine Sto.rowEq2 ?_ ?_); omega; rfl) | ((with_reducible refine Sto.rowEq ?_); omega) | with_reducible apply Sto.int | with_reducible apply Sto.there | with_reducible assumption | (unfold I64; omega) | (with_reducible (have hMx := Mem.undrew hM; exact hMx)) | (with_reducible (have hMx := Mem.undrew hMp; exact hMx))))
  clear hM
  intro hM
  (try simp only [World.size_alloc, World.size_setCell, World.heap_drewN, heapDrew, Nat.add_assoc, Nat.reduceAdd, List.setIfInBounds_toArray, List.set_cons_zero, List.set_cons_succ, List.cons_append, List.nil_append] at hM)
  refine (markIntS_any _ _ _ _ _ _ _ (hM.ints (.there (.there (.there .here)))) ⟨by omega, by omega⟩).mono ?_
  rintro e w3 ⟨rfl, hO, hk⟩
  replace hM := hM.put (e' := intE _ _ _ _) (.there (.there (.there .here))) hk hO (fun k hk => .inl hk)
  clear hO hk
  go_wp2
  go_ret
  refine ⟨rfl, ?_⟩
  apply Mem.tail
  (repeat' (first | with_reducible exact hM | with_reducible exact hMp | with_reducible apply Mem.drew | with_reducible apply Mem.drewN | with_reducible apply Mem.alloc | with_reducible apply Mem.set | with_reducible exact Sto.row | ((with_reducible refine Sto.rowEq2 ?_ ?_); omega; rfl) | ((with_reducible refine Sto.rowEq ?_); omega) | with_reducible apply Sto.int | with_reducible apply Sto.there | with_reducible assumption | (unfold I64; omega) | (with_reducible (have hMx := Mem.undrew hM; exact hMx)) | (with_reducible (have hMx := Mem.undrew hMp; exact hMx))))

set_option maxRecDepth 100000 in
set_option maxHeartbeats 2000000 in
theorem heldIncident_any (W H : Int) (a1 : Option Addr) (n1 c1 : Nat) (a2 : Option Addr) (n2 c2 : Nat) (a3 : Option Addr) (n3 c3 : Nat) (t q : Int) (w : World)
    (h1 : Ints w a1 n1 c1 (fromI q n1)) (h2 : Ints w a2 n2 c2 (fromI (q + n1) n2)) (h3 : Ints w a3 n3 c3 (fromI (q + n1 + n2) n3)) (hq : 0 ≤ q ∧ q ≤ 1000000000000000000) :
    Calls Try.prog 32 #[.agg #[.int .i64 W, .int .i64 H, .slice a1 n1 c1, .slice a2 n2 c2, .slice a3 n3 c3, .int .i64 t], .int .i64 q] w fun e w' => e = .returned (.int .i64 (q + n1 + n2 + n3)) ∧ Below w.heap.size w w' := by
  obtain ⟨q0, q1⟩ := hq
  have r1 := h1.room
  have r2 := h2.room
  have r3 := h3.room
  have hM := Mem.start w
  go_enter Try.func32, Try.ntmps32
  go_wp2_with fail
  apply Mem.at
  · (repeat' (first | with_reducible exact hM | with_reducible exact hMp | with_reducible apply Mem.drew | with_reducible apply Mem.drewN | with_reducible apply Mem.alloc | with_reducible apply Mem.set | with_reducible exact Sto.row | ((with_reducible refine Sto.rowEq2 ?_ ?_); omega; rfl) | ((with_reducible refine Sto.rowEq ?_); omega) | with_reducible apply Sto.int | with_reducible apply Sto.there | with_reducible assumption | (unfold I64; omega) | (with_reducible (have hMx := Mem.undrew hM; exact hMx)) | (with_reducible (have hMx := Mem.undrew hMp; exact hMx))))
  clear hM
  intro hM
  (try simp only [World.size_alloc, World.size_setCell, World.heap_drewN, heapDrew, Nat.add_assoc, Nat.reduceAdd, List.setIfInBounds_toArray, List.set_cons_zero, List.set_cons_succ, List.cons_append, List.nil_append] at hM)
  refine (heldTerrain_any _ _ _ _ _ _ q _ (h1.ext hM.below) ⟨q0, by omega⟩).mono ?_
  rw [heldF_fromI]
  rintro e w1 ⟨rfl, hb⟩
  replace hM := hM.ext hb
  clear hb
  obtain ⟨k0, f0, l0⟩ := hM.row .here
  go_wp2_with fail
  clear k0 f0 l0
  apply Mem.at
  · (repeat' (first | with_reducible exact hM | with_reducible exact hMp | with_reducible apply Mem.drew | with_reducible apply Mem.drewN | with_reducible apply Mem.alloc | with_reducible apply Mem.set | with_reducible exact Sto.row | ((with_reducible refine Sto.rowEq2 ?_ ?_); omega; rfl) | ((with_reducible refine Sto.rowEq ?_); omega) | with_reducible apply Sto.int | with_reducible apply Sto.there | with_reducible assumption | (unfold I64; omega) | (with_reducible (have hMx := Mem.undrew hM; exact hMx)) | (with_reducible (have hMx := Mem.undrew hMp; exact hMx))))
  clear hM
  intro hM
  (try simp only [World.size_alloc, World.size_setCell, World.heap_drewN, heapDrew, Nat.add_assoc, Nat.reduceAdd, List.setIfInBounds_toArray, List.set_cons_zero, List.set_cons_succ, List.cons_append, List.nil_append] at hM)
  refine (heldIntS_any _ _ _ _ (q + n1) _ (h2.ext hM.below) ⟨by omega, by omega⟩).mono ?_
  rw [heldF_fromI]
  rintro e w2 ⟨rfl, rfl⟩
  obtain ⟨k0, f0, l0⟩ := hM.row .here
  go_wp2_with fail
  clear k0 f0 l0
  apply Mem.at
  · (repeat' (first | with_reducible exact hM | with_reducible exact hMp | with_reducible apply Mem.drew | with_reducible apply Mem.drewN | with_reducible apply Mem.alloc | with_reducible apply Mem.set | with_reducible exact Sto.row | ((with_reducible refine Sto.rowEq2 ?_ ?_); omega; rfl) | ((with_reducible refine Sto.rowEq ?_); omega) | with_reducible apply Sto.int | with_reducible apply Sto.there | with_reducible assumption | (unfold I64; omega) | (with_reducible (have hMx := Mem.undrew hM; exact hMx)) | (with_reducible (have hMx := Mem.undrew hMp; exact hMx))))
  clear hM
  intro hM
  (try simp only [World.size_alloc, World.size_setCell, World.heap_drewN, heapDrew, Nat.add_assoc, Nat.reduceAdd, List.setIfInBounds_toArray, List.set_cons_zero, List.set_cons_succ, List.cons_append, List.nil_append] at hM)
  refine (heldIntS_any _ _ _ _ (q + n1 + n2) _ (h3.ext hM.below) ⟨by omega, by omega⟩).mono ?_
  rw [heldF_fromI]
  rintro e w3 ⟨rfl, rfl⟩
  go_wp2
  go_ret
  exact ⟨rfl, (by apply Mem.below; (repeat' (first | with_reducible exact hM | with_reducible exact hMp | with_reducible apply Mem.drew | with_reducible apply Mem.drewN | with_reducible apply Mem.alloc | with_reducible apply Mem.set | with_reducible exact Sto.row | ((with_reducible refine Sto.rowEq2 ?_ ?_); omega; rfl) | ((with_reducible refine Sto.rowEq ?_); omega) | with_reducible apply Sto.int | with_reducible apply Sto.there | with_reducible assumption | (unfold I64; omega) | (with_reducible (have hMx := Mem.undrew hM; exact hMx)) | (with_reducible (have hMx := Mem.undrew hMp; exact hMx)))))⟩
end Go.Proofs.Ytojfbcgfeojdfaa
