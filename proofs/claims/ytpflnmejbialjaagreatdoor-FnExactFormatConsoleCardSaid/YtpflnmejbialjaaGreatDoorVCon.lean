/-
  Consoles: the laws' eq, mark, held; copies; NewConsole of both sides.
-/
import Derived.Test.YtpflnmejbialjaaGreatDoorVNear
import Derived.Test.YtpflnmejbialjaaGreatDoorVPhases
import Derived.Test.YtpflnmejbialjaaGreatDoorVPhasesS
import Derived.Test.YtpflnmejbialjaaGreatDoorVNear2
import Derived.Test.YtpflnmejbialjaaGreatDoorVFlood
import Derived.Test.YtpflnmejbialjaaGreatDoorVClear
import Derived.Deep.LoopGhost
import Derived.Deep.DeepCutAuto
import Derived.Test.YtpflnmejbialjaaGreatDoorVAt
import Derived.Test.YtpflnmejbialjaaGreatDoorVRegF
/-
  Consoles: the laws' eq, mark, held; copies; NewConsole of both sides.
-/
namespace Go.Proofs.YtpflnmejbialjaaGreatDoor
set_option linter.unusedSimpArgs false
set_option linter.unusedVariables false
open Go.RowKit

abbrev conV (W H : Int) (a1 : Option Addr) (n1 c1 : Nat) (a2 : Option Addr) (n2 c2 : Nat) (a3 : Option Addr) (n3 c3 : Nat) (t : Int) (a4 : Option Addr) (n4 c4 : Nat) (a5 : Option Addr) (n5 c5 : Nat) (du pe : ByteArray) (ct : Int) : Value :=
  .agg #[.int .i64 W, .int .i64 H, .slice a1 n1 c1, .slice a2 n2 c2, .slice a3 n3 c3, .int .i64 t, .slice a4 n4 c4, .slice a5 n5 c5, .string du, .string pe, .int .i64 ct]
structure ConI where
  i : IncI
  ph : List PhaseI
  av : List Int
  du : ByteArray
  pe : ByteArray
  ct : Int
def ConI.zero : ConI := ⟨IncI.zero, [], [], ⟨#[]⟩, ⟨#[]⟩, 0⟩
section
variable {B : Nat} {w0 w : World} {G : List Ent} {e a b c : Ent}
end
theorem bytes_bne (b : ByteArray) : (b != b) = false := by
  have h : (b == b) = true := by
    cases b
    show ByteArray.beq _ _ = true
    simp [ByteArray.beq]
  show (!(b == b)) = false
  rw [h]; rfl
theorem decP_refl (l : List PhaseI) : decide (l = l) = true := decide_eq_true rfl
set_option maxRecDepth 100000 in
set_option maxHeartbeats 4000000 in
theorem eqLog_same (du pe : ByteArray) (ct : Int) (w : World) :
    Calls Tryz.prog 28 #[.agg #[.string du, .string pe, .int .i64 ct], .agg #[.string du, .string pe, .int .i64 ct]] w fun e w' => e = .returned (.bool true) ∧ Below w.heap.size w w' := by
  have hM := Mem.start w
  have h1 : (du != du) = false := bytes_bne du
  have h2 : (pe != pe) = false := bytes_bne pe
  have h3 : (ct != ct) = false := by simp
  go_enter Tryz.func28, Tryz.ntmps28
  go_wp2
  go_ret
  exact ⟨rfl, (by apply Mem.below; (repeat' (first | with_reducible exact hM | with_reducible exact hMp | with_reducible apply Mem.drew | with_reducible apply Mem.drewN | with_reducible apply Mem.alloc | with_reducible apply Mem.set | with_reducible exact Sto.row | ((with_reducible refine Sto.rowEq2 ?_ ?_); omega; rfl) | ((with_reducible refine Sto.rowEq ?_); omega) | with_reducible apply Sto.int | with_reducible apply Sto.there | with_reducible assumption | (unfold I64; omega) | (with_reducible (have hMx := Mem.undrew hM; exact hMx)) | (with_reducible (have hMx := Mem.undrew hMp; exact hMx)))))⟩
set_option maxRecDepth 100000 in
set_option maxHeartbeats 8000000 in
theorem eqConsole_any (W H : Int) (a1 : Option Addr) (n1 c1 : Nat) (xs1 : List Int) (a2 : Option Addr) (n2 c2 : Nat) (xs2 : List Int) (a3 : Option Addr) (n3 c3 : Nat) (xs3 : List Int) (t : Int) (a4 : Option Addr) (n4 c4 : Nat) (ph : List PhaseI) (a5 : Option Addr) (n5 c5 : Nat) (av : List Int) (du pe : ByteArray) (ct : Int) (W' H' : Int) (b1 : Option Addr) (m1 d1 : Nat) (ys1 : List Int) (b2 : Option Addr) (m2 d2 : Nat) (ys2 : List Int) (b3 : Option Addr) (m3 d3 : Nat) (ys3 : List Int) (t' : Int) (b4 : Option Addr) (m4 d4 : Nat) (ph' : List PhaseI) (b5 : Option Addr) (m5 d5 : Nat) (av' : List Int) (du' pe' : ByteArray) (ct' : Int) (w : World)
    (h1 : Ints w a1 n1 c1 xs1) (h2 : Ints w a2 n2 c2 xs2) (h3 : Ints w a3 n3 c3 xs3) (h4 : Rd FPhase w a4 n4 c4 ph) (h5 : Ints w a5 n5 c5 av) (k1 : Ints w b1 m1 d1 ys1) (k2 : Ints w b2 m2 d2 ys2) (k3 : Ints w b3 m3 d3 ys3) (k4 : Rd FPhase w b4 m4 d4 ph') (k5 : Ints w b5 m5 d5 av') (he : W = W' ∧ H = H' ∧ xs1 = ys1 ∧ xs2 = ys2 ∧ xs3 = ys3 ∧ t = t' ∧ ph = ph' ∧ av = av' ∧ du = du' ∧ pe = pe' ∧ ct = ct' := by exact ⟨rfl, rfl, rfl, rfl, rfl, rfl, rfl, rfl, rfl, rfl, rfl⟩) :
    Calls Tryz.prog 8 #[conV W H a1 n1 c1 a2 n2 c2 a3 n3 c3 t a4 n4 c4 a5 n5 c5 du pe ct, conV W' H' b1 m1 d1 b2 m2 d2 b3 m3 d3 t' b4 m4 d4 b5 m5 d5 du' pe' ct'] w fun e w' => e = .returned (.bool true) ∧ Below w.heap.size w w' := by
  obtain ⟨rfl, rfl, rfl, rfl, rfl, rfl, rfl, rfl, rfl, rfl, rfl⟩ := he
  have hM := Mem.start w
  have HQ1 := Lib.hid (eqInc_refl W H xs1 xs2 xs3 t)
  have HQ2 := Lib.hid (show ∀ l : List Int, (l == l) = true from fun l => beq_self_eq_true l)
  go_enter Tryz.func8, Tryz.ntmps8
  go_wp2_with fail
  apply Mem.atA
  · (repeat' (first | with_reducible exact hM | with_reducible exact hMp | with_reducible apply Mem.drew | with_reducible apply Mem.drewN | with_reducible apply Mem.alloc | with_reducible apply Mem.set | with_reducible exact Sto.row | ((with_reducible refine Sto.rowEq2 ?_ ?_); omega; rfl) | ((with_reducible refine Sto.rowEq ?_); omega) | with_reducible apply Sto.int | with_reducible apply Sto.there | with_reducible assumption | (unfold I64; omega) | (with_reducible (have hMx := Mem.undrew hM; exact hMx)) | (with_reducible (have hMx := Mem.undrew hMp; exact hMx))))
  clear hM
  intro wst hM
  (try simp only [World.size_alloc, World.size_setCell, World.heap_drewN, heapDrew, Nat.add_assoc, Nat.reduceAdd, List.setIfInBounds_toArray, List.set_cons_zero, List.set_cons_succ, List.cons_append, List.nil_append] at hM)
  (first | refine (eqIncident_any W H a1 n1 c1 xs1 a2 n2 c2 xs2 a3 n3 c3 xs3 t W H b1 m1 d1 xs1 b2 m2 d2 xs2 b3 m3 d3 xs3 t _ (h1.ext hM.below) (h2.ext hM.below) (h3.ext hM.below) (k1.ext hM.below) (k2.ext hM.below) (k3.ext hM.below)).mono ?_)
  rw [HQ1.out]
  rintro e wc1 ⟨rfl, hb⟩
  replace hM := hM.ext hb
  clear hb
  obtain ⟨k0, f0, l0⟩ := hM.row .here
  obtain ⟨k1, f1, l1⟩ := hM.row (.there .here)
  go_wp2_with fail
  clear k0 f0 l0 k1 f1 l1
  apply Mem.atA
  · (repeat' (first | with_reducible exact hM | with_reducible exact hMp | with_reducible apply Mem.drew | with_reducible apply Mem.drewN | with_reducible apply Mem.alloc | with_reducible apply Mem.set | with_reducible exact Sto.row | ((with_reducible refine Sto.rowEq2 ?_ ?_); omega; rfl) | ((with_reducible refine Sto.rowEq ?_); omega) | with_reducible apply Sto.int | with_reducible apply Sto.there | with_reducible assumption | (unfold I64; omega) | (with_reducible (have hMx := Mem.undrew hM; exact hMx)) | (with_reducible (have hMx := Mem.undrew hMp; exact hMx))))
  clear hM
  intro wst hM
  (try simp only [World.size_alloc, World.size_setCell, World.heap_drewN, heapDrew, Nat.add_assoc, Nat.reduceAdd, List.setIfInBounds_toArray, List.set_cons_zero, List.set_cons_succ, List.cons_append, List.nil_append] at hM)
  (first | refine (eqPhaseS_any a4 n4 c4 ph b4 m4 d4 ph _ (h4.ext hM.below) (k4.ext hM.below)).mono ?_)
  rw [decP_refl]
  rintro e wc2 ⟨rfl, hb⟩
  replace hM := hM.ext hb
  clear hb
  obtain ⟨k0, f0, l0⟩ := hM.row .here
  obtain ⟨k1, f1, l1⟩ := hM.row (.there .here)
  go_wp2_with fail
  clear k0 f0 l0 k1 f1 l1
  apply Mem.atA
  · (repeat' (first | with_reducible exact hM | with_reducible exact hMp | with_reducible apply Mem.drew | with_reducible apply Mem.drewN | with_reducible apply Mem.alloc | with_reducible apply Mem.set | with_reducible exact Sto.row | ((with_reducible refine Sto.rowEq2 ?_ ?_); omega; rfl) | ((with_reducible refine Sto.rowEq ?_); omega) | with_reducible apply Sto.int | with_reducible apply Sto.there | with_reducible assumption | (unfold I64; omega) | (with_reducible (have hMx := Mem.undrew hM; exact hMx)) | (with_reducible (have hMx := Mem.undrew hMp; exact hMx))))
  clear hM
  intro wst hM
  (try simp only [World.size_alloc, World.size_setCell, World.heap_drewN, heapDrew, Nat.add_assoc, Nat.reduceAdd, List.setIfInBounds_toArray, List.set_cons_zero, List.set_cons_succ, List.cons_append, List.nil_append] at hM)
  (first | refine (eqIntS_any a5 n5 c5 av b5 m5 d5 av _ (h5.ext hM.below) (k5.ext hM.below)).mono ?_)
  rw [HQ2.out]
  rintro e wc3 ⟨rfl, hb⟩
  replace hM := hM.ext hb
  clear hb
  obtain ⟨k0, f0, l0⟩ := hM.row .here
  obtain ⟨k1, f1, l1⟩ := hM.row (.there .here)
  go_wp2_with fail
  clear k0 f0 l0 k1 f1 l1
  apply Mem.atA
  · (repeat' (first | with_reducible exact hM | with_reducible exact hMp | with_reducible apply Mem.drew | with_reducible apply Mem.drewN | with_reducible apply Mem.alloc | with_reducible apply Mem.set | with_reducible exact Sto.row | ((with_reducible refine Sto.rowEq2 ?_ ?_); omega; rfl) | ((with_reducible refine Sto.rowEq ?_); omega) | with_reducible apply Sto.int | with_reducible apply Sto.there | with_reducible assumption | (unfold I64; omega) | (with_reducible (have hMx := Mem.undrew hM; exact hMx)) | (with_reducible (have hMx := Mem.undrew hMp; exact hMx))))
  clear hM
  intro wst hM
  (try simp only [World.size_alloc, World.size_setCell, World.heap_drewN, heapDrew, Nat.add_assoc, Nat.reduceAdd, List.setIfInBounds_toArray, List.set_cons_zero, List.set_cons_succ, List.cons_append, List.nil_append] at hM)
  (first | refine (eqLog_same du pe ct _).mono ?_)
  rintro e wc4 ⟨rfl, hb⟩
  replace hM := hM.ext hb
  clear hb
  go_wp2
  go_ret
  exact ⟨rfl, (by apply Mem.below; (repeat' (first | with_reducible exact hM | with_reducible exact hMp | with_reducible apply Mem.drew | with_reducible apply Mem.drewN | with_reducible apply Mem.alloc | with_reducible apply Mem.set | with_reducible exact Sto.row | ((with_reducible refine Sto.rowEq2 ?_ ?_); omega; rfl) | ((with_reducible refine Sto.rowEq ?_); omega) | with_reducible apply Sto.int | with_reducible apply Sto.there | with_reducible assumption | (unfold I64; omega) | (with_reducible (have hMx := Mem.undrew hM; exact hMx)) | (with_reducible (have hMx := Mem.undrew hMp; exact hMx)))))⟩
end Go.Proofs.YtpflnmejbialjaaGreatDoor
