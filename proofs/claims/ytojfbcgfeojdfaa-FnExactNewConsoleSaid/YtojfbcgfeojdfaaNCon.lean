/-
  Consoles: the laws' eq, mark, held; copies; NewConsole of both sides.
-/
import Derived.Test.YtojfbcgfeojdfaaNNewInc
import Derived.Test.YtojfbcgfeojdfaaNPhases
import Derived.Test.YtojfbcgfeojdfaaNPhasesS
import Derived.Test.YtojfbcgfeojdfaaNTickW
import Derived.Test.YtojfbcgfeojdfaaNApp
import Derived.Test.YtojfbcgfeojdfaaNPackA
import Derived.Test.YtojfbcgfeojdfaaNRegF
/-
  Consoles: the laws' eq, mark, held; copies; NewConsole of both sides.
-/
namespace Go.Proofs.Ytojfbcgfeojdfaa
set_option linter.unusedSimpArgs false
set_option linter.unusedVariables false
open Go.RowKit

abbrev conV (W H : Int) (a1 : Option Addr) (n1 c1 : Nat) (a2 : Option Addr) (n2 c2 : Nat) (a3 : Option Addr) (n3 c3 : Nat) (t : Int) (a4 : Option Addr) (n4 c4 : Nat) (a5 : Option Addr) (n5 c5 : Nat) (du pe : ByteArray) (ct : Int) : Value :=
  .agg #[.int .i64 W, .int .i64 H, .slice a1 n1 c1, .slice a2 n2 c2, .slice a3 n3 c3, .int .i64 t, .slice a4 n4 c4, .slice a5 n5 c5, .string du, .string pe, .int .i64 ct]
structure ConI where
  i : IncI
  ph : List PhaseI
  av : List Int
  du : ByteArray
  pe : ByteArray
  ct : Int
def ConI.zero : ConI := ⟨IncI.zero, [], [], ⟨#[]⟩, ⟨#[]⟩, 0⟩
structure ConR where
  c : ConI
  ok : Bool
def newConR (W H : Int) (xs cells : List Int) (ph : List PhaseI) : ConR := if (newR W H xs cells).ok && phasesB ph then ⟨⟨(newR W H xs cells).i, ph, [], ⟨#[]⟩, ⟨#[]⟩, 0⟩, true⟩ else ⟨ConI.zero, false⟩
/-- a console and whether there is one: new memory -/
def ConRes (w : World) (r : ConR) (e : Ending) (w' : World) : Prop :=
  ∃ b1 n1 d1 b2 n2 d2 b3 n3 d3 b4 n4 d4 b5 n5 d5, e = .returned (.tuple #[conV r.c.i.W r.c.i.H b1 n1 d1 b2 n2 d2 b3 n3 d3 r.c.i.t b4 n4 d4 b5 n5 d5 r.c.du r.c.pe r.c.ct, .bool r.ok]) ∧
    Mem w.heap.size w w' [intE b1 n1 d1 r.c.i.xs, intE b2 n2 d2 r.c.i.fs, intE b3 n3 d3 r.c.i.ws, owE FPhase 55 b4 n4 d4 r.c.ph, intE b5 n5 d5 r.c.av]
theorem Mem.nilI {B : Nat} {w0 w : World} {G : List Ent} (h : Mem B w0 w G) : Mem B w0 w (intE none 0 0 [] :: G) := by
  refine ⟨h.below, h.size, ?_, List.pairwise_cons.2 ⟨fun e _ k hk => ?_, h.apart⟩⟩
  · intro e he
    rcases List.mem_cons.1 he with rfl | he
    · exact own_nil _ _
    · exact h.ents e he
  · simp [intE, blockOf] at hk
theorem Mem.nilOwP {α : Type} {F : Fl α} {E : TypeId} {B : Nat} {w0 w : World} {G : List Ent} (h : Mem B w0 w G) : Mem B w0 w (owE F E none 0 0 [] :: G) := by
  refine ⟨h.below, h.size, ?_, List.pairwise_cons.2 ⟨fun e _ k hk => ?_, h.apart⟩⟩
  · intro e he
    rcases List.mem_cons.1 he with rfl | he
    · exact ow_nil _ _ _ _
    · exact h.ents e he
  · simp [owE, blockOf] at hk
theorem Mem.nil5 {B : Nat} {w0 w : World} {G : List Ent} (h : Mem B w0 w G) : Mem B w0 w [intE none 0 0 [], intE none 0 0 [], intE none 0 0 [], owE FPhase 55 none 0 0 [], intE none 0 0 []] :=
  Mem.nilI (Mem.nilI (Mem.nilI (Mem.nilOwP (Mem.nilI (h.sub (G' := []) (by simp))))))

section
variable {B : Nat} {w0 w : World} {G : List Ent} {e a b c : Ent}
theorem Mem.back3 (h : Mem B w0 w (e :: a :: b :: c :: G)) : Mem B w0 w (a :: b :: c :: e :: G) := h.perm (List.perm_middle (l₁ := [a, b, c])).symm
theorem Mem.drop3 (h : Mem B w0 w (a :: b :: c :: e :: G)) : Mem B w0 w (a :: b :: c :: G) := h.sub (.cons_cons _ (.cons_cons _ (.cons_cons _ (.cons _ (.refl _)))))
end
theorem bytes_bne (b : ByteArray) : (b != b) = false := by
  have h : (b == b) = true := by
    cases b
    show ByteArray.beq _ _ = true
    simp [ByteArray.beq]
  show (!(b == b)) = false
  rw [h]; rfl
theorem decP_refl (l : List PhaseI) : decide (l = l) = true := decide_eq_true rfl
set_option maxRecDepth 100000 in
set_option maxHeartbeats 4000000 in
theorem eqLog_same (du pe : ByteArray) (ct : Int) (w : World) :
    Calls Try.prog 29 #[.agg #[.string du, .string pe, .int .i64 ct], .agg #[.string du, .string pe, .int .i64 ct]] w fun e w' => e = .returned (.bool true) ∧ Below w.heap.size w w' := by
  have hM := Mem.start w
  have h1 : (du != du) = false := bytes_bne du
  have h2 : (pe != pe) = false := bytes_bne pe
  have h3 : (ct != ct) = false := by simp
  go_enter Try.func29, Try.ntmps29
  go_wp2
  go_ret
  exact ⟨rfl, (by apply Mem.below; (repeat' (first | with_reducible exact hM | with_reducible exact hMp | with_reducible apply Mem.drew | with_reducible apply Mem.drewN | with_reducible apply Mem.alloc | with_reducible apply Mem.set | with_reducible exact Sto.row | ((with_reducible refine Sto.rowEq2 ?_ ?_); omega; rfl) | ((with_reducible refine Sto.rowEq ?_); omega) | with_reducible apply Sto.int | with_reducible apply Sto.there | with_reducible assumption | (unfold I64; omega) | (with_reducible (have hMx := Mem.undrew hM; exact hMx)) | (with_reducible (have hMx := Mem.undrew hMp; exact hMx)))))⟩
set_option maxRecDepth 100000 in
set_option maxHeartbeats 8000000 in
theorem eqConsole_any (W H : Int) (a1 : Option Addr) (n1 c1 : Nat) (xs1 : List Int) (a2 : Option Addr) (n2 c2 : Nat) (xs2 : List Int) (a3 : Option Addr) (n3 c3 : Nat) (xs3 : List Int) (t : Int) (a4 : Option Addr) (n4 c4 : Nat) (ph : List PhaseI) (a5 : Option Addr) (n5 c5 : Nat) (av : List Int) (du pe : ByteArray) (ct : Int) (W' H' : Int) (b1 : Option Addr) (m1 d1 : Nat) (ys1 : List Int) (b2 : Option Addr) (m2 d2 : Nat) (ys2 : List Int) (b3 : Option Addr) (m3 d3 : Nat) (ys3 : List Int) (t' : Int) (b4 : Option Addr) (m4 d4 : Nat) (ph' : List PhaseI) (b5 : Option Addr) (m5 d5 : Nat) (av' : List Int) (du' pe' : ByteArray) (ct' : Int) (w : World)
    (h1 : Ints w a1 n1 c1 xs1) (h2 : Ints w a2 n2 c2 xs2) (h3 : Ints w a3 n3 c3 xs3) (h4 : Rd FPhase w a4 n4 c4 ph) (h5 : Ints w a5 n5 c5 av) (k1 : Ints w b1 m1 d1 ys1) (k2 : Ints w b2 m2 d2 ys2) (k3 : Ints w b3 m3 d3 ys3) (k4 : Rd FPhase w b4 m4 d4 ph') (k5 : Ints w b5 m5 d5 av') (he : W = W' ∧ H = H' ∧ xs1 = ys1 ∧ xs2 = ys2 ∧ xs3 = ys3 ∧ t = t' ∧ ph = ph' ∧ av = av' ∧ du = du' ∧ pe = pe' ∧ ct = ct' := by exact ⟨rfl, rfl, rfl, rfl, rfl, rfl, rfl, rfl, rfl, rfl, rfl⟩) :
    Calls Try.prog 11 #[conV W H a1 n1 c1 a2 n2 c2 a3 n3 c3 t a4 n4 c4 a5 n5 c5 du pe ct, conV W' H' b1 m1 d1 b2 m2 d2 b3 m3 d3 t' b4 m4 d4 b5 m5 d5 du' pe' ct'] w fun e w' => e = .returned (.bool true) ∧ Below w.heap.size w w' := by
  obtain ⟨rfl, rfl, rfl, rfl, rfl, rfl, rfl, rfl, rfl, rfl, rfl⟩ := he
  have hM := Mem.start w
  have HQ1 := Lib.hid (eqInc_refl W H xs1 xs2 xs3 t)
  have HQ2 := Lib.hid (show ∀ l : List Int, (l == l) = true from fun l => beq_self_eq_true l)
  go_enter Try.func11, Try.ntmps11
  go_wp2_with fail
  apply Mem.atA
  · (repeat' (first | with_reducible exact hM | with_reducible exact hMp | with_reducible apply Mem.drew | with_reducible apply Mem.drewN | with_reducible apply Mem.alloc | with_reducible apply Mem.set | with_reducible exact Sto.row | ((with_reducible refine Sto.rowEq2 ?_ ?_); omega; rfl) | ((with_reducible refine Sto.rowEq ?_); omega) | with_reducible apply Sto.int | with_reducible apply Sto.there | with_reducible assumption | (unfold I64; omega) | (with_reducible (have hMx := Mem.undrew hM; exact hMx)) | (with_reducible (have hMx := Mem.undrew hMp; exact hMx))))
  clear hM
  intro wst hM
  (try simp only [World.size_alloc, World.size_setCell, World.heap_drewN, heapDrew, Nat.add_assoc, Nat.reduceAdd, List.setIfInBounds_toArray, List.set_cons_zero, List.set_cons_succ, List.cons_append, List.nil_append] at hM)
  (first | refine (eqIncident_any W H a1 n1 c1 xs1 a2 n2 c2 xs2 a3 n3 c3 xs3 t W H b1 m1 d1 xs1 b2 m2 d2 xs2 b3 m3 d3 xs3 t _ (h1.ext hM.below) (h2.ext hM.below) (h3.ext hM.below) (k1.ext hM.below) (k2.ext hM.below) (k3.ext hM.below)).mono ?_)
  rw [HQ1.out]
  rintro e wc1 ⟨rfl, hb⟩
  replace hM := hM.ext hb
  clear hb
  obtain ⟨k0, f0, l0⟩ := hM.row .here
  obtain ⟨k1, f1, l1⟩ := hM.row (.there .here)
  go_wp2_with fail
  clear k0 f0 l0 k1 f1 l1
  apply Mem.atA
  · (repeat' (first | with_reducible exact hM | with_reducible exact hMp | with_reducible apply Mem.drew | with_reducible apply Mem.drewN | with_reducible apply Mem.alloc | with_reducible apply Mem.set | with_reducible exact Sto.row | ((with_reducible refine Sto.rowEq2 ?_ ?_); omega; rfl) | ((with_reducible refine Sto.rowEq ?_); omega) | with_reducible apply Sto.int | with_reducible apply Sto.there | with_reducible assumption | (unfold I64; omega) | (with_reducible (have hMx := Mem.undrew hM; exact hMx)) | (with_reducible (have hMx := Mem.undrew hMp; exact hMx))))
  clear hM
  intro wst hM
  (try simp only [World.size_alloc, World.size_setCell, World.heap_drewN, heapDrew, Nat.add_assoc, Nat.reduceAdd, List.setIfInBounds_toArray, List.set_cons_zero, List.set_cons_succ, List.cons_append, List.nil_append] at hM)
  (first | refine (eqPhaseS_any a4 n4 c4 ph b4 m4 d4 ph _ (h4.ext hM.below) (k4.ext hM.below)).mono ?_)
  rw [decP_refl]
  rintro e wc2 ⟨rfl, hb⟩
  replace hM := hM.ext hb
  clear hb
  obtain ⟨k0, f0, l0⟩ := hM.row .here
  obtain ⟨k1, f1, l1⟩ := hM.row (.there .here)
  go_wp2_with fail
  clear k0 f0 l0 k1 f1 l1
  apply Mem.atA
  · (repeat' (first | with_reducible exact hM | with_reducible exact hMp | with_reducible apply Mem.drew | with_reducible apply Mem.drewN | with_reducible apply Mem.alloc | with_reducible apply Mem.set | with_reducible exact Sto.row | ((with_reducible refine Sto.rowEq2 ?_ ?_); omega; rfl) | ((with_reducible refine Sto.rowEq ?_); omega) | with_reducible apply Sto.int | with_reducible apply Sto.there | with_reducible assumption | (unfold I64; omega) | (with_reducible (have hMx := Mem.undrew hM; exact hMx)) | (with_reducible (have hMx := Mem.undrew hMp; exact hMx))))
  clear hM
  intro wst hM
  (try simp only [World.size_alloc, World.size_setCell, World.heap_drewN, heapDrew, Nat.add_assoc, Nat.reduceAdd, List.setIfInBounds_toArray, List.set_cons_zero, List.set_cons_succ, List.cons_append, List.nil_append] at hM)
  (first | refine (eqIntS_any a5 n5 c5 av b5 m5 d5 av _ (h5.ext hM.below) (k5.ext hM.below)).mono ?_)
  rw [HQ2.out]
  rintro e wc3 ⟨rfl, hb⟩
  replace hM := hM.ext hb
  clear hb
  obtain ⟨k0, f0, l0⟩ := hM.row .here
  obtain ⟨k1, f1, l1⟩ := hM.row (.there .here)
  go_wp2_with fail
  clear k0 f0 l0 k1 f1 l1
  apply Mem.atA
  · (repeat' (first | with_reducible exact hM | with_reducible exact hMp | with_reducible apply Mem.drew | with_reducible apply Mem.drewN | with_reducible apply Mem.alloc | with_reducible apply Mem.set | with_reducible exact Sto.row | ((with_reducible refine Sto.rowEq2 ?_ ?_); omega; rfl) | ((with_reducible refine Sto.rowEq ?_); omega) | with_reducible apply Sto.int | with_reducible apply Sto.there | with_reducible assumption | (unfold I64; omega) | (with_reducible (have hMx := Mem.undrew hM; exact hMx)) | (with_reducible (have hMx := Mem.undrew hMp; exact hMx))))
  clear hM
  intro wst hM
  (try simp only [World.size_alloc, World.size_setCell, World.heap_drewN, heapDrew, Nat.add_assoc, Nat.reduceAdd, List.setIfInBounds_toArray, List.set_cons_zero, List.set_cons_succ, List.cons_append, List.nil_append] at hM)
  (first | refine (eqLog_same du pe ct _).mono ?_)
  rintro e wc4 ⟨rfl, hb⟩
  replace hM := hM.ext hb
  clear hb
  go_wp2
  go_ret
  exact ⟨rfl, (by apply Mem.below; (repeat' (first | with_reducible exact hM | with_reducible exact hMp | with_reducible apply Mem.drew | with_reducible apply Mem.drewN | with_reducible apply Mem.alloc | with_reducible apply Mem.set | with_reducible exact Sto.row | ((with_reducible refine Sto.rowEq2 ?_ ?_); omega; rfl) | ((with_reducible refine Sto.rowEq ?_); omega) | with_reducible apply Sto.int | with_reducible apply Sto.there | with_reducible assumption | (unfold I64; omega) | (with_reducible (have hMx := Mem.undrew hM; exact hMx)) | (with_reducible (have hMx := Mem.undrew hMp; exact hMx)))))⟩
set_option maxRecDepth 100000 in
set_option maxHeartbeats 8000000 in
theorem markConsole_any (B : Nat) (w0 : World) (G : List Ent) (W H : Int) (a1 : Option Addr) (n1 c1 : Nat) (xs1 : List Int) (a2 : Option Addr) (n2 c2 : Nat) (xs2 : List Int) (a3 : Option Addr) (n3 c3 : Nat) (xs3 : List Int) (t : Int) (a4 : Option Addr) (n4 c4 : Nat) (ph : List PhaseI) (a5 : Option Addr) (n5 c5 : Nat) (av : List Int) (du pe : ByteArray) (ct q : Int) (w : World)
    (hM : Mem B w0 w (intE a1 n1 c1 xs1 :: intE a2 n2 c2 xs2 :: intE a3 n3 c3 xs3 :: owE FPhase 55 a4 n4 c4 ph :: intE a5 n5 c5 av :: G)) (hq : 0 ≤ q ∧ q ≤ 100000000000000000) :
    Calls Try.prog 18 #[conV W H a1 n1 c1 a2 n2 c2 a3 n3 c3 t a4 n4 c4 a5 n5 c5 du pe ct, .int .i64 q] w fun e w' => e = .returned (.int .i64 (q + n1 + n2 + n3 + 2 * n4 + n5)) ∧ Mem B w0 w' (intE a1 n1 c1 (fromI q n1) :: intE a2 n2 c2 (fromI (q + n1) n2) :: intE a3 n3 c3 (fromI (q + n1 + n2) n3) :: owE FPhase 55 a4 n4 c4 (fromPhase (q + n1 + n2 + n3) n4) :: intE a5 n5 c5 (fromI (q + n1 + n2 + n3 + 2 * n4) n5) :: G) := by
  obtain ⟨q0, q1⟩ := hq
  have r1 := (hM.ints .here).room
  have r2 := (hM.ints (.there .here)).room
  have r3 := (hM.ints (.there (.there .here))).room
  have r4 := (hM.ow (.there (.there (.there .here)))).rd.nroom
  have r5 := (hM.ints (.there (.there (.there (.there .here))))).room
  go_enter Try.func18, Try.ntmps18
  go_wp2_with fail
  apply Mem.atA
  · (repeat' (first | with_reducible exact hM | with_reducible exact hMp | with_reducible apply Mem.drew | with_reducible apply Mem.drewN | with_reducible apply Mem.alloc | with_reducible apply Mem.set | with_reducible exact Sto.row | ((with_reducible refine Sto.rowEq2 ?_ ?_); omega; rfl) | ((with_reducible refine Sto.rowEq ?_); omega) | with_reducible apply Sto.int | with_reducible apply Sto.there | with_reducible assumption | (unfold I64; omega) | (with_reducible (have hMx := Mem.undrew hM; exact hMx)) | (with_reducible (have hMx := Mem.undrew hMp; exact hMx))))
  clear hM
  intro wst hM
  (try simp only [World.size_alloc, World.size_setCell, World.heap_drewN, heapDrew, Nat.add_assoc, Nat.reduceAdd, List.setIfInBounds_toArray, List.set_cons_zero, List.set_cons_succ, List.cons_append, List.nil_append] at hM)
  replace hM := hM.back3
  refine (markIncident_any _ _ _ W H a1 n1 c1 xs1 a2 n2 c2 xs2 a3 n3 c3 xs3 t q _ hM (by omega)).mono ?_
  clear hM
  rintro e w1 ⟨rfl, hM⟩
  obtain ⟨k3, f3, l3⟩ := hM.row (.there (.there (.there .here)))
  go_wp2_with fail
  clear k3 f3 l3
  apply Mem.at
  · (repeat' (first | with_reducible exact hM | with_reducible exact hMp | with_reducible apply Mem.drew | with_reducible apply Mem.drewN | with_reducible apply Mem.alloc | with_reducible apply Mem.set | with_reducible exact Sto.row | ((with_reducible refine Sto.rowEq2 ?_ ?_); omega; rfl) | ((with_reducible refine Sto.rowEq ?_); omega) | with_reducible apply Sto.int | with_reducible apply Sto.there | with_reducible assumption | (unfold I64; omega) | (with_reducible (have hMx := Mem.undrew hM; exact hMx)) | (with_reducible (have hMx := Mem.undrew hMp; exact hMx))))
  clear hM
  intro hM
  (try simp only [World.size_alloc, World.size_setCell, World.heap_drewN, heapDrew, Nat.add_assoc, Nat.reduceAdd, List.setIfInBounds_toArray, List.set_cons_zero, List.set_cons_succ, List.cons_append, List.nil_append] at hM)
  refine (markPhaseS_any _ a4 n4 c4 ph (q + n1 + n2 + n3) _ (hM.ow (.there (.there (.there (.there .here))))) hM.size (by omega)).mono ?_
  rintro e w2 ⟨rfl, hO, hk⟩
  replace hM := hM.put (e' := owE FPhase _ _ _ _ _) (.there (.there (.there (.there .here)))) hk hO (fun k hk => .inl hk)
  clear hO hk
  obtain ⟨k3, f3, l3⟩ := hM.row (.there (.there (.there .here)))
  go_wp2_with fail
  clear k3 f3 l3
  apply Mem.at
  · (repeat' (first | with_reducible exact hM | with_reducible exact hMp | with_reducible apply Mem.drew | with_reducible apply Mem.drewN | with_reducible apply Mem.alloc | with_reducible apply Mem.set | with_reducible exact Sto.row | ((with_reducible refine Sto.rowEq2 ?_ ?_); omega; rfl) | ((with_reducible refine Sto.rowEq ?_); omega) | with_reducible apply Sto.int | with_reducible apply Sto.there | with_reducible assumption | (unfold I64; omega) | (with_reducible (have hMx := Mem.undrew hM; exact hMx)) | (with_reducible (have hMx := Mem.undrew hMp; exact hMx))))
  clear hM
  intro hM
  (try simp only [World.size_alloc, World.size_setCell, World.heap_drewN, heapDrew, Nat.add_assoc, Nat.reduceAdd, List.setIfInBounds_toArray, List.set_cons_zero, List.set_cons_succ, List.cons_append, List.nil_append] at hM)
  refine (markIntS_any _ a5 n5 c5 av (q + n1 + n2 + n3 + 2 * n4) _ (hM.ints (.there (.there (.there (.there (.there .here)))))) ⟨by omega, by omega⟩).mono ?_
  rintro e w3 ⟨rfl, hO, hk⟩
  replace hM := hM.put (e' := intE _ _ _ _) (.there (.there (.there (.there (.there .here))))) hk hO (fun k hk => .inl hk)
  clear hO hk
  go_wp2
  go_ret
  refine ⟨rfl, ?_⟩
  apply Mem.drop3
  (repeat' (first | with_reducible exact hM | with_reducible exact hMp | with_reducible apply Mem.drew | with_reducible apply Mem.drewN | with_reducible apply Mem.alloc | with_reducible apply Mem.set | with_reducible exact Sto.row | ((with_reducible refine Sto.rowEq2 ?_ ?_); omega; rfl) | ((with_reducible refine Sto.rowEq ?_); omega) | with_reducible apply Sto.int | with_reducible apply Sto.there | with_reducible assumption | (unfold I64; omega) | (with_reducible (have hMx := Mem.undrew hM; exact hMx)) | (with_reducible (have hMx := Mem.undrew hMp; exact hMx))))
theorem fromPhase_get {q : Int} {n k : Nat} (hk : k < n) : (fromPhase q n).getD k PhaseI.zero = ⟨q + 2 * k, q + 2 * k + 1⟩ := by
  simp [fromPhase, List.getD, hk]
set_option maxRecDepth 100000 in
set_option maxHeartbeats 4000000 in
theorem heldPhaseS_any (a : Option Addr) (n c : Nat) (q : Int) (w : World) (h : Rd FPhase w a n c (fromPhase q n)) (hq : 0 ≤ q ∧ q ≤ 100000000000000000) :
    Calls Try.prog 33 #[.slice a n c, .int .i64 q] w fun e w' => e = .returned (.int .i64 (q + 2 * n)) ∧ w = w' := by
  have hrm := h.nroom
  go_enter Try.func33, Try.ntmps33
  go_wp2
  go_loop [1, 5] (fun v i => ∃ k : Nat, k ≤ n ∧ i = .int .i64 k ∧ v = .int .i64 (q + 2 * k)) (fun _ i => n - (intOf i).toNat)
  case atStart => exact ⟨0, Nat.zero_le _, rfl, by simp⟩
  case round =>
    obtain ⟨k, hk, rfl, rfl⟩ := hrel
    by_cases hlt : k < n
    · obtain ⟨bl, offl, rfl, -, -⟩ := h.at' _ hlt
      obtain ⟨-, hc0, hc1⟩ := h.cellPhase hlt
      rw [fromPhase_get hlt] at hc0 hc1
      dsimp only at hc0 hc1
      have i0 : (0 : Int) ≤ (k : Int) := by omega
      have i1 : (k : Int) < (n : Int) := by omega
      have e1 : ((q + 2 * (k : Int)) != (q + 2 * (k : Int))) = false := by simp
      have hw1 : IntKind.i64.wrap (q + 2 * (k : Int) + 1) = q + 2 * (k : Int) + 1 := wrap_in (by omega)
      have e2 : ((q + 2 * (k : Int) + 1) != (q + 2 * (k : Int) + 1)) = false := by simp
      have hw2 : IntKind.i64.wrap (q + 2 * (k : Int) + 1 + 1) = q + 2 * (k : Int) + 1 + 1 := wrap_in (by omega)
      go_wp2
      go_round
      case rel => exact ⟨k + 1, by omega, by go_num, by go_num⟩
      case measure => simp [intOf]; omega
    · obtain rfl : k = n := by omega
      go_wp2
      go_ret
      exact ⟨rfl, rfl⟩
set_option maxRecDepth 100000 in
set_option maxHeartbeats 4000000 in
theorem heldConsole_any (W H : Int) (a1 : Option Addr) (n1 c1 : Nat) (a2 : Option Addr) (n2 c2 : Nat) (a3 : Option Addr) (n3 c3 : Nat) (t : Int) (a4 : Option Addr) (n4 c4 : Nat) (a5 : Option Addr) (n5 c5 : Nat) (du pe : ByteArray) (ct q : Int) (w : World)
    (h1 : Ints w a1 n1 c1 (fromI q n1)) (h2 : Ints w a2 n2 c2 (fromI (q + n1) n2)) (h3 : Ints w a3 n3 c3 (fromI (q + n1 + n2) n3)) (h4 : Rd FPhase w a4 n4 c4 (fromPhase (q + n1 + n2 + n3) n4)) (h5 : Ints w a5 n5 c5 (fromI (q + n1 + n2 + n3 + 2 * n4) n5)) (hq : 0 ≤ q ∧ q ≤ 10000000000000000) :
    Calls Try.prog 19 #[conV W H a1 n1 c1 a2 n2 c2 a3 n3 c3 t a4 n4 c4 a5 n5 c5 du pe ct, .int .i64 q] w fun e w' => e = .returned (.int .i64 (q + n1 + n2 + n3 + 2 * n4 + n5)) ∧ Below w.heap.size w w' := by
  obtain ⟨q0, q1⟩ := hq
  have r1 := h1.room
  have r2 := h2.room
  have r3 := h3.room
  have r4 := h4.nroom
  have r5 := h5.room
  have hM := Mem.start w
  go_enter Try.func19, Try.ntmps19
  go_wp2_with fail
  apply Mem.atA
  · (repeat' (first | with_reducible exact hM | with_reducible exact hMp | with_reducible apply Mem.drew | with_reducible apply Mem.drewN | with_reducible apply Mem.alloc | with_reducible apply Mem.set | with_reducible exact Sto.row | ((with_reducible refine Sto.rowEq2 ?_ ?_); omega; rfl) | ((with_reducible refine Sto.rowEq ?_); omega) | with_reducible apply Sto.int | with_reducible apply Sto.there | with_reducible assumption | (unfold I64; omega) | (with_reducible (have hMx := Mem.undrew hM; exact hMx)) | (with_reducible (have hMx := Mem.undrew hMp; exact hMx))))
  clear hM
  intro wst hM
  (try simp only [World.size_alloc, World.size_setCell, World.heap_drewN, heapDrew, Nat.add_assoc, Nat.reduceAdd, List.setIfInBounds_toArray, List.set_cons_zero, List.set_cons_succ, List.cons_append, List.nil_append] at hM)
  (first | refine (heldIncident_any W H a1 n1 c1 a2 n2 c2 a3 n3 c3 t q _ (h1.ext hM.below) (h2.ext hM.below) (h3.ext hM.below) ⟨q0, by omega⟩).mono ?_)
  rintro e wc5 ⟨rfl, hb⟩
  replace hM := hM.ext hb
  clear hb
  obtain ⟨k0, f0, l0⟩ := hM.row .here
  go_wp2_with fail
  clear k0 f0 l0
  apply Mem.atA
  · (repeat' (first | with_reducible exact hM | with_reducible exact hMp | with_reducible apply Mem.drew | with_reducible apply Mem.drewN | with_reducible apply Mem.alloc | with_reducible apply Mem.set | with_reducible exact Sto.row | ((with_reducible refine Sto.rowEq2 ?_ ?_); omega; rfl) | ((with_reducible refine Sto.rowEq ?_); omega) | with_reducible apply Sto.int | with_reducible apply Sto.there | with_reducible assumption | (unfold I64; omega) | (with_reducible (have hMx := Mem.undrew hM; exact hMx)) | (with_reducible (have hMx := Mem.undrew hMp; exact hMx))))
  clear hM
  intro wst hM
  (try simp only [World.size_alloc, World.size_setCell, World.heap_drewN, heapDrew, Nat.add_assoc, Nat.reduceAdd, List.setIfInBounds_toArray, List.set_cons_zero, List.set_cons_succ, List.cons_append, List.nil_append] at hM)
  (first | refine (heldPhaseS_any a4 n4 c4 (q + n1 + n2 + n3) _ (h4.ext hM.below) ⟨by omega, by omega⟩).mono ?_)
  rintro e wc6 ⟨rfl, rfl⟩
  obtain ⟨k0, f0, l0⟩ := hM.row .here
  go_wp2_with fail
  clear k0 f0 l0
  apply Mem.atA
  · (repeat' (first | with_reducible exact hM | with_reducible exact hMp | with_reducible apply Mem.drew | with_reducible apply Mem.drewN | with_reducible apply Mem.alloc | with_reducible apply Mem.set | with_reducible exact Sto.row | ((with_reducible refine Sto.rowEq2 ?_ ?_); omega; rfl) | ((with_reducible refine Sto.rowEq ?_); omega) | with_reducible apply Sto.int | with_reducible apply Sto.there | with_reducible assumption | (unfold I64; omega) | (with_reducible (have hMx := Mem.undrew hM; exact hMx)) | (with_reducible (have hMx := Mem.undrew hMp; exact hMx))))
  clear hM
  intro wst hM
  (try simp only [World.size_alloc, World.size_setCell, World.heap_drewN, heapDrew, Nat.add_assoc, Nat.reduceAdd, List.setIfInBounds_toArray, List.set_cons_zero, List.set_cons_succ, List.cons_append, List.nil_append] at hM)
  refine (heldIntS_any _ _ _ _ (q + n1 + n2 + n3 + 2 * n4) _ (h5.ext hM.below) ⟨by omega, by omega⟩).mono ?_
  rw [heldF_fromI]
  rintro e w3 ⟨rfl, rfl⟩
  go_wp2
  go_ret
  exact ⟨rfl, (by apply Mem.below; (repeat' (first | with_reducible exact hM | with_reducible exact hMp | with_reducible apply Mem.drew | with_reducible apply Mem.drewN | with_reducible apply Mem.alloc | with_reducible apply Mem.set | with_reducible exact Sto.row | ((with_reducible refine Sto.rowEq2 ?_ ?_); omega; rfl) | ((with_reducible refine Sto.rowEq ?_); omega) | with_reducible apply Sto.int | with_reducible apply Sto.there | with_reducible assumption | (unfold I64; omega) | (with_reducible (have hMx := Mem.undrew hM; exact hMx)) | (with_reducible (have hMx := Mem.undrew hMp; exact hMx)))))⟩
set_option maxRecDepth 100000 in
set_option maxHeartbeats 4000000 in
theorem copyPhase_any (a : Option Addr) (n c : Nat) (ph : List PhaseI) (w : World) (h : Rd FPhase w a n c ph) :
    Calls Try.prog 27 #[.slice a n c] w fun e w' => ∃ a' c', e = .returned (.slice a' n c') ∧ Mem w.heap.size w w' [owE FPhase 55 a' n c' ph] := by
  have hM := Mem.start w
  have hr : n * 2 ≤ 17592186044416 := h.room
  obtain ⟨i0, hi, hz0, hz1, hz2⟩ := info_parts Try.info55
  go_enter Try.func27, Try.ntmps27
  go_wp2_with (at_builtin; apply Mem.atL; (focus ((repeat' (first | with_reducible exact hM | with_reducible exact hMp | with_reducible apply Mem.drew | with_reducible apply Mem.drewN | with_reducible apply Mem.alloc | with_reducible apply Mem.set | with_reducible exact Sto.row | ((with_reducible refine Sto.rowEq2 ?_ ?_); omega; rfl) | ((with_reducible refine Sto.rowEq ?_); omega) | with_reducible apply Sto.int | with_reducible apply Sto.there | with_reducible assumption | (unfold I64; omega) | (with_reducible (have hMx := Mem.undrew hM; exact hMx)) | (with_reducible (have hMx := Mem.undrew hMp; exact hMx)))); done)); clear hM; intro hM; refine wpList_appRM (F := FPhase) (Mem.toOwR hM) (fun _ => .here) (h.ext hM.below) (by show (0 + n) * 2 ≤ _; omega) i0 (.agg #[.int .i64 0, .int .i64 0]) 16 hi hz0 hz1 hz2 rfl (by omega) rfl _ _ _ Try.underlying31 rfl rfl rfl ?_)
  intro a' c' w' hM
  go_wp2
  go_ret
  exact ⟨a', c', by first | rfl | rw [Nat.zero_add], hM⟩
end Go.Proofs.Ytojfbcgfeojdfaa
