/-
  The functions over logs: recovery, appending, the records.
-/
import Derived.Test.YtkpicemjiokdpaaDoorLogF
namespace Go.Proofs.YtkpicemjiokdpaaDoor
set_option linter.unusedSimpArgs false
set_option linter.unusedVariables false
open Go.RowKit

set_option maxRecDepth 100000 in
set_option maxHeartbeats 8000000 in
theorem implRecover_any (l : Bs) (w : World) (ht : Tab w) (hl : l.length ≤ 4194304) :
    Calls Tryd.prog 19 #[.string (bsA l)] w fun e w' => e = .returned (recoverV l) ∧ Below w.heap.size w w' := by
  have hM := Mem.start w
  have HT := Lib.hid ht; clear ht
  have S1 := bsA_size
  by_cases h1 : l.length ≤ 30000
  rotate_left
  · have HR := Lib.hid (show recoverV l = .tuple #[logV [] [] 0, .int .i64 0, .bool false] by rw [recoverV, if_neg h1])
    go_enter Tryd.func19, Tryd.ntmps19
    go_wp2_with fail
    refine bodyPost_ret (v := .tuple #[.agg #[.string ⟨#[]⟩, .string ⟨#[]⟩, .int .i64 0], .int .i64 0, .bool false]) (by simp [results, Tryd.results19, go_sem, HR]) rfl ⟨by rw [HR.out]; rfl, (by apply Mem.below; (repeat' (first | with_reducible exact hM | with_reducible exact hMp | with_reducible apply Mem.drew | with_reducible apply Mem.drewN | with_reducible apply Mem.alloc | with_reducible apply Mem.set | with_reducible exact Sto.row | ((with_reducible refine Sto.rowEq2 ?_ ?_); omega; rfl) | ((with_reducible refine Sto.rowEq ?_); omega) | with_reducible apply Sto.int | with_reducible apply Sto.there | with_reducible assumption | (unfold I64; omega) | (with_reducible (have hMx := Mem.undrew hM; exact hMx)) | (with_reducible (have hMx := Mem.undrew hMp; exact hMx)))))⟩
  have HR := Lib.hid (show recoverV l = _ by rw [recoverV, if_pos h1])
  have hle := endB_le l
  have HE := Lib.hid (ends_bound (openB l) l rfl hl)
  have hrl := (open_pre l).2.2
  go_enter Tryd.func19, Tryd.ntmps19
  go_wp2_with fail
  apply Mem.atA
  · (repeat' (first | with_reducible exact hM | with_reducible exact hMp | with_reducible apply Mem.drew | with_reducible apply Mem.drewN | with_reducible apply Mem.alloc | with_reducible apply Mem.set | with_reducible exact Sto.row | ((with_reducible refine Sto.rowEq2 ?_ ?_); omega; rfl) | ((with_reducible refine Sto.rowEq ?_); omega) | with_reducible apply Sto.int | with_reducible apply Sto.there | with_reducible assumption | (unfold I64; omega) | (with_reducible (have hMx := Mem.undrew hM; exact hMx)) | (with_reducible (have hMx := Mem.undrew hMp; exact hMx))))
  clear hM
  intro wst hM
  (try simp only [World.size_alloc, World.size_setCell, World.heap_drewN, heapDrew, Nat.add_assoc, Nat.reduceAdd, List.setIfInBounds_toArray, List.set_cons_zero, List.set_cons_succ, List.cons_append, List.nil_append] at hM)
  refine (read_any l _ (HT.out.ext hM.below) hl).mono ?_
  rintro e wc1 ⟨a1, c1, a2, c2, rfl, hm⟩
  replace hM := hM.join hm
  clear hm
  (try simp only [World.size_alloc, World.size_setCell, World.heap_drewN, heapDrew, Nat.add_assoc, Nat.reduceAdd, List.setIfInBounds_toArray, List.set_cons_zero, List.set_cons_succ, List.cons_append, List.nil_append] at hM)
  have E1 : (bsA l).extract 0 (endB (openB l)) = bsA (l.take (endB (openB l))) := bsA_to l _
  generalize l.take (endB (openB l)) = t at HR E1
  generalize openB l = rs at HR hM HE hle hrl E1 ⊢
  have hsl := startsB_length rs
  have HSE := Lib.hid (starts_ends rs)
  have HSL := Lib.hid (starts_last rs)
  generalize endB rs = n at HR hle E1 HSL ⊢
  have g1 : (0 : Int) ≤ (n : Int) ∧ (n : Int) ≤ (l.length : Int) := ⟨by omega, by omega⟩
  obtain ⟨i0, hi, hz0, hz1, hz2⟩ := info_parts Tryd.info3
  go_wp2_with (at_builtin; apply Mem.atL; (focus ((repeat' (first | with_reducible exact hM | with_reducible exact hMp | with_reducible apply Mem.drew | with_reducible apply Mem.drewN | with_reducible apply Mem.alloc | with_reducible apply Mem.set | with_reducible exact Sto.row | ((with_reducible refine Sto.rowEq2 ?_ ?_); omega; rfl) | ((with_reducible refine Sto.rowEq ?_); omega) | with_reducible apply Sto.int | with_reducible apply Sto.there | with_reducible assumption | (unfold I64; omega) | (with_reducible (have hMx := Mem.undrew hM; exact hMx)) | (with_reducible (have hMx := Mem.undrew hMp; exact hMx)))); done)); clear hM; intro hM; (try simp only [World.size_alloc, World.size_setCell, World.heap_drewN, heapDrew, Nat.add_assoc, Nat.reduceAdd, List.setIfInBounds_toArray, List.set_cons_zero, List.set_cons_succ, List.cons_append, List.nil_append] at hM); replace hM := hM.toInts (xs := [0]) .here rfl i64_zero (by simp); refine wpList_appendI rfl (.tmp 17) (.tmp 18) 75 rfl 3 i0 Tryd.underlying75 hi hz0 hz1 hz2 w.heap.size _ 1 1 [0] rfl (hM.ints .here).row a2 rs.length c2 (endsB rs) rfl (hM.intsR (.there (.there .here))) ?c2 hM.size ?_)
  case c2 => omega
  intro a3 c3 w3 hrow hg hbl
  rw [← HSE.out] at hrow
  obtain ⟨m, hm⟩ : ∃ m, 1 + rs.length = m := ⟨_, rfl⟩
  rw [hm] at hrow ⊢
  have hO : Own w.heap.size w3 a3 m c3 (startsB rs) := ⟨by omega, by omega, fun x hx => by have := HE.out x hx; unfold I64; omega, hrow⟩
  replace hM := hM.appended .here hO hg (fun k hk => by simpa using hbl k hk)
  clear hO hrow hg hbl
  have hI := hM.intsR .here
  obtain ⟨b3, off3, rfl, hb3, hcell⟩ := hI.at' rs.length (by omega)
  clear hI
  have hck := hcell rs.length (by omega)
  rw [HSL.out] at hck
  have i1 : (rs.length : Int) < (m : Int) := by omega
  clear hcell
  obtain ⟨k3, f3, l3⟩ := hM.row (.there (.there (.there .here)))
  go_wp2
  refine bodyPost_ret (v := .tuple #[.agg #[.string (bsA t), .string ⟨#[]⟩, .int .i64 rs.length], .int .i64 n, .bool true]) (by simp [results, Tryd.results19, go_sem, k3]) rfl ⟨by rw [HR.out]; rfl, (by apply Mem.below; (repeat' (first | with_reducible exact hM | with_reducible exact hMp | with_reducible apply Mem.drew | with_reducible apply Mem.drewN | with_reducible apply Mem.alloc | with_reducible apply Mem.set | with_reducible exact Sto.row | ((with_reducible refine Sto.rowEq2 ?_ ?_); omega; rfl) | ((with_reducible refine Sto.rowEq ?_); omega) | with_reducible apply Sto.int | with_reducible apply Sto.there | with_reducible assumption | (unfold I64; omega) | (with_reducible (have hMx := Mem.undrew hM; exact hMx)) | (with_reducible (have hMx := Mem.undrew hMp; exact hMx)))))⟩

/-- the line of an appended record -/
theorem app_parts {D P : Bs} {c : Int} (h : okI D P c = true) : ∃ k : Nat, c = k ∧ k ≤ 60 ∧ P.length ≤ 24240 ∧ D.length ≤ 24240 := by
  obtain ⟨h1, h2, h3, h4⟩ := ok_open h
  rw [List.length_append] at h4
  exact ⟨_, h2, h1, by omega, by omega⟩

set_option maxRecDepth 100000 in
set_option maxHeartbeats 8000000 in
theorem implApp_any (D P : Bs) (c : Int) (q r : Bs) (w : World) (ht : Tab w) (hl : D.length + P.length ≤ 4194304) :
    Calls Tryd.prog 30 #[logV D P c, .agg #[.string (bsA q), .string (bsA r)]] w fun e w' => e = .returned (appV D P c ⟨q, r⟩) ∧ Below w.heap.size w w' := by
  have hM := Mem.start w
  have HT := Lib.hid ht; clear ht
  have S1 := bsA_size
  have S2 := bsA_app
  cases h1 : okI D P c
  · have HR := Lib.hid (show appV D P c ⟨q, r⟩ = .tuple #[logV D P c, .int .i64 1] by rw [appV, h1]; rfl)
    have H1 := Lib.hid h1; clear h1
    go_enter Tryd.func30, Tryd.ntmps30
    go_wp2_with fail
    apply Mem.atA
    · (repeat' (first | with_reducible exact hM | with_reducible exact hMp | with_reducible apply Mem.drew | with_reducible apply Mem.drewN | with_reducible apply Mem.alloc | with_reducible apply Mem.set | with_reducible exact Sto.row | ((with_reducible refine Sto.rowEq2 ?_ ?_); omega; rfl) | ((with_reducible refine Sto.rowEq ?_); omega) | with_reducible apply Sto.int | with_reducible apply Sto.there | with_reducible assumption | (unfold I64; omega) | (with_reducible (have hMx := Mem.undrew hM; exact hMx)) | (with_reducible (have hMx := Mem.undrew hMp; exact hMx))))
    clear hM
    intro wst hM
    (try simp only [World.size_alloc, World.size_setCell, World.heap_drewN, heapDrew, Nat.add_assoc, Nat.reduceAdd, List.setIfInBounds_toArray, List.set_cons_zero, List.set_cons_succ, List.cons_append, List.nil_append] at hM)
    refine (implValid_b H1.out (HT.out.ext hM.below) hl).mono ?_
    rintro e wc2 ⟨rfl, hb⟩
    replace hM := hM.ext hb
    clear hb
    obtain ⟨k0, f0, l0⟩ := hM.row .here
    obtain ⟨k2, f2, l2⟩ := hM.row (.there (.there .here))
    go_wp2
    refine bodyPost_ret (v := .tuple #[.agg #[.string (bsA D), .string (bsA P), .int .i64 c], .int .i64 1]) (by simp [results, Tryd.results30, go_sem, k0, k2]) rfl ⟨by rw [HR.out], (by apply Mem.below; (repeat' (first | with_reducible exact hM | with_reducible exact hMp | with_reducible apply Mem.drew | with_reducible apply Mem.drewN | with_reducible apply Mem.alloc | with_reducible apply Mem.set | with_reducible exact Sto.row | ((with_reducible refine Sto.rowEq2 ?_ ?_); omega; rfl) | ((with_reducible refine Sto.rowEq ?_); omega) | with_reducible apply Sto.int | with_reducible apply Sto.there | with_reducible assumption | (unfold I64; omega) | (with_reducible (have hMx := Mem.undrew hM; exact hMx)) | (with_reducible (have hMx := Mem.undrew hMp; exact hMx)))))⟩
  obtain ⟨k, rfl, hk, hp1, hp2⟩ := app_parts h1
  cases h2 : okB ⟨q, r⟩
  · have HR := Lib.hid (show appV D P k ⟨q, r⟩ = .tuple #[logV D P k, .int .i64 1] by rw [appV, h1, h2]; rfl)
    have H1 := Lib.hid h1; clear h1
    have H2 := Lib.hid h2; clear h2
    go_enter Tryd.func30, Tryd.ntmps30
    go_wp2_with fail
    apply Mem.atA
    · (repeat' (first | with_reducible exact hM | with_reducible exact hMp | with_reducible apply Mem.drew | with_reducible apply Mem.drewN | with_reducible apply Mem.alloc | with_reducible apply Mem.set | with_reducible exact Sto.row | ((with_reducible refine Sto.rowEq2 ?_ ?_); omega; rfl) | ((with_reducible refine Sto.rowEq ?_); omega) | with_reducible apply Sto.int | with_reducible apply Sto.there | with_reducible assumption | (unfold I64; omega) | (with_reducible (have hMx := Mem.undrew hM; exact hMx)) | (with_reducible (have hMx := Mem.undrew hMp; exact hMx))))
    clear hM
    intro wst hM
    (try simp only [World.size_alloc, World.size_setCell, World.heap_drewN, heapDrew, Nat.add_assoc, Nat.reduceAdd, List.setIfInBounds_toArray, List.set_cons_zero, List.set_cons_succ, List.cons_append, List.nil_append] at hM)
    refine (implValid_b H1.out (HT.out.ext hM.below) hl).mono ?_
    rintro e wc3 ⟨rfl, hb⟩
    replace hM := hM.ext hb
    clear hb
    obtain ⟨k1, f1, l1⟩ := hM.row (.there .here)
    go_wp2_with fail
    clear k1 f1 l1
    apply Mem.atA
    · (repeat' (first | with_reducible exact hM | with_reducible exact hMp | with_reducible apply Mem.drew | with_reducible apply Mem.drewN | with_reducible apply Mem.alloc | with_reducible apply Mem.set | with_reducible exact Sto.row | ((with_reducible refine Sto.rowEq2 ?_ ?_); omega; rfl) | ((with_reducible refine Sto.rowEq ?_); omega) | with_reducible apply Sto.int | with_reducible apply Sto.there | with_reducible assumption | (unfold I64; omega) | (with_reducible (have hMx := Mem.undrew hM; exact hMx)) | (with_reducible (have hMx := Mem.undrew hMp; exact hMx))))
    clear hM
    intro wst hM
    (try simp only [World.size_alloc, World.size_setCell, World.heap_drewN, heapDrew, Nat.add_assoc, Nat.reduceAdd, List.setIfInBounds_toArray, List.set_cons_zero, List.set_cons_succ, List.cons_append, List.nil_append] at hM)
    apply Calls.mono
    · (apply isValidRecord_any) <;> (first | (show (_ : Prop); with_reducible assumption) | (apply Hid.out; with_reducible assumption) | (apply Mem.intsR hM; (repeat' (first | with_reducible exact In.here | with_reducible apply In.there)); done) | (apply Ints.ext (hb := hM.below); with_reducible assumption) | (apply Rd.ext (hb := hM.below); with_reducible assumption) | (apply Mem.row hM; (repeat' (first | with_reducible exact In.here | with_reducible apply In.there)); done) | (apply Row.ext (hb := hM.below); with_reducible assumption) | exact ⟨by omega, by omega⟩ | omega | (trace_state; fail))
    rw [H2.out]
    rintro e wc4 ⟨rfl, hb⟩
    replace hM := hM.ext hb
    clear hb
    obtain ⟨k0, f0, l0⟩ := hM.row .here
    obtain ⟨k2, f2, l2⟩ := hM.row (.there (.there .here))
    go_wp2
    refine bodyPost_ret (v := .tuple #[.agg #[.string (bsA D), .string (bsA P), .int .i64 k], .int .i64 1]) (by simp [results, Tryd.results30, go_sem, k0, k2]) rfl ⟨by rw [HR.out], (by apply Mem.below; (repeat' (first | with_reducible exact hM | with_reducible exact hMp | with_reducible apply Mem.drew | with_reducible apply Mem.drewN | with_reducible apply Mem.alloc | with_reducible apply Mem.set | with_reducible exact Sto.row | ((with_reducible refine Sto.rowEq2 ?_ ?_); omega; rfl) | ((with_reducible refine Sto.rowEq ?_); omega) | with_reducible apply Sto.int | with_reducible apply Sto.there | with_reducible assumption | (unfold I64; omega) | (with_reducible (have hMx := Mem.undrew hM; exact hMx)) | (with_reducible (have hMx := Mem.undrew hMp; exact hMx)))))⟩
  by_cases h3 : k = 60
  · subst h3
    have HR := Lib.hid (show appV D P (60 : Nat) ⟨q, r⟩ = .tuple #[logV D P (60 : Nat), .int .i64 2] by rw [appV, h1, h2]; rfl)
    have H1 := Lib.hid h1; clear h1
    have H2 := Lib.hid h2; clear h2
    go_enter Tryd.func30, Tryd.ntmps30
    go_wp2_with fail
    apply Mem.atA
    · (repeat' (first | with_reducible exact hM | with_reducible exact hMp | with_reducible apply Mem.drew | with_reducible apply Mem.drewN | with_reducible apply Mem.alloc | with_reducible apply Mem.set | with_reducible exact Sto.row | ((with_reducible refine Sto.rowEq2 ?_ ?_); omega; rfl) | ((with_reducible refine Sto.rowEq ?_); omega) | with_reducible apply Sto.int | with_reducible apply Sto.there | with_reducible assumption | (unfold I64; omega) | (with_reducible (have hMx := Mem.undrew hM; exact hMx)) | (with_reducible (have hMx := Mem.undrew hMp; exact hMx))))
    clear hM
    intro wst hM
    (try simp only [World.size_alloc, World.size_setCell, World.heap_drewN, heapDrew, Nat.add_assoc, Nat.reduceAdd, List.setIfInBounds_toArray, List.set_cons_zero, List.set_cons_succ, List.cons_append, List.nil_append] at hM)
    refine (implValid_b H1.out (HT.out.ext hM.below) hl).mono ?_
    rintro e wc5 ⟨rfl, hb⟩
    replace hM := hM.ext hb
    clear hb
    obtain ⟨k1, f1, l1⟩ := hM.row (.there .here)
    go_wp2_with fail
    clear k1 f1 l1
    apply Mem.atA
    · (repeat' (first | with_reducible exact hM | with_reducible exact hMp | with_reducible apply Mem.drew | with_reducible apply Mem.drewN | with_reducible apply Mem.alloc | with_reducible apply Mem.set | with_reducible exact Sto.row | ((with_reducible refine Sto.rowEq2 ?_ ?_); omega; rfl) | ((with_reducible refine Sto.rowEq ?_); omega) | with_reducible apply Sto.int | with_reducible apply Sto.there | with_reducible assumption | (unfold I64; omega) | (with_reducible (have hMx := Mem.undrew hM; exact hMx)) | (with_reducible (have hMx := Mem.undrew hMp; exact hMx))))
    clear hM
    intro wst hM
    (try simp only [World.size_alloc, World.size_setCell, World.heap_drewN, heapDrew, Nat.add_assoc, Nat.reduceAdd, List.setIfInBounds_toArray, List.set_cons_zero, List.set_cons_succ, List.cons_append, List.nil_append] at hM)
    apply Calls.mono
    · (apply isValidRecord_any) <;> (first | (show (_ : Prop); with_reducible assumption) | (apply Hid.out; with_reducible assumption) | (apply Mem.intsR hM; (repeat' (first | with_reducible exact In.here | with_reducible apply In.there)); done) | (apply Ints.ext (hb := hM.below); with_reducible assumption) | (apply Rd.ext (hb := hM.below); with_reducible assumption) | (apply Mem.row hM; (repeat' (first | with_reducible exact In.here | with_reducible apply In.there)); done) | (apply Row.ext (hb := hM.below); with_reducible assumption) | exact ⟨by omega, by omega⟩ | omega | (trace_state; fail))
    rw [H2.out]
    rintro e wc6 ⟨rfl, hb⟩
    replace hM := hM.ext hb
    clear hb
    obtain ⟨k0, f0, l0⟩ := hM.row .here
    obtain ⟨k2, f2, l2⟩ := hM.row (.there (.there .here))
    go_wp2
    refine bodyPost_ret (v := .tuple #[.agg #[.string (bsA D), .string (bsA P), .int .i64 (60 : Nat)], .int .i64 2]) (by simp [results, Tryd.results30, go_sem, k0, k2]) rfl ⟨by rw [HR.out], (by apply Mem.below; (repeat' (first | with_reducible exact hM | with_reducible exact hMp | with_reducible apply Mem.drew | with_reducible apply Mem.drewN | with_reducible apply Mem.alloc | with_reducible apply Mem.set | with_reducible exact Sto.row | ((with_reducible refine Sto.rowEq2 ?_ ?_); omega; rfl) | ((with_reducible refine Sto.rowEq ?_); omega) | with_reducible apply Sto.int | with_reducible apply Sto.there | with_reducible assumption | (unfold I64; omega) | (with_reducible (have hMx := Mem.undrew hM; exact hMx)) | (with_reducible (have hMx := Mem.undrew hMp; exact hMx)))))⟩
  have hk59 : k ≤ 59 := by omega
  have hkn : ((k : Int) == 60) = false := by simp; omega
  have hll := (line_len h2 hk59).1
  have HR := Lib.hid (show appV D P k ⟨q, r⟩ = .tuple #[logV D (P ++ lineB k ⟨q, r⟩) (k + 1), .int .i64 0] by rw [appV, h1, h2, hkn]; rfl)
  have HE := Lib.hid (show encB k ⟨q, r⟩ = true by rw [encB, h2, inB, decide_eq_true ⟨by omega, by omega⟩]; rfl)
  have HL := Lib.hid (show encL k ⟨q, r⟩ = lineB k ⟨q, r⟩ by rw [encL, HE.out]; rfl)
  have H1 := Lib.hid h1; clear h1
  have H2 := Lib.hid h2; clear h2
  have hcat : ¬ 9223372036854775807 < P.length + (lineB k ⟨q, r⟩).length := by omega
  have hw : IntKind.i64.wrap ((k : Int) + 1) = (k : Int) + 1 := wrap_in (by omega)
  clear h3
  generalize lineB k ⟨q, r⟩ = ln at hll HR HL hcat
  go_enter Tryd.func30, Tryd.ntmps30
  go_wp2_with fail
  apply Mem.atA
  · (repeat' (first | with_reducible exact hM | with_reducible exact hMp | with_reducible apply Mem.drew | with_reducible apply Mem.drewN | with_reducible apply Mem.alloc | with_reducible apply Mem.set | with_reducible exact Sto.row | ((with_reducible refine Sto.rowEq2 ?_ ?_); omega; rfl) | ((with_reducible refine Sto.rowEq ?_); omega) | with_reducible apply Sto.int | with_reducible apply Sto.there | with_reducible assumption | (unfold I64; omega) | (with_reducible (have hMx := Mem.undrew hM; exact hMx)) | (with_reducible (have hMx := Mem.undrew hMp; exact hMx))))
  clear hM
  intro wst hM
  (try simp only [World.size_alloc, World.size_setCell, World.heap_drewN, heapDrew, Nat.add_assoc, Nat.reduceAdd, List.setIfInBounds_toArray, List.set_cons_zero, List.set_cons_succ, List.cons_append, List.nil_append] at hM)
  refine (implValid_b H1.out (HT.out.ext hM.below) hl).mono ?_
  rintro e wc7 ⟨rfl, hb⟩
  replace hM := hM.ext hb
  clear hb
  obtain ⟨k1, f1, l1⟩ := hM.row (.there .here)
  go_wp2_with fail
  clear k1 f1 l1
  apply Mem.atA
  · (repeat' (first | with_reducible exact hM | with_reducible exact hMp | with_reducible apply Mem.drew | with_reducible apply Mem.drewN | with_reducible apply Mem.alloc | with_reducible apply Mem.set | with_reducible exact Sto.row | ((with_reducible refine Sto.rowEq2 ?_ ?_); omega; rfl) | ((with_reducible refine Sto.rowEq ?_); omega) | with_reducible apply Sto.int | with_reducible apply Sto.there | with_reducible assumption | (unfold I64; omega) | (with_reducible (have hMx := Mem.undrew hM; exact hMx)) | (with_reducible (have hMx := Mem.undrew hMp; exact hMx))))
  clear hM
  intro wst hM
  (try simp only [World.size_alloc, World.size_setCell, World.heap_drewN, heapDrew, Nat.add_assoc, Nat.reduceAdd, List.setIfInBounds_toArray, List.set_cons_zero, List.set_cons_succ, List.cons_append, List.nil_append] at hM)
  apply Calls.mono
  · (apply isValidRecord_any) <;> (first | (show (_ : Prop); with_reducible assumption) | (apply Hid.out; with_reducible assumption) | (apply Mem.intsR hM; (repeat' (first | with_reducible exact In.here | with_reducible apply In.there)); done) | (apply Ints.ext (hb := hM.below); with_reducible assumption) | (apply Rd.ext (hb := hM.below); with_reducible assumption) | (apply Mem.row hM; (repeat' (first | with_reducible exact In.here | with_reducible apply In.there)); done) | (apply Row.ext (hb := hM.below); with_reducible assumption) | exact ⟨by omega, by omega⟩ | omega | (trace_state; fail))
  rw [H2.out]
  rintro e wc8 ⟨rfl, hb⟩
  replace hM := hM.ext hb
  clear hb
  obtain ⟨k1, f1, l1⟩ := hM.row (.there .here)
  obtain ⟨k2, f2, l2⟩ := hM.row (.there (.there .here))
  go_wp2_with fail
  clear k1 f1 l1 k2 f2 l2
  apply Mem.atA
  · (repeat' (first | with_reducible exact hM | with_reducible exact hMp | with_reducible apply Mem.drew | with_reducible apply Mem.drewN | with_reducible apply Mem.alloc | with_reducible apply Mem.set | with_reducible exact Sto.row | ((with_reducible refine Sto.rowEq2 ?_ ?_); omega; rfl) | ((with_reducible refine Sto.rowEq ?_); omega) | with_reducible apply Sto.int | with_reducible apply Sto.there | with_reducible assumption | (unfold I64; omega) | (with_reducible (have hMx := Mem.undrew hM; exact hMx)) | (with_reducible (have hMx := Mem.undrew hMp; exact hMx))))
  clear hM
  intro wst hM
  (try simp only [World.size_alloc, World.size_setCell, World.heap_drewN, heapDrew, Nat.add_assoc, Nat.reduceAdd, List.setIfInBounds_toArray, List.set_cons_zero, List.set_cons_succ, List.cons_append, List.nil_append] at hM)
  refine (encode_any (k : Int) q r _ (HT.out.ext hM.below)).mono ?_
  rw [HE.out]
  rw [HL.out]
  rintro e wc9 ⟨rfl, hb⟩
  replace hM := hM.ext hb
  clear hb
  obtain ⟨k0, f0, l0⟩ := hM.row .here
  obtain ⟨k2, f2, l2⟩ := hM.row (.there (.there .here))
  go_wp2
  refine bodyPost_ret (v := .tuple #[.agg #[.string (bsA D), .string (bsA (P ++ ln)), .int .i64 ((k : Int) + 1)], .int .i64 0]) (by simp [results, Tryd.results30, go_sem, k0, k2]) rfl ⟨by rw [HR.out], (by apply Mem.below; (repeat' (first | with_reducible exact hM | with_reducible exact hMp | with_reducible apply Mem.drew | with_reducible apply Mem.drewN | with_reducible apply Mem.alloc | with_reducible apply Mem.set | with_reducible exact Sto.row | ((with_reducible refine Sto.rowEq2 ?_ ?_); omega; rfl) | ((with_reducible refine Sto.rowEq ?_); omega) | with_reducible apply Sto.int | with_reducible apply Sto.there | with_reducible assumption | (unfold I64; omega) | (with_reducible (have hMx := Mem.undrew hM; exact hMx)) | (with_reducible (have hMx := Mem.undrew hMp; exact hMx)))))⟩
end Go.Proofs.YtkpicemjiokdpaaDoor
