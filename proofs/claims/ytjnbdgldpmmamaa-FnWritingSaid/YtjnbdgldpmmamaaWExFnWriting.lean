/-
  The law FnWriting, walked.
-/
import Derived.Test.YtjnbdgldpmmamaaWWritQ
import Derived.Test.YtjnbdgldpmmamaaWPairI
import Derived.Test.YtjnbdgldpmmamaaWOpCode
import Derived.Deep.DeepCutAuto
import Derived.BigRegion
/-
  The law FnWriting, walked.
-/
namespace Go.Proofs.Ytjnbdgldpmmamaa
set_option linter.unusedSimpArgs false
set_option linter.unusedVariables false
open Go.RowKit

set_option maxRecDepth 100000 in
set_option maxHeartbeats 16000000 in
theorem FnWriting_walk (a : Option Addr) (n cc : Nat) (l : List UInt8) (w : World) (hI : n ≤ maxLen ∧ (n ≤ 65536 → Rd FByt w a n cc l)) :
    Calls Try.prog 4 #[.slice a n cc] w fun e w' => e = .returned (.bool true) ∧ Below w.heap.size w w' := by
  have hM := Mem.start w
  have HI := Lib.hid hI.2
  clear hI
  go_enter Try.func4, Try.ntmps4
  go_wp2_with fail
  apply Mem.atA
  · (repeat' (first | with_reducible exact hM | with_reducible exact hMp | with_reducible apply Mem.drew | with_reducible apply Mem.drewN | with_reducible apply Mem.alloc | with_reducible apply Mem.set | with_reducible exact Sto.row | ((with_reducible refine Sto.rowEq2 ?_ ?_); omega; rfl) | ((with_reducible refine Sto.rowEq ?_); omega) | with_reducible apply Sto.int | with_reducible apply Sto.there | with_reducible assumption | (unfold I64; omega) | (with_reducible (have hMx := Mem.undrew hM; exact hMx)) | (with_reducible (have hMx := Mem.undrew hMp; exact hMx))))
  clear hM
  intro wst hM
  (try simp only [World.size_alloc, World.size_setCell, World.heap_drewN, heapDrew, Nat.add_assoc, Nat.reduceAdd, List.setIfInBounds_toArray, List.set_cons_zero, List.set_cons_succ, List.cons_append, List.nil_append] at hM)
  (first | refine (vBig_any a n cc _).mono ?_)
  rintro e wc1 ⟨rfl, hb⟩
  replace hM := hM.ext hb
  clear hb
  by_cases hb : 65536 < n
  · go_wp2
    go_ret
    exact ⟨rfl, (by apply Mem.below; (repeat' (first | with_reducible exact hM | with_reducible exact hMp | with_reducible apply Mem.drew | with_reducible apply Mem.drewN | with_reducible apply Mem.alloc | with_reducible apply Mem.set | with_reducible exact Sto.row | ((with_reducible refine Sto.rowEq2 ?_ ?_); omega; rfl) | ((with_reducible refine Sto.rowEq ?_); omega) | with_reducible apply Sto.int | with_reducible apply Sto.there | with_reducible assumption | (unfold I64; omega) | (with_reducible (have hMx := Mem.undrew hM; exact hMx)) | (with_reducible (have hMx := Mem.undrew hMp; exact hMx)))))⟩
  have HC := Lib.hid (HI.out (by omega))
  clear HI
  go_wp2_with fail
  apply Mem.atA
  · (repeat' (first | with_reducible exact hM | with_reducible exact hMp | with_reducible apply Mem.drew | with_reducible apply Mem.drewN | with_reducible apply Mem.alloc | with_reducible apply Mem.set | with_reducible exact Sto.row | ((with_reducible refine Sto.rowEq2 ?_ ?_); omega; rfl) | ((with_reducible refine Sto.rowEq ?_); omega) | with_reducible apply Sto.int | with_reducible apply Sto.there | with_reducible assumption | (unfold I64; omega) | (with_reducible (have hMx := Mem.undrew hM; exact hMx)) | (with_reducible (have hMx := Mem.undrew hMp; exact hMx))))
  clear hM
  intro wst hM
  (try simp only [World.size_alloc, World.size_setCell, World.heap_drewN, heapDrew, Nat.add_assoc, Nat.reduceAdd, List.setIfInBounds_toArray, List.set_cons_zero, List.set_cons_succ, List.cons_append, List.nil_append] at hM)
  (first | refine (drawWrite_any (HC.out.ext hM.below)).mono ?_)
  rintro e w1 ⟨u, b1, o1, n1, c1, xs, un, wd, X, hu, hun, hwd, hf, hr, rfl, hm⟩
  replace hM := hM.join hm
  clear hm
  (try simp only [World.size_alloc, World.size_setCell, World.heap_drewN, heapDrew, Nat.add_assoc, Nat.reduceAdd, List.setIfInBounds_toArray, List.set_cons_zero, List.set_cons_succ, List.cons_append, List.nil_append] at hM)
  have HF := Lib.hid hf; have HR := Lib.hid hr
  have hwl : wd.length ≤ maxLen := by unfold maxLen; omega
  have BL := bsA_list
  clear hf hr hwd
  obtain ⟨v, hv⟩ : ∃ r, writeB u (coreN xs) un wd = r := ⟨_, rfl⟩
  obtain ⟨rv, hrv⟩ : ∃ r, writeR u (coreN xs) un wd = r := ⟨_, rfl⟩
  have HV := Lib.hid hv; have HRV := Lib.hid hrv
  clear hv hrv
  have hbb1 : (v != v) = false := by cases v <;> rfl
  go_wp2_with fail
  apply Mem.atA
  · (repeat' (first | with_reducible exact hM | with_reducible exact hMp | with_reducible apply Mem.drew | with_reducible apply Mem.drewN | with_reducible apply Mem.alloc | with_reducible apply Mem.set | with_reducible exact Sto.row | ((with_reducible refine Sto.rowEq2 ?_ ?_); omega; rfl) | ((with_reducible refine Sto.rowEq ?_); omega) | with_reducible apply Sto.int | with_reducible apply Sto.there | with_reducible assumption | (unfold I64; omega) | (with_reducible (have hMx := Mem.undrew hM; exact hMx)) | (with_reducible (have hMx := Mem.undrew hMp; exact hMx))))
  clear hM
  intro wst hM
  (try simp only [World.size_alloc, World.size_setCell, World.heap_drewN, heapDrew, Nat.add_assoc, Nat.reduceAdd, List.setIfInBounds_toArray, List.set_cons_zero, List.set_cons_succ, List.cons_append, List.nil_append] at hM)
  (first | refine (implWriteNote_any u _ n1 c1 xs un wd _ hu hun hwl (HR.out _ _ (hM.ents _ In.here.mem))).mono ?_)
  rw [HV.out]
  rw [HRV.out]
  rintro e w2 ⟨a3, c3, ys, hy, rfl, hm⟩
  replace hM := hM.join hm
  clear hm
  (try simp only [World.size_alloc, World.size_setCell, World.heap_drewN, heapDrew, Nat.add_assoc, Nat.reduceAdd, List.setIfInBounds_toArray, List.set_cons_zero, List.set_cons_succ, List.cons_append, List.nil_append] at hM)
  go_wp2_with fail
  apply Mem.atA
  · (repeat' (first | with_reducible exact hM | with_reducible exact hMp | with_reducible apply Mem.drew | with_reducible apply Mem.drewN | with_reducible apply Mem.alloc | with_reducible apply Mem.set | with_reducible exact Sto.row | ((with_reducible refine Sto.rowEq2 ?_ ?_); omega; rfl) | ((with_reducible refine Sto.rowEq ?_); omega) | with_reducible apply Sto.int | with_reducible apply Sto.there | with_reducible assumption | (unfold I64; omega) | (with_reducible (have hMx := Mem.undrew hM; exact hMx)) | (with_reducible (have hMx := Mem.undrew hMp; exact hMx))))
  clear hM
  intro wst hM
  (try simp only [World.size_alloc, World.size_setCell, World.heap_drewN, heapDrew, Nat.add_assoc, Nat.reduceAdd, List.setIfInBounds_toArray, List.set_cons_zero, List.set_cons_succ, List.cons_append, List.nil_append] at hM)
  (first | refine (specWriteNote_any u b1 o1 n1 c1 xs un wd _ hu hun hwl (HR.out _ _ (hM.ents _ (In.there .here).mem))).mono ?_)
  rw [HV.out]
  rw [HRV.out]
  rintro e w3 ⟨a4, c4, zs, hz, rfl, hm⟩
  replace hM := hM.join hm
  clear hm
  (try simp only [World.size_alloc, World.size_setCell, World.heap_drewN, heapDrew, Nat.add_assoc, Nat.reduceAdd, List.setIfInBounds_toArray, List.set_cons_zero, List.set_cons_succ, List.cons_append, List.nil_append] at hM)
  have HY := Lib.hid hy; have HZ := Lib.hid hz
  clear hy hz
  go_wp2_with fail
  apply Mem.atA
  · (repeat' (first | with_reducible exact hM | with_reducible exact hMp | with_reducible apply Mem.drew | with_reducible apply Mem.drewN | with_reducible apply Mem.alloc | with_reducible apply Mem.set | with_reducible exact Sto.row | ((with_reducible refine Sto.rowEq2 ?_ ?_); omega; rfl) | ((with_reducible refine Sto.rowEq ?_); omega) | with_reducible apply Sto.int | with_reducible apply Sto.there | with_reducible assumption | (unfold I64; omega) | (with_reducible (have hMx := Mem.undrew hM; exact hMx)) | (with_reducible (have hMx := Mem.undrew hMp; exact hMx))))
  clear hM
  intro wst hM
  (try simp only [World.size_alloc, World.size_setCell, World.heap_drewN, heapDrew, Nat.add_assoc, Nat.reduceAdd, List.setIfInBounds_toArray, List.set_cons_zero, List.set_cons_succ, List.cons_append, List.nil_append] at hM)
  (first | refine (vNotes_same _ _ _ ys _ _ _ zs _ (hM.notes (.there .here)) (hM.notes .here) (HY.out.trans HZ.out.symm)).mono ?_)
  rintro e wc5 ⟨rfl, hb⟩
  replace hM := hM.ext hb
  clear hb
  replace hM := Mem.pick (is := [1, 2]) hM (by decide) rfl
  dsimp only [List.filterMap_cons, List.filterMap_nil, List.getElem?_cons_zero, List.getElem?_cons_succ] at hM
  go_upto_if 68 with fail
  go_cut [] (fun wx => Mem w.heap.size w wx [])
  case first => as_aux_lemma =>
    cases v
    · go_wp2_with fail
      go_meet
      exact hM.sub (by simp)
    have HW := Lib.hid (write_facts HV.out HRV.out HY.out (HR.out _ _ (hM.ents _ (In.there .here).mem)).rd.len HF.out)
    have hlen : rv.length = n1 + 1 := by rw [← HY.out]; exact HW.out.len
    have hbl : ((rv.length : Int) != (rv.length : Int)) = false := by simp
    obtain ⟨lr, hlr⟩ : ∃ r, latR u (coreN ys) = r := ⟨_, rfl⟩
    have HLR := Lib.hid hlr
    clear hlr
    obtain ⟨x, hx⟩ : ∃ r, compB (coreN xs) = r := ⟨_, rfl⟩
    obtain ⟨y, hy⟩ : ∃ r, compB (coreN ys) = r := ⟨_, rfl⟩
    have HX := Lib.hid hx; have HYY := Lib.hid hy
    clear hx hy
    have hrn : n1 ≤ 17592186044416 := (HR.out _ _ (hM.ents _ (In.there .here).mem)).rd.nroom
    have hwn : IntKind.i64.wrap ((n1 : Int) + 1) = (n1 : Int) + 1 := wrap_in (by omega)
    have hwn : IntKind.i64.wrap ((n1 : Int) + 1) = (rv.length : Int) := by rw [hwn]; omega
    have HLEN := Lib.hid hlen
    clear hlen
    go_wp2_with fail
    apply Mem.atA
    · (repeat' (first | with_reducible exact hM | with_reducible exact hMp | with_reducible apply Mem.drew | with_reducible apply Mem.drewN | with_reducible apply Mem.alloc | with_reducible apply Mem.set | with_reducible exact Sto.row | ((with_reducible refine Sto.rowEq2 ?_ ?_); omega; rfl) | ((with_reducible refine Sto.rowEq ?_); omega) | with_reducible apply Sto.int | with_reducible apply Sto.there | with_reducible assumption | (unfold I64; omega) | (with_reducible (have hMx := Mem.undrew hM; exact hMx)) | (with_reducible (have hMx := Mem.undrew hMp; exact hMx))))
    clear hM
    intro wst hM
    (try simp only [World.size_alloc, World.size_setCell, World.heap_drewN, heapDrew, Nat.add_assoc, Nat.reduceAdd, List.setIfInBounds_toArray, List.set_cons_zero, List.set_cons_succ, List.cons_append, List.nil_append] at hM)
    (first | refine (implLatest_any u a3 _ c3 ys _ hu (hM.notes .here)).mono ?_)
    rw [HLR.out]
    rw [HW.out.b2]
    rintro e w4 ⟨a5, c5, rfl, hm⟩
    replace hM := hM.join hm
    clear hm
    (try simp only [World.size_alloc, World.size_setCell, World.heap_drewN, heapDrew, Nat.add_assoc, Nat.reduceAdd, List.setIfInBounds_toArray, List.set_cons_zero, List.set_cons_succ, List.cons_append, List.nil_append] at hM)
    go_wp2_with fail
    apply Mem.atA
    · (repeat' (first | with_reducible exact hM | with_reducible exact hMp | with_reducible apply Mem.drew | with_reducible apply Mem.drewN | with_reducible apply Mem.alloc | with_reducible apply Mem.set | with_reducible exact Sto.row | ((with_reducible refine Sto.rowEq2 ?_ ?_); omega; rfl) | ((with_reducible refine Sto.rowEq ?_); omega) | with_reducible apply Sto.int | with_reducible apply Sto.there | with_reducible assumption | (unfold I64; omega) | (with_reducible (have hMx := Mem.undrew hM; exact hMx)) | (with_reducible (have hMx := Mem.undrew hMp; exact hMx))))
    clear hM
    intro wst hM
    (try simp only [World.size_alloc, World.size_setCell, World.heap_drewN, heapDrew, Nat.add_assoc, Nat.reduceAdd, List.setIfInBounds_toArray, List.set_cons_zero, List.set_cons_succ, List.cons_append, List.nil_append] at hM)
    (first | refine (implComp_any u _ n1 c1 xs _ hu (HR.out _ _ (hM.ents _ (In.there (.there .here)).mem)) (few_raw12 HF.out)).mono ?_)
    rw [HX.out]
    rw [HW.out.b1]
    rintro e wc7 ⟨rfl, hb⟩
    replace hM := hM.ext hb
    clear hb
    go_wp2_with fail
    apply Mem.atA
    · (repeat' (first | with_reducible exact hM | with_reducible exact hMp | with_reducible apply Mem.drew | with_reducible apply Mem.drewN | with_reducible apply Mem.alloc | with_reducible apply Mem.set | with_reducible exact Sto.row | ((with_reducible refine Sto.rowEq2 ?_ ?_); omega; rfl) | ((with_reducible refine Sto.rowEq ?_); omega) | with_reducible apply Sto.int | with_reducible apply Sto.there | with_reducible assumption | (unfold I64; omega) | (with_reducible (have hMx := Mem.undrew hM; exact hMx)) | (with_reducible (have hMx := Mem.undrew hMp; exact hMx))))
    clear hM
    intro wst hM
    (try simp only [World.size_alloc, World.size_setCell, World.heap_drewN, heapDrew, Nat.add_assoc, Nat.reduceAdd, List.setIfInBounds_toArray, List.set_cons_zero, List.set_cons_succ, List.cons_append, List.nil_append] at hM)
    (first | refine (implComp_any u a3 _ c3 ys _ hu (hM.notes (.there .here)) (few_raw12 HW.out.few)).mono ?_)
    rw [HYY.out]
    rw [HW.out.b2]
    rintro e wc8 ⟨rfl, hb⟩
    replace hM := hM.ext hb
    clear hb
    have hxy : x = true → y = true := fun h => by rw [← HYY.out]; exact HW.out.cmp (by rw [HX.out, h])
    cases x
    · go_wp2_with fail
      go_meet
      exact hM.sub (by simp)
    obtain rfl := hxy rfl
    clear hxy
    obtain ⟨p, hp, hp2, hp3, hp4⟩ := HW.out.lat HX.out
    have hle := HLR.out.symm.trans hp2
    clear hp2
    subst hle
    obtain ⟨g5, rfl, -⟩ := (hM.ints .here).head (Nat.lt_succ_self 0)
    have hcl := (hM.ints .here).cellAt (k := 0) (Nat.lt_succ_self 0)
    obtain ⟨b3, o3, rfl, -, -⟩ := (hM.notes (.there .here)).rd.at' p (by rw [HLEN.out]; exact hp)
    obtain ⟨-, hd0, -, -, hd3⟩ := (hM.notes (.there .here)).rd.cellNote (k := p) (by rw [HLEN.out]; exact hp)
    rw [hp3] at hd0
    rw [hp4] at hd3
    clear hp3 hp4
    have p0 : (0 : Int) ≤ (p : Int) := by omega
    have p2 : (p : Int) < (rv.length : Int) := by have := HLEN.out; omega
    have hbw : (wd == wd) = true := by simp
    have hbu : (un == un) = true := by simp
    go_wp2_with fail
    go_meet
    exact hM.sub (by simp)
  case rest => as_aux_lemma =>
    clear hM hwl HF HR HV HRV HY HZ hbb1 hu hun
    have hM := hcut
    clear hcut
    go_wp2_with fail
    apply Mem.atA
    · (repeat' (first | with_reducible exact hM | with_reducible exact hMp | with_reducible apply Mem.drew | with_reducible apply Mem.drewN | with_reducible apply Mem.alloc | with_reducible apply Mem.set | with_reducible exact Sto.row | ((with_reducible refine Sto.rowEq2 ?_ ?_); omega; rfl) | ((with_reducible refine Sto.rowEq ?_); omega) | with_reducible apply Sto.int | with_reducible apply Sto.there | with_reducible assumption | (unfold I64; omega) | (with_reducible (have hMx := Mem.undrew hM; exact hMx)) | (with_reducible (have hMx := Mem.undrew hMp; exact hMx))))
    clear hM
    intro wst hM
    (try simp only [World.size_alloc, World.size_setCell, World.heap_drewN, heapDrew, Nat.add_assoc, Nat.reduceAdd, List.setIfInBounds_toArray, List.set_cons_zero, List.set_cons_succ, List.cons_append, List.nil_append] at hM)
    (first | refine (drawLatest_any (HC.out.ext hM.below)).mono ?_)
    rintro e w1 ⟨u, b1, o1, n1, c1, xs, X, hu, hf, hl, hr, rfl, hm⟩
    replace hM := hM.join hm
    clear hm
    (try simp only [World.size_alloc, World.size_setCell, World.heap_drewN, heapDrew, Nat.add_assoc, Nat.reduceAdd, List.setIfInBounds_toArray, List.set_cons_zero, List.set_cons_succ, List.cons_append, List.nil_append] at hM)
    have HF := Lib.hid hf; have HR := Lib.hid hr
    clear hf hr
    obtain ⟨v, hv⟩ : ∃ r, bookB u (coreN xs) = r := ⟨_, rfl⟩
    obtain ⟨lr, hlr⟩ : ∃ r, latR u (coreN xs) = r := ⟨_, rfl⟩
    obtain ⟨pr, hpr⟩ : ∃ r, concR u (coreN xs) = r := ⟨_, rfl⟩
    have HV := Lib.hid hv; have HLR := Lib.hid hlr; have HPR := Lib.hid hpr
    clear hv hlr hpr
    have hbb1 : (v != v) = false := by cases v <;> rfl
    go_wp2_with fail
    apply Mem.atA
    · (repeat' (first | with_reducible exact hM | with_reducible exact hMp | with_reducible apply Mem.drew | with_reducible apply Mem.drewN | with_reducible apply Mem.alloc | with_reducible apply Mem.set | with_reducible exact Sto.row | ((with_reducible refine Sto.rowEq2 ?_ ?_); omega; rfl) | ((with_reducible refine Sto.rowEq ?_); omega) | with_reducible apply Sto.int | with_reducible apply Sto.there | with_reducible assumption | (unfold I64; omega) | (with_reducible (have hMx := Mem.undrew hM; exact hMx)) | (with_reducible (have hMx := Mem.undrew hMp; exact hMx))))
    clear hM
    intro wst hM
    (try simp only [World.size_alloc, World.size_setCell, World.heap_drewN, heapDrew, Nat.add_assoc, Nat.reduceAdd, List.setIfInBounds_toArray, List.set_cons_zero, List.set_cons_succ, List.cons_append, List.nil_append] at hM)
    (first | refine (implLatest_any u _ n1 c1 xs _ hu (HR.out _ _ (hM.ents _ In.here.mem))).mono ?_)
    rw [HLR.out]
    rw [HV.out]
    rintro e w2 ⟨a3, c3, rfl, hm⟩
    replace hM := hM.join hm
    clear hm
    (try simp only [World.size_alloc, World.size_setCell, World.heap_drewN, heapDrew, Nat.add_assoc, Nat.reduceAdd, List.setIfInBounds_toArray, List.set_cons_zero, List.set_cons_succ, List.cons_append, List.nil_append] at hM)
    go_wp2_with fail
    apply Mem.atA
    · (repeat' (first | with_reducible exact hM | with_reducible exact hMp | with_reducible apply Mem.drew | with_reducible apply Mem.drewN | with_reducible apply Mem.alloc | with_reducible apply Mem.set | with_reducible exact Sto.row | ((with_reducible refine Sto.rowEq2 ?_ ?_); omega; rfl) | ((with_reducible refine Sto.rowEq ?_); omega) | with_reducible apply Sto.int | with_reducible apply Sto.there | with_reducible assumption | (unfold I64; omega) | (with_reducible (have hMx := Mem.undrew hM; exact hMx)) | (with_reducible (have hMx := Mem.undrew hMp; exact hMx))))
    clear hM
    intro wst hM
    (try simp only [World.size_alloc, World.size_setCell, World.heap_drewN, heapDrew, Nat.add_assoc, Nat.reduceAdd, List.setIfInBounds_toArray, List.set_cons_zero, List.set_cons_succ, List.cons_append, List.nil_append] at hM)
    (first | refine (specLatest_any u _ n1 c1 xs _ hu (HR.out _ _ (hM.ents _ (In.there .here).mem))).mono ?_)
    rw [HLR.out]
    rw [HV.out]
    rintro e w3 ⟨a4, c4, rfl, hm⟩
    replace hM := hM.join hm
    clear hm
    (try simp only [World.size_alloc, World.size_setCell, World.heap_drewN, heapDrew, Nat.add_assoc, Nat.reduceAdd, List.setIfInBounds_toArray, List.set_cons_zero, List.set_cons_succ, List.cons_append, List.nil_append] at hM)
    go_wp2_with fail
    apply Mem.atA
    · (repeat' (first | with_reducible exact hM | with_reducible exact hMp | with_reducible apply Mem.drew | with_reducible apply Mem.drewN | with_reducible apply Mem.alloc | with_reducible apply Mem.set | with_reducible exact Sto.row | ((with_reducible refine Sto.rowEq2 ?_ ?_); omega; rfl) | ((with_reducible refine Sto.rowEq ?_); omega) | with_reducible apply Sto.int | with_reducible apply Sto.there | with_reducible assumption | (unfold I64; omega) | (with_reducible (have hMx := Mem.undrew hM; exact hMx)) | (with_reducible (have hMx := Mem.undrew hMp; exact hMx))))
    clear hM
    intro wst hM
    (try simp only [World.size_alloc, World.size_setCell, World.heap_drewN, heapDrew, Nat.add_assoc, Nat.reduceAdd, List.setIfInBounds_toArray, List.set_cons_zero, List.set_cons_succ, List.cons_append, List.nil_append] at hM)
    (first | refine (vInts_same _ _ _ lr _ _ _ _ (hM.intsR (.there .here)) (hM.intsR .here)).mono ?_)
    rintro e wc12 ⟨rfl, hb⟩
    replace hM := hM.ext hb
    clear hb
    go_wp2_with fail
    apply Mem.atA
    · (repeat' (first | with_reducible exact hM | with_reducible exact hMp | with_reducible apply Mem.drew | with_reducible apply Mem.drewN | with_reducible apply Mem.alloc | with_reducible apply Mem.set | with_reducible exact Sto.row | ((with_reducible refine Sto.rowEq2 ?_ ?_); omega; rfl) | ((with_reducible refine Sto.rowEq ?_); omega) | with_reducible apply Sto.int | with_reducible apply Sto.there | with_reducible assumption | (unfold I64; omega) | (with_reducible (have hMx := Mem.undrew hM; exact hMx)) | (with_reducible (have hMx := Mem.undrew hMp; exact hMx))))
    clear hM
    intro wst hM
    (try simp only [World.size_alloc, World.size_setCell, World.heap_drewN, heapDrew, Nat.add_assoc, Nat.reduceAdd, List.setIfInBounds_toArray, List.set_cons_zero, List.set_cons_succ, List.cons_append, List.nil_append] at hM)
    (first | refine (implConc_any u _ n1 c1 xs _ hu (HR.out _ _ (hM.ents _ (In.there (.there .here)).mem))).mono ?_)
    rw [HPR.out]
    rw [HV.out]
    rintro e w4 ⟨a5, c5, rfl, hm⟩
    replace hM := hM.join hm
    clear hm
    (try simp only [World.size_alloc, World.size_setCell, World.heap_drewN, heapDrew, Nat.add_assoc, Nat.reduceAdd, List.setIfInBounds_toArray, List.set_cons_zero, List.set_cons_succ, List.cons_append, List.nil_append] at hM)
    go_wp2_with fail
    apply Mem.atA
    · (repeat' (first | with_reducible exact hM | with_reducible exact hMp | with_reducible apply Mem.drew | with_reducible apply Mem.drewN | with_reducible apply Mem.alloc | with_reducible apply Mem.set | with_reducible exact Sto.row | ((with_reducible refine Sto.rowEq2 ?_ ?_); omega; rfl) | ((with_reducible refine Sto.rowEq ?_); omega) | with_reducible apply Sto.int | with_reducible apply Sto.there | with_reducible assumption | (unfold I64; omega) | (with_reducible (have hMx := Mem.undrew hM; exact hMx)) | (with_reducible (have hMx := Mem.undrew hMp; exact hMx))))
    clear hM
    intro wst hM
    (try simp only [World.size_alloc, World.size_setCell, World.heap_drewN, heapDrew, Nat.add_assoc, Nat.reduceAdd, List.setIfInBounds_toArray, List.set_cons_zero, List.set_cons_succ, List.cons_append, List.nil_append] at hM)
    (first | refine (specConc_any u _ n1 c1 xs _ hu (HR.out _ _ (hM.ents _ (In.there (.there (.there .here))).mem))).mono ?_)
    rw [HPR.out]
    rw [HV.out]
    rintro e w5 ⟨a6, c6, rfl, hm⟩
    replace hM := hM.join hm
    clear hm
    (try simp only [World.size_alloc, World.size_setCell, World.heap_drewN, heapDrew, Nat.add_assoc, Nat.reduceAdd, List.setIfInBounds_toArray, List.set_cons_zero, List.set_cons_succ, List.cons_append, List.nil_append] at hM)
    go_wp2_with fail
    apply Mem.atA
    · (repeat' (first | with_reducible exact hM | with_reducible exact hMp | with_reducible apply Mem.drew | with_reducible apply Mem.drewN | with_reducible apply Mem.alloc | with_reducible apply Mem.set | with_reducible exact Sto.row | ((with_reducible refine Sto.rowEq2 ?_ ?_); omega; rfl) | ((with_reducible refine Sto.rowEq ?_); omega) | with_reducible apply Sto.int | with_reducible apply Sto.there | with_reducible assumption | (unfold I64; omega) | (with_reducible (have hMx := Mem.undrew hM; exact hMx)) | (with_reducible (have hMx := Mem.undrew hMp; exact hMx))))
    clear hM
    intro wst hM
    (try simp only [World.size_alloc, World.size_setCell, World.heap_drewN, heapDrew, Nat.add_assoc, Nat.reduceAdd, List.setIfInBounds_toArray, List.set_cons_zero, List.set_cons_succ, List.cons_append, List.nil_append] at hM)
    (first | refine (vPairs_same _ _ _ _ _ pr _ (hM.ow (.there .here)).rd (hM.ow .here).rd).mono ?_)
    rintro e wc15 ⟨rfl, hb⟩
    replace hM := hM.ext hb
    clear hb
    replace hM := Mem.pick (is := [1, 4]) hM (by decide) rfl
    dsimp only [List.filterMap_cons, List.filterMap_nil, List.getElem?_cons_zero, List.getElem?_cons_succ] at hM
    have hpl : pr.length ≤ 100000 := by
      have h1 := (hM.ow .here).rd.nroom
      have h2 : pr.length ≤ 144 := by
        rw [← HPR.out, concR]
        split
        · have h3 := concTo_len (coreN xs) (coreN xs).length
          rw [coreN_len] at h3 ⊢
          have h4 : xs.length * xs.length ≤ 12 * 12 := Nat.mul_le_mul hl hl
          omega
        · simp
      omega
    have hnl : xs.length = n1 := (HR.out _ _ (hM.ents _ (In.there .here).mem)).rd.len
    have HNL := Lib.hid hnl
    clear hnl
    go_wp2_with fail
    go_loopw [27] (fun s27 wr => ∃ j : Nat, j ≤ pr.length ∧ s27 = .int .i64 j ∧ Mem w.heap.size w wr [pairE a5 pr.length c5 pr, packE X]) (fun s27 _ => pr.length - (intOf s27).toNat)
    case atStart => exact ⟨0, Nat.zero_le _, rfl, hM⟩
    case round =>
      clear hM
      obtain ⟨j, hj, rfl, hM⟩ := hrel
      by_cases hlt : j < pr.length
      · have hmp : pr.getD j (0, 0) ∈ pr := by
          rw [List.getD_eq_getElem?_getD, List.getElem?_eq_getElem hlt]
          exact List.getElem_mem _
        have hvt : v = true := by
          cases v with
          | true => rfl
          | false =>
            have h1 := HPR.out
            rw [concR, HV.out] at h1
            rw [← h1] at hlt
            simp at hlt
        subst hvt
        have hmp2 : pr.getD j (0, 0) ∈ concTo (coreN xs) (coreN xs).length := by
          have h1 := HPR.out
          rw [concR, HV.out] at h1
          simp only [if_true] at h1
          rw [h1]
          exact hmp
        obtain ⟨i, k, hpe, hik, hkl, hbf1, hbf2⟩ := concTo_mem hmp2
        rw [coreN_len] at hkl
        rw [coreN_getD, coreN_getD] at hbf1 hbf2
        obtain ⟨hc1, hc2⟩ := book_cmp HV.out hik hkl
        have hkn : k < n1 := by rw [← HNL.out]; exact hkl
        have hin : i < n1 := by omega
        obtain ⟨x, hx⟩ : ∃ x, xs.getD i NoteI.zero = x := ⟨_, rfl⟩
        obtain ⟨y, hy⟩ : ∃ y, xs.getD k NoteI.zero = y := ⟨_, rfl⟩
        have hxm : x ∈ xs := by rw [← hx]; exact getD_memO (by rw [HNL.out]; exact hin)
        have hym : y ∈ xs := by rw [← hy]; exact getD_memO (by rw [HNL.out]; exact hkn)
        rw [hx, hy] at hbf1 hbf2 hc1 hc2
        have HX := Lib.hid hx; have HY := Lib.hid hy; have HPE := Lib.hid hpe
        have HXM := Lib.hid hxm; have HYM := Lib.hid hym
        have HB1 := Lib.hid hbf1; have HB2 := Lib.hid hbf2; have HC1 := Lib.hid hc1; have HC2 := Lib.hid hc2
        clear hmp hmp2 hpe hbf1 hbf2 hc1 hc2 hx hy hxm hym hkl
        obtain ⟨g5, rfl, -⟩ := (hM.ow .here).head (by omega)
        have hwx := (HR.out _ _ (hM.ents _ (In.there .here).mem)).rd.wf _ HXM.out
        have hwy := (HR.out _ _ (hM.ents _ (In.there .here).mem)).rd.wf _ HYM.out
        have hkx : x.wd.length ≤ maxLen := hwx.2.2
        have hky : y.wd.length ≤ maxLen := hwy.2.2
        clear hwx hwy
        obtain ⟨xu, xq, xa, xn, xc, xl, xw⟩ := x
        obtain ⟨yu, yq, ya, yn, yc, yl, yw⟩ := y
        dsimp only at hkx hky
        have j0 : (0 : Int) ≤ (j : Int) := by omega
        have j1 : (j : Int) < (pr.length : Int) := by omega
        have i0 : (0 : Int) ≤ (i : Int) := by omega
        have i1 : (i : Int) < (n1 : Int) := by omega
        have k0 : (0 : Int) ≤ (k : Int) := by omega
        have k1 : (k : Int) < (n1 : Int) := by omega
        go_upto_region 28 with fail
        apply Mem.atWpA
        · (repeat' (first | with_reducible exact hM | with_reducible exact hMp | with_reducible apply Mem.drew | with_reducible apply Mem.drewN | with_reducible apply Mem.alloc | with_reducible apply Mem.set | with_reducible exact Sto.row | ((with_reducible refine Sto.rowEq2 ?_ ?_); omega; rfl) | ((with_reducible refine Sto.rowEq ?_); omega) | with_reducible apply Sto.int | with_reducible apply Sto.there | with_reducible assumption | (unfold I64; omega) | (with_reducible (have hMx := Mem.undrew hM; exact hMx)) | (with_reducible (have hMx := Mem.undrew hMp; exact hMx))))
        clear hM
        intro wst hM
        (try simp only [World.size_alloc, World.size_setCell, World.heap_drewN, heapDrew, Nat.add_assoc, Nat.reduceAdd, List.setIfInBounds_toArray, List.set_cons_zero, List.set_cons_succ, List.cons_append, List.nil_append] at hM)
        refine AtT.startA hM hM 19 (by kernel_rfl) ?_
        clear hM
        intro wd hM
        have hS := hM
        refine AtT.taked (i := 0) (v := ?_) (some 198) rfl rfl (by kernel_rfl) (by kernel_rfl) (by kernel_rfl) (by kernel_rfl) (fun _ _ _ h => h) (Or.inl ⟨by kernel_rfl, ?_⟩) hS ?_
        rotate_left
        · (intro wS hSw; (try dsimp only at hSw); go_simp; (try rw [if_neg (by omega)]); try with_reducible rfl)
        simp only [Act.put, List.setIfInBounds_toArray, List.set_cons_zero, List.set_cons_succ]
        refine AtT.taked (i := 1) (v := ?_) (some 199) rfl rfl (by kernel_rfl) (by kernel_rfl) (by kernel_rfl) (by kernel_rfl) (fun _ _ _ h => h) (Or.inl ⟨by kernel_rfl, ?_⟩) hS ?_
        rotate_left
        · (intro wS hSw; (try dsimp only at hSw); go_simp; (try rw [if_neg (by omega)]); try with_reducible rfl)
        simp only [Act.put, List.setIfInBounds_toArray, List.set_cons_zero, List.set_cons_succ]
        refine AtT.taked (i := 2) (v := ?_) (some 200) rfl rfl (by kernel_rfl) (by kernel_rfl) (by kernel_rfl) (by kernel_rfl) (fun _ _ _ h => h) (Or.inl ⟨by kernel_rfl, ?_⟩) hS ?_
        rotate_left
        · (intro wS hSw; (try dsimp only at hSw); go_simp; (try rw [if_neg (by omega)]); try with_reducible rfl)
        simp only [Act.put, List.setIfInBounds_toArray, List.set_cons_zero, List.set_cons_succ]
        refine AtT.taked (i := 3) (v := ?_) (some 201) rfl rfl (by kernel_rfl) (by kernel_rfl) (by kernel_rfl) (by kernel_rfl) (fun _ _ _ h => h) (Or.inl ⟨by kernel_rfl, ?_⟩) hS ?_
        rotate_left
        · (intro wS hSw; (try dsimp only at hSw); have q1 := (hSw.ow .here).cellPair hlt; rw [HPE.out] at q1; dsimp only at q1; have q2 := q1.1; have q3 := q1.2; have q4 := ((HR.out _ _ (hSw.ents _ (In.there .here).mem)).rd.cellNote hin).2; rw [HX.out] at q4; have q5 := ((HR.out _ _ (hSw.ents _ (In.there .here).mem)).rd.cellNote hkn).2; rw [HY.out] at q5; dsimp only at q4 q5; have r0 := q4.1; have r1 := q4.2.1; have r2 := q4.2.2.1; have r3 := q4.2.2.2; have t0 := q5.1; have t1 := q5.2.1; have t2 := q5.2.2.1; have t3 := q5.2.2.2; go_simp; (try rw [if_neg (by omega)]); try with_reducible rfl)
        simp only [Act.put, List.setIfInBounds_toArray, List.set_cons_zero, List.set_cons_succ]
        refine AtT.taked (i := 4) (v := ?_) (some 202) rfl rfl (by kernel_rfl) (by kernel_rfl) (by kernel_rfl) (by kernel_rfl) (fun _ _ _ h => h) (Or.inl ⟨by kernel_rfl, ?_⟩) hS ?_
        rotate_left
        · (intro wS hSw; (try dsimp only at hSw); have q1 := (hSw.ow .here).cellPair hlt; rw [HPE.out] at q1; dsimp only at q1; have q2 := q1.1; have q3 := q1.2; have q4 := ((HR.out _ _ (hSw.ents _ (In.there .here).mem)).rd.cellNote hin).2; rw [HX.out] at q4; have q5 := ((HR.out _ _ (hSw.ents _ (In.there .here).mem)).rd.cellNote hkn).2; rw [HY.out] at q5; dsimp only at q4 q5; have r0 := q4.1; have r1 := q4.2.1; have r2 := q4.2.2.1; have r3 := q4.2.2.2; have t0 := q5.1; have t1 := q5.2.1; have t2 := q5.2.2.1; have t3 := q5.2.2.2; go_simp; (try rw [if_neg (by omega)]); try with_reducible rfl)
        simp only [Act.put, List.setIfInBounds_toArray, List.set_cons_zero, List.set_cons_succ]
        refine AtT.taked (i := 5) (v := ?_) (some 203) rfl rfl (by kernel_rfl) (by kernel_rfl) (by kernel_rfl) (by kernel_rfl) (fun _ _ _ h => h) (Or.inl ⟨by kernel_rfl, ?_⟩) hS ?_
        rotate_left
        · (intro wS hSw; (try dsimp only at hSw); have q1 := (hSw.ow .here).cellPair hlt; rw [HPE.out] at q1; dsimp only at q1; have q2 := q1.1; have q3 := q1.2; have q4 := ((HR.out _ _ (hSw.ents _ (In.there .here).mem)).rd.cellNote hin).2; rw [HX.out] at q4; have q5 := ((HR.out _ _ (hSw.ents _ (In.there .here).mem)).rd.cellNote hkn).2; rw [HY.out] at q5; dsimp only at q4 q5; have r0 := q4.1; have r1 := q4.2.1; have r2 := q4.2.2.1; have r3 := q4.2.2.2; have t0 := q5.1; have t1 := q5.2.1; have t2 := q5.2.2.1; have t3 := q5.2.2.2; go_simp; (try rw [if_neg (by omega)]); try with_reducible rfl)
        simp only [Act.put, List.setIfInBounds_toArray, List.set_cons_zero, List.set_cons_succ]
        refine AtT.taked (i := 6) (v := ?_) (some 204) rfl rfl (by kernel_rfl) (by kernel_rfl) (by kernel_rfl) (by kernel_rfl) (fun _ _ _ h => h) (Or.inl ⟨by kernel_rfl, ?_⟩) hS ?_
        rotate_left
        · (intro wS hSw; (try dsimp only at hSw); have q1 := (hSw.ow .here).cellPair hlt; rw [HPE.out] at q1; dsimp only at q1; have q2 := q1.1; have q3 := q1.2; have q4 := ((HR.out _ _ (hSw.ents _ (In.there .here).mem)).rd.cellNote hin).2; rw [HX.out] at q4; have q5 := ((HR.out _ _ (hSw.ents _ (In.there .here).mem)).rd.cellNote hkn).2; rw [HY.out] at q5; dsimp only at q4 q5; have r0 := q4.1; have r1 := q4.2.1; have r2 := q4.2.2.1; have r3 := q4.2.2.2; have t0 := q5.1; have t1 := q5.2.1; have t2 := q5.2.2.1; have t3 := q5.2.2.2; go_simp; (try rw [if_neg (by omega)]); try with_reducible rfl)
        simp only [Act.put, List.setIfInBounds_toArray, List.set_cons_zero, List.set_cons_succ]
        refine AtT.taked (i := 7) (v := ?_) (some 205) rfl rfl (by kernel_rfl) (by kernel_rfl) (by kernel_rfl) (by kernel_rfl) (fun _ _ _ h => h) (Or.inl ⟨by kernel_rfl, ?_⟩) hS ?_
        rotate_left
        · (intro wS hSw; (try dsimp only at hSw); have q1 := (hSw.ow .here).cellPair hlt; rw [HPE.out] at q1; dsimp only at q1; have q2 := q1.1; have q3 := q1.2; have q4 := ((HR.out _ _ (hSw.ents _ (In.there .here).mem)).rd.cellNote hin).2; rw [HX.out] at q4; have q5 := ((HR.out _ _ (hSw.ents _ (In.there .here).mem)).rd.cellNote hkn).2; rw [HY.out] at q5; dsimp only at q4 q5; have r0 := q4.1; have r1 := q4.2.1; have r2 := q4.2.2.1; have r3 := q4.2.2.2; have t0 := q5.1; have t1 := q5.2.1; have t2 := q5.2.2.1; have t3 := q5.2.2.2; go_simp; (try rw [if_neg (by omega)]); try with_reducible rfl)
        simp only [Act.put, List.setIfInBounds_toArray, List.set_cons_zero, List.set_cons_succ]
        refine AtT.taked (i := 8) (v := ?_) (some 206) rfl rfl (by kernel_rfl) (by kernel_rfl) (by kernel_rfl) (by kernel_rfl) (fun _ _ _ h => h) (Or.inl ⟨by kernel_rfl, ?_⟩) hS ?_
        rotate_left
        · (intro wS hSw; (try dsimp only at hSw); go_simp; (try rw [if_neg (by omega)]); try with_reducible rfl)
        simp only [Act.put, List.setIfInBounds_toArray, List.set_cons_zero, List.set_cons_succ]
        refine AtT.taked (i := 9) (v := ?_) (some 207) rfl rfl (by kernel_rfl) (by kernel_rfl) (by kernel_rfl) (by kernel_rfl) (fun _ _ _ h => h) (Or.inl ⟨by kernel_rfl, ?_⟩) hS ?_
        rotate_left
        · (intro wS hSw; (try dsimp only at hSw); go_simp; (try rw [if_neg (by omega)]); try with_reducible rfl)
        simp only [Act.put, List.setIfInBounds_toArray, List.set_cons_zero, List.set_cons_succ]
        refine AtT.taked (i := 10) (v := ?_) (some 208) rfl rfl (by kernel_rfl) (by kernel_rfl) (by kernel_rfl) (by kernel_rfl) (fun _ _ _ h => h) (Or.inl ⟨by kernel_rfl, ?_⟩) hS ?_
        rotate_left
        · (intro wS hSw; (try dsimp only at hSw); go_simp; (try rw [if_neg (by omega)]); try with_reducible rfl)
        simp only [Act.put, List.setIfInBounds_toArray, List.set_cons_zero, List.set_cons_succ]
        refine AtT.taked (i := 11) (v := ?_) (some 209) rfl rfl (by kernel_rfl) (by kernel_rfl) (by kernel_rfl) (by kernel_rfl) (fun _ _ _ h => h) (Or.inl ⟨by kernel_rfl, ?_⟩) hS ?_
        rotate_left
        · (intro wS hSw; (try dsimp only at hSw); have q1 := (hSw.ow .here).cellPair hlt; rw [HPE.out] at q1; dsimp only at q1; have q2 := q1.1; have q3 := q1.2; have q4 := ((HR.out _ _ (hSw.ents _ (In.there .here).mem)).rd.cellNote hin).2; rw [HX.out] at q4; have q5 := ((HR.out _ _ (hSw.ents _ (In.there .here).mem)).rd.cellNote hkn).2; rw [HY.out] at q5; dsimp only at q4 q5; have r0 := q4.1; have r1 := q4.2.1; have r2 := q4.2.2.1; have r3 := q4.2.2.2; have t0 := q5.1; have t1 := q5.2.1; have t2 := q5.2.2.1; have t3 := q5.2.2.2; go_simp; (try rw [if_neg (by omega)]); try with_reducible rfl)
        simp only [Act.put, List.setIfInBounds_toArray, List.set_cons_zero, List.set_cons_succ]
        refine AtT.taked (i := 12) (v := ?_) (some 210) rfl rfl (by kernel_rfl) (by kernel_rfl) (by kernel_rfl) (by kernel_rfl) (fun _ _ _ h => h) (Or.inl ⟨by kernel_rfl, ?_⟩) hS ?_
        rotate_left
        · (intro wS hSw; (try dsimp only at hSw); have q1 := (hSw.ow .here).cellPair hlt; rw [HPE.out] at q1; dsimp only at q1; have q2 := q1.1; have q3 := q1.2; have q4 := ((HR.out _ _ (hSw.ents _ (In.there .here).mem)).rd.cellNote hin).2; rw [HX.out] at q4; have q5 := ((HR.out _ _ (hSw.ents _ (In.there .here).mem)).rd.cellNote hkn).2; rw [HY.out] at q5; dsimp only at q4 q5; have r0 := q4.1; have r1 := q4.2.1; have r2 := q4.2.2.1; have r3 := q4.2.2.2; have t0 := q5.1; have t1 := q5.2.1; have t2 := q5.2.2.1; have t3 := q5.2.2.2; go_simp; (try rw [if_neg (by omega)]); try with_reducible rfl)
        simp only [Act.put, List.setIfInBounds_toArray, List.set_cons_zero, List.set_cons_succ]
        refine AtT.taked (i := 13) (v := ?_) (some 211) rfl rfl (by kernel_rfl) (by kernel_rfl) (by kernel_rfl) (by kernel_rfl) (fun _ _ _ h => h) (Or.inl ⟨by kernel_rfl, ?_⟩) hS ?_
        rotate_left
        · (intro wS hSw; (try dsimp only at hSw); have q1 := (hSw.ow .here).cellPair hlt; rw [HPE.out] at q1; dsimp only at q1; have q2 := q1.1; have q3 := q1.2; have q4 := ((HR.out _ _ (hSw.ents _ (In.there .here).mem)).rd.cellNote hin).2; rw [HX.out] at q4; have q5 := ((HR.out _ _ (hSw.ents _ (In.there .here).mem)).rd.cellNote hkn).2; rw [HY.out] at q5; dsimp only at q4 q5; have r0 := q4.1; have r1 := q4.2.1; have r2 := q4.2.2.1; have r3 := q4.2.2.2; have t0 := q5.1; have t1 := q5.2.1; have t2 := q5.2.2.1; have t3 := q5.2.2.2; go_simp; (try rw [if_neg (by omega)]); try with_reducible rfl)
        simp only [Act.put, List.setIfInBounds_toArray, List.set_cons_zero, List.set_cons_succ]
        refine AtT.taked (i := 14) (v := ?_) (some 212) rfl rfl (by kernel_rfl) (by kernel_rfl) (by kernel_rfl) (by kernel_rfl) (fun _ _ _ h => h) (Or.inl ⟨by kernel_rfl, ?_⟩) hS ?_
        rotate_left
        · (intro wS hSw; (try dsimp only at hSw); have q1 := (hSw.ow .here).cellPair hlt; rw [HPE.out] at q1; dsimp only at q1; have q2 := q1.1; have q3 := q1.2; have q4 := ((HR.out _ _ (hSw.ents _ (In.there .here).mem)).rd.cellNote hin).2; rw [HX.out] at q4; have q5 := ((HR.out _ _ (hSw.ents _ (In.there .here).mem)).rd.cellNote hkn).2; rw [HY.out] at q5; dsimp only at q4 q5; have r0 := q4.1; have r1 := q4.2.1; have r2 := q4.2.2.1; have r3 := q4.2.2.2; have t0 := q5.1; have t1 := q5.2.1; have t2 := q5.2.2.1; have t3 := q5.2.2.2; go_simp; (try rw [if_neg (by omega)]); try with_reducible rfl)
        simp only [Act.put, List.setIfInBounds_toArray, List.set_cons_zero, List.set_cons_succ]
        refine AtT.taked (i := 15) (v := ?_) (some 213) rfl rfl (by kernel_rfl) (by kernel_rfl) (by kernel_rfl) (by kernel_rfl) (fun _ _ _ h => h) (Or.inl ⟨by kernel_rfl, ?_⟩) hS ?_
        rotate_left
        · (intro wS hSw; (try dsimp only at hSw); have q1 := (hSw.ow .here).cellPair hlt; rw [HPE.out] at q1; dsimp only at q1; have q2 := q1.1; have q3 := q1.2; have q4 := ((HR.out _ _ (hSw.ents _ (In.there .here).mem)).rd.cellNote hin).2; rw [HX.out] at q4; have q5 := ((HR.out _ _ (hSw.ents _ (In.there .here).mem)).rd.cellNote hkn).2; rw [HY.out] at q5; dsimp only at q4 q5; have r0 := q4.1; have r1 := q4.2.1; have r2 := q4.2.2.1; have r3 := q4.2.2.2; have t0 := q5.1; have t1 := q5.2.1; have t2 := q5.2.2.1; have t3 := q5.2.2.2; go_simp; (try rw [if_neg (by omega)]); try with_reducible rfl)
        simp only [Act.put, List.setIfInBounds_toArray, List.set_cons_zero, List.set_cons_succ]
        refine AtT.two (i := 16) (j := 17) (by kernel_rfl) rfl rfl rfl rfl ?_ ?_
        · skip
          intro K hK
          go_simp
          refine hK.out _ _ (by apply Mem.tail; (repeat' (first | with_reducible exact hM | with_reducible exact hMp | with_reducible apply Mem.drew | with_reducible apply Mem.drewN | with_reducible apply Mem.alloc | with_reducible apply Mem.set | with_reducible exact Sto.row | ((with_reducible refine Sto.rowEq2 ?_ ?_); omega; rfl) | ((with_reducible refine Sto.rowEq ?_); omega) | with_reducible apply Sto.int | with_reducible apply Sto.there | with_reducible assumption | (unfold I64; omega) | (with_reducible (have hMx := Mem.undrew hM; exact hMx)) | (with_reducible (have hMx := Mem.undrew hMp; exact hMx))))) ?_
          clear hK K hS
          have hMp := hM
          apply Mem.atT
          · (repeat' (first | with_reducible exact hM | with_reducible exact hMp | with_reducible apply Mem.drew | with_reducible apply Mem.drewN | with_reducible apply Mem.alloc | with_reducible apply Mem.set | with_reducible exact Sto.row | ((with_reducible refine Sto.rowEq2 ?_ ?_); omega; rfl) | ((with_reducible refine Sto.rowEq ?_); omega) | with_reducible apply Sto.int | with_reducible apply Sto.there | with_reducible assumption | (unfold I64; omega) | (with_reducible (have hMx := Mem.undrew hM; exact hMx)) | (with_reducible (have hMx := Mem.undrew hMp; exact hMx))))
          clear hM
          intro hM
          (try simp only [World.size_alloc, World.size_setCell, World.heap_drewN, heapDrew, Nat.add_assoc, Nat.reduceAdd, List.setIfInBounds_toArray, List.set_cons_zero, List.set_cons_succ, List.cons_append, List.nil_append] at hM)
          have hS := hM.tail
          refine AtT.only (i := 17) (by kernel_rfl) rfl rfl ?_
          intro K hK
          go_simp
          refine hK.out _ _ (by apply Mem.tail; apply Mem.tail; (repeat' (first | with_reducible exact hM | with_reducible exact hMp | with_reducible apply Mem.drew | with_reducible apply Mem.drewN | with_reducible apply Mem.alloc | with_reducible apply Mem.set | with_reducible exact Sto.row | ((with_reducible refine Sto.rowEq2 ?_ ?_); omega; rfl) | ((with_reducible refine Sto.rowEq ?_); omega) | with_reducible apply Sto.int | with_reducible apply Sto.there | with_reducible assumption | (unfold I64; omega) | (with_reducible (have hMx := Mem.undrew hM; exact hMx)) | (with_reducible (have hMx := Mem.undrew hMp; exact hMx))))) ?_
          clear hK K hS
          have hMp := hM
          apply Mem.atT
          · (repeat' (first | with_reducible exact hM | with_reducible exact hMp | with_reducible apply Mem.drew | with_reducible apply Mem.drewN | with_reducible apply Mem.alloc | with_reducible apply Mem.set | with_reducible exact Sto.row | ((with_reducible refine Sto.rowEq2 ?_ ?_); omega; rfl) | ((with_reducible refine Sto.rowEq ?_); omega) | with_reducible apply Sto.int | with_reducible apply Sto.there | with_reducible assumption | (unfold I64; omega) | (with_reducible (have hMx := Mem.undrew hM; exact hMx)) | (with_reducible (have hMx := Mem.undrew hMp; exact hMx))))
          clear hM
          intro hM
          (try simp only [World.size_alloc, World.size_setCell, World.heap_drewN, heapDrew, Nat.add_assoc, Nat.reduceAdd, List.setIfInBounds_toArray, List.set_cons_zero, List.set_cons_succ, List.cons_append, List.nil_append] at hM)
          have hS := hM.tail.tail
          refine AtT.only (i := 18) (by kernel_rfl) rfl rfl ?_
          intro K hK
          have kk0 := (hM.row .here).cell
          have ff0 := (hM.row .here).free
          have ll0 := (hM.row .here).lt
          have kk1 := (hM.row (.there .here)).cell
          have ff1 := (hM.row (.there .here)).free
          have ll1 := (hM.row (.there .here)).lt
          go_simp
          clear kk0 ff0 ll0 kk1 ff1 ll1
          refine hK.out _ _ (by apply Mem.tail; apply Mem.tail; (repeat' (first | with_reducible exact hM | with_reducible exact hMp | with_reducible apply Mem.drew | with_reducible apply Mem.drewN | with_reducible apply Mem.alloc | with_reducible apply Mem.set | with_reducible exact Sto.row | ((with_reducible refine Sto.rowEq2 ?_ ?_); omega; rfl) | ((with_reducible refine Sto.rowEq ?_); omega) | with_reducible apply Sto.int | with_reducible apply Sto.there | with_reducible assumption | (unfold I64; omega) | (with_reducible (have hMx := Mem.undrew hM; exact hMx)) | (with_reducible (have hMx := Mem.undrew hMp; exact hMx))))) ?_
          clear hK K hS
          apply Mem.atT
          · (repeat' (first | with_reducible exact hM | with_reducible exact hMp | with_reducible apply Mem.drew | with_reducible apply Mem.drewN | with_reducible apply Mem.alloc | with_reducible apply Mem.set | with_reducible exact Sto.row | ((with_reducible refine Sto.rowEq2 ?_ ?_); omega; rfl) | ((with_reducible refine Sto.rowEq ?_); omega) | with_reducible apply Sto.int | with_reducible apply Sto.there | with_reducible assumption | (unfold I64; omega) | (with_reducible (have hMx := Mem.undrew hM; exact hMx)) | (with_reducible (have hMx := Mem.undrew hMp; exact hMx))))
          clear hM
          intro hM
          (try simp only [World.size_alloc, World.size_setCell, World.heap_drewN, heapDrew, Nat.add_assoc, Nat.reduceAdd, List.setIfInBounds_toArray, List.set_cons_zero, List.set_cons_succ, List.cons_append, List.nil_append] at hM)
          have hS := hM.tail.tail
          refine AtT.last (by kernel_rfl) rfl (by kernel_rfl) ?_
          intro K hK
          clear hS
          have kk0 := (hM.row .here).cell
          have ff0 := (hM.row .here).free
          have ll0 := (hM.row .here).lt
          have kk1 := (hM.row (.there .here)).cell
          have ff1 := (hM.row (.there .here)).free
          have ll1 := (hM.row (.there .here)).lt
          go_simp
          clear kk0 ff0 ll0 kk1 ff1 ll1
          refine hK.out _ _ ?_
          clear hK K
          have hM8 := Lib.hid (Mem.pick (is := [1, 0, 2, 3]) hM (by decide) rfl)
          clear hM
          have hM := hM8.out
          clear hM8
          obtain ⟨k0, f0, l0⟩ := hM.row .here
          obtain ⟨k1, f1, l1⟩ := hM.row (.there .here)
          go_wp2_with fail
          clear k0 f0 l0 k1 f1 l1
          apply Mem.atA
          · (repeat' (first | with_reducible exact hM | with_reducible exact hMp | with_reducible apply Mem.drew | with_reducible apply Mem.drewN | with_reducible apply Mem.alloc | with_reducible apply Mem.set | with_reducible exact Sto.row | ((with_reducible refine Sto.rowEq2 ?_ ?_); omega; rfl) | ((with_reducible refine Sto.rowEq ?_); omega) | with_reducible apply Sto.int | with_reducible apply Sto.there | with_reducible assumption | (unfold I64; omega) | (with_reducible (have hMx := Mem.undrew hM; exact hMx)) | (with_reducible (have hMx := Mem.undrew hMp; exact hMx))))
          clear hM
          intro wst hM
          (try simp only [World.size_alloc, World.size_setCell, World.heap_drewN, heapDrew, Nat.add_assoc, Nat.reduceAdd, List.setIfInBounds_toArray, List.set_cons_zero, List.set_cons_succ, List.cons_append, List.nil_append] at hM)
          (first | refine (IsBefore_any u (⟨xu, xq, xa, xn, xc, xl, xw⟩ : NoteI) (⟨yu, yq, ya, yn, yc, yl, yw⟩ : NoteI) _ hu hkx hky ((HR.out _ _ (hM.ents _ (In.there (.there (.there .here))).mem)).cl _ HXM.out) ((HR.out _ _ (hM.ents _ (In.there (.there (.there .here))).mem)).cl _ HYM.out)).mono ?_)
          rw [HC1.out]
          rw [HB1.out]
          rw [Bool.and_false]
          rintro e wc16 ⟨rfl, hb⟩
          replace hM := hM.ext hb
          clear hb
          obtain ⟨k0, f0, l0⟩ := hM.row .here
          obtain ⟨k1, f1, l1⟩ := hM.row (.there .here)
          go_wp2_with fail
          clear k0 f0 l0 k1 f1 l1
          apply Mem.atA
          · (repeat' (first | with_reducible exact hM | with_reducible exact hMp | with_reducible apply Mem.drew | with_reducible apply Mem.drewN | with_reducible apply Mem.alloc | with_reducible apply Mem.set | with_reducible exact Sto.row | ((with_reducible refine Sto.rowEq2 ?_ ?_); omega; rfl) | ((with_reducible refine Sto.rowEq ?_); omega) | with_reducible apply Sto.int | with_reducible apply Sto.there | with_reducible assumption | (unfold I64; omega) | (with_reducible (have hMx := Mem.undrew hM; exact hMx)) | (with_reducible (have hMx := Mem.undrew hMp; exact hMx))))
          clear hM
          intro wst hM
          (try simp only [World.size_alloc, World.size_setCell, World.heap_drewN, heapDrew, Nat.add_assoc, Nat.reduceAdd, List.setIfInBounds_toArray, List.set_cons_zero, List.set_cons_succ, List.cons_append, List.nil_append] at hM)
          (first | refine (IsBefore_any u (⟨yu, yq, ya, yn, yc, yl, yw⟩ : NoteI) (⟨xu, xq, xa, xn, xc, xl, xw⟩ : NoteI) _ hu hky hkx ((HR.out _ _ (hM.ents _ (In.there (.there (.there .here))).mem)).cl _ HYM.out) ((HR.out _ _ (hM.ents _ (In.there (.there (.there .here))).mem)).cl _ HXM.out)).mono ?_)
          rw [HC2.out]
          rw [HB2.out]
          rw [Bool.and_false]
          rintro e wc17 ⟨rfl, hb⟩
          replace hM := hM.ext hb
          clear hb
          go_wp2
          go_roundw
          case rel => exact ⟨j + 1, by omega, by go_num, hM.tail.tail⟩
          case measure => simp [intOf]; omega
        · skip
          intro K hK
          go_simp
          refine hK.out _ _ (by apply Mem.tail; (repeat' (first | with_reducible exact hM | with_reducible exact hMp | with_reducible apply Mem.drew | with_reducible apply Mem.drewN | with_reducible apply Mem.alloc | with_reducible apply Mem.set | with_reducible exact Sto.row | ((with_reducible refine Sto.rowEq2 ?_ ?_); omega; rfl) | ((with_reducible refine Sto.rowEq ?_); omega) | with_reducible apply Sto.int | with_reducible apply Sto.there | with_reducible assumption | (unfold I64; omega) | (with_reducible (have hMx := Mem.undrew hM; exact hMx)) | (with_reducible (have hMx := Mem.undrew hMp; exact hMx))))) ?_
          clear hK K hS
          have hMp := hM
          apply Mem.atT
          · (repeat' (first | with_reducible exact hM | with_reducible exact hMp | with_reducible apply Mem.drew | with_reducible apply Mem.drewN | with_reducible apply Mem.alloc | with_reducible apply Mem.set | with_reducible exact Sto.row | ((with_reducible refine Sto.rowEq2 ?_ ?_); omega; rfl) | ((with_reducible refine Sto.rowEq ?_); omega) | with_reducible apply Sto.int | with_reducible apply Sto.there | with_reducible assumption | (unfold I64; omega) | (with_reducible (have hMx := Mem.undrew hM; exact hMx)) | (with_reducible (have hMx := Mem.undrew hMp; exact hMx))))
          clear hM
          intro hM
          (try simp only [World.size_alloc, World.size_setCell, World.heap_drewN, heapDrew, Nat.add_assoc, Nat.reduceAdd, List.setIfInBounds_toArray, List.set_cons_zero, List.set_cons_succ, List.cons_append, List.nil_append] at hM)
          have hS := hM.tail
          refine AtT.only (i := 16) (by kernel_rfl) rfl rfl ?_
          intro K hK
          go_simp
          refine hK.out _ _ (by apply Mem.tail; apply Mem.tail; (repeat' (first | with_reducible exact hM | with_reducible exact hMp | with_reducible apply Mem.drew | with_reducible apply Mem.drewN | with_reducible apply Mem.alloc | with_reducible apply Mem.set | with_reducible exact Sto.row | ((with_reducible refine Sto.rowEq2 ?_ ?_); omega; rfl) | ((with_reducible refine Sto.rowEq ?_); omega) | with_reducible apply Sto.int | with_reducible apply Sto.there | with_reducible assumption | (unfold I64; omega) | (with_reducible (have hMx := Mem.undrew hM; exact hMx)) | (with_reducible (have hMx := Mem.undrew hMp; exact hMx))))) ?_
          clear hK K hS
          have hMp := hM
          apply Mem.atT
          · (repeat' (first | with_reducible exact hM | with_reducible exact hMp | with_reducible apply Mem.drew | with_reducible apply Mem.drewN | with_reducible apply Mem.alloc | with_reducible apply Mem.set | with_reducible exact Sto.row | ((with_reducible refine Sto.rowEq2 ?_ ?_); omega; rfl) | ((with_reducible refine Sto.rowEq ?_); omega) | with_reducible apply Sto.int | with_reducible apply Sto.there | with_reducible assumption | (unfold I64; omega) | (with_reducible (have hMx := Mem.undrew hM; exact hMx)) | (with_reducible (have hMx := Mem.undrew hMp; exact hMx))))
          clear hM
          intro hM
          (try simp only [World.size_alloc, World.size_setCell, World.heap_drewN, heapDrew, Nat.add_assoc, Nat.reduceAdd, List.setIfInBounds_toArray, List.set_cons_zero, List.set_cons_succ, List.cons_append, List.nil_append] at hM)
          have hS := hM.tail.tail
          refine AtT.only (i := 18) (by kernel_rfl) rfl rfl ?_
          intro K hK
          have kk0 := (hM.row .here).cell
          have ff0 := (hM.row .here).free
          have ll0 := (hM.row .here).lt
          have kk1 := (hM.row (.there .here)).cell
          have ff1 := (hM.row (.there .here)).free
          have ll1 := (hM.row (.there .here)).lt
          go_simp
          clear kk0 ff0 ll0 kk1 ff1 ll1
          refine hK.out _ _ (by apply Mem.tail; apply Mem.tail; (repeat' (first | with_reducible exact hM | with_reducible exact hMp | with_reducible apply Mem.drew | with_reducible apply Mem.drewN | with_reducible apply Mem.alloc | with_reducible apply Mem.set | with_reducible exact Sto.row | ((with_reducible refine Sto.rowEq2 ?_ ?_); omega; rfl) | ((with_reducible refine Sto.rowEq ?_); omega) | with_reducible apply Sto.int | with_reducible apply Sto.there | with_reducible assumption | (unfold I64; omega) | (with_reducible (have hMx := Mem.undrew hM; exact hMx)) | (with_reducible (have hMx := Mem.undrew hMp; exact hMx))))) ?_
          clear hK K hS
          apply Mem.atT
          · (repeat' (first | with_reducible exact hM | with_reducible exact hMp | with_reducible apply Mem.drew | with_reducible apply Mem.drewN | with_reducible apply Mem.alloc | with_reducible apply Mem.set | with_reducible exact Sto.row | ((with_reducible refine Sto.rowEq2 ?_ ?_); omega; rfl) | ((with_reducible refine Sto.rowEq ?_); omega) | with_reducible apply Sto.int | with_reducible apply Sto.there | with_reducible assumption | (unfold I64; omega) | (with_reducible (have hMx := Mem.undrew hM; exact hMx)) | (with_reducible (have hMx := Mem.undrew hMp; exact hMx))))
          clear hM
          intro hM
          (try simp only [World.size_alloc, World.size_setCell, World.heap_drewN, heapDrew, Nat.add_assoc, Nat.reduceAdd, List.setIfInBounds_toArray, List.set_cons_zero, List.set_cons_succ, List.cons_append, List.nil_append] at hM)
          have hS := hM.tail.tail
          refine AtT.last (by kernel_rfl) rfl (by kernel_rfl) ?_
          intro K hK
          clear hS
          have kk0 := (hM.row .here).cell
          have ff0 := (hM.row .here).free
          have ll0 := (hM.row .here).lt
          have kk1 := (hM.row (.there .here)).cell
          have ff1 := (hM.row (.there .here)).free
          have ll1 := (hM.row (.there .here)).lt
          go_simp
          clear kk0 ff0 ll0 kk1 ff1 ll1
          refine hK.out _ _ ?_
          clear hK K
          have hM8 := Lib.hid (Mem.pick (is := [0, 1, 2, 3]) hM (by decide) rfl)
          clear hM
          have hM := hM8.out
          clear hM8
          obtain ⟨k0, f0, l0⟩ := hM.row .here
          obtain ⟨k1, f1, l1⟩ := hM.row (.there .here)
          go_wp2_with fail
          clear k0 f0 l0 k1 f1 l1
          apply Mem.atA
          · (repeat' (first | with_reducible exact hM | with_reducible exact hMp | with_reducible apply Mem.drew | with_reducible apply Mem.drewN | with_reducible apply Mem.alloc | with_reducible apply Mem.set | with_reducible exact Sto.row | ((with_reducible refine Sto.rowEq2 ?_ ?_); omega; rfl) | ((with_reducible refine Sto.rowEq ?_); omega) | with_reducible apply Sto.int | with_reducible apply Sto.there | with_reducible assumption | (unfold I64; omega) | (with_reducible (have hMx := Mem.undrew hM; exact hMx)) | (with_reducible (have hMx := Mem.undrew hMp; exact hMx))))
          clear hM
          intro wst hM
          (try simp only [World.size_alloc, World.size_setCell, World.heap_drewN, heapDrew, Nat.add_assoc, Nat.reduceAdd, List.setIfInBounds_toArray, List.set_cons_zero, List.set_cons_succ, List.cons_append, List.nil_append] at hM)
          (first | refine (IsBefore_any u (⟨xu, xq, xa, xn, xc, xl, xw⟩ : NoteI) (⟨yu, yq, ya, yn, yc, yl, yw⟩ : NoteI) _ hu hkx hky ((HR.out _ _ (hM.ents _ (In.there (.there (.there .here))).mem)).cl _ HXM.out) ((HR.out _ _ (hM.ents _ (In.there (.there (.there .here))).mem)).cl _ HYM.out)).mono ?_)
          rw [HC1.out]
          rw [HB1.out]
          rw [Bool.and_false]
          rintro e wc16 ⟨rfl, hb⟩
          replace hM := hM.ext hb
          clear hb
          obtain ⟨k0, f0, l0⟩ := hM.row .here
          obtain ⟨k1, f1, l1⟩ := hM.row (.there .here)
          go_wp2_with fail
          clear k0 f0 l0 k1 f1 l1
          apply Mem.atA
          · (repeat' (first | with_reducible exact hM | with_reducible exact hMp | with_reducible apply Mem.drew | with_reducible apply Mem.drewN | with_reducible apply Mem.alloc | with_reducible apply Mem.set | with_reducible exact Sto.row | ((with_reducible refine Sto.rowEq2 ?_ ?_); omega; rfl) | ((with_reducible refine Sto.rowEq ?_); omega) | with_reducible apply Sto.int | with_reducible apply Sto.there | with_reducible assumption | (unfold I64; omega) | (with_reducible (have hMx := Mem.undrew hM; exact hMx)) | (with_reducible (have hMx := Mem.undrew hMp; exact hMx))))
          clear hM
          intro wst hM
          (try simp only [World.size_alloc, World.size_setCell, World.heap_drewN, heapDrew, Nat.add_assoc, Nat.reduceAdd, List.setIfInBounds_toArray, List.set_cons_zero, List.set_cons_succ, List.cons_append, List.nil_append] at hM)
          (first | refine (IsBefore_any u (⟨yu, yq, ya, yn, yc, yl, yw⟩ : NoteI) (⟨xu, xq, xa, xn, xc, xl, xw⟩ : NoteI) _ hu hky hkx ((HR.out _ _ (hM.ents _ (In.there (.there (.there .here))).mem)).cl _ HYM.out) ((HR.out _ _ (hM.ents _ (In.there (.there (.there .here))).mem)).cl _ HXM.out)).mono ?_)
          rw [HC2.out]
          rw [HB2.out]
          rw [Bool.and_false]
          rintro e wc17 ⟨rfl, hb⟩
          replace hM := hM.ext hb
          clear hb
          go_wp2
          go_roundw
          case rel => exact ⟨j + 1, by omega, by go_num, hM.tail.tail⟩
          case measure => simp [intOf]; omega
      · obtain rfl : j = pr.length := by omega
        go_wp2
        go_ret
        exact ⟨rfl, (by apply Mem.below; (repeat' (first | with_reducible exact hM | with_reducible exact hMp | with_reducible apply Mem.drew | with_reducible apply Mem.drewN | with_reducible apply Mem.alloc | with_reducible apply Mem.set | with_reducible exact Sto.row | ((with_reducible refine Sto.rowEq2 ?_ ?_); omega; rfl) | ((with_reducible refine Sto.rowEq ?_); omega) | with_reducible apply Sto.int | with_reducible apply Sto.there | with_reducible assumption | (unfold I64; omega) | (with_reducible (have hMx := Mem.undrew hM; exact hMx)) | (with_reducible (have hMx := Mem.undrew hMp; exact hMx)))))⟩
end Go.Proofs.Ytjnbdgldpmmamaa
