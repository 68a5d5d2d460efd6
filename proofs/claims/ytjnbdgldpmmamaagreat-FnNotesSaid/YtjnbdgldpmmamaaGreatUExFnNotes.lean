/-
  The law FnNotes, walked.
-/
import Derived.Test.YtjnbdgldpmmamaaGreatUOpCode
import Derived.Test.YtjnbdgldpmmamaaGreatUPairI
import Derived.Deep.DeepCutAuto
import Derived.BigRegion
/-
  The law FnNotes, walked.
-/
namespace Go.Proofs.YtjnbdgldpmmamaaGreat
set_option linter.unusedSimpArgs false
set_option linter.unusedVariables false
open Go.RowKit

set_option maxRecDepth 100000 in
set_option maxHeartbeats 16000000 in
theorem FnNotes_walk (a : Option Addr) (n cc : Nat) (l : List UInt8) (w : World) (hI : n ≤ maxLen ∧ (n ≤ 65536 → Rd FByt w a n cc l)) :
    Calls Tryz.prog 3 #[.slice a n cc] w fun e w' => e = .returned (.bool true) ∧ Below w.heap.size w w' := by
  have hM := Mem.start w
  have HI := Lib.hid hI.2
  clear hI
  go_enter Tryz.func3, Tryz.ntmps3
  go_wp2_with fail
  apply Mem.atA
  · exact memA
  clear hM
  intro wst hM
  (try simp only [World.size_alloc, World.size_setCell, World.heap_drewN, heapDrew, Nat.add_assoc, Nat.reduceAdd, sA, List.cons_append, List.nil_append] at hM)
  (first | refine (vBig_any a n cc _).mono ?_)
  rintro e wc1 ⟨rfl, hb⟩
  replace hM := hM.ext hb
  clear hb
  by_cases hb : 65536 < n
  · go_wp2
    go_ret
    exact ⟨rfl, (by apply Mem.below; (exact memA))⟩
  have HC := Lib.hid (HI.out (by omega))
  clear HI
  go_wp2_with fail
  apply Mem.atA
  · exact memA
  clear hM
  intro wst hM
  (try simp only [World.size_alloc, World.size_setCell, World.heap_drewN, heapDrew, Nat.add_assoc, Nat.reduceAdd, sA, List.cons_append, List.nil_append] at hM)
  (first | refine (drawOrder_any (HC.out.ext hM.below)).mono ?_)
  rintro e w1 ⟨u, b1, o1, n1, c1, xs, X, hu, hf, hl, hr, rfl, hm⟩
  replace hM := hM.join hm
  clear hm
  (try simp only [World.size_alloc, World.size_setCell, World.heap_drewN, heapDrew, Nat.add_assoc, Nat.reduceAdd, sA, List.cons_append, List.nil_append] at hM)
  have HF := Lib.hid hf; have HR := Lib.hid hr
  clear hf hr
  obtain ⟨q, hq⟩ : ∃ r, bookB u (coreN xs) = r := ⟨_, rfl⟩
  obtain ⟨v, hv⟩ : ∃ r, (bookB u (coreN xs) && compB (coreN xs)) = r := ⟨_, rfl⟩
  obtain ⟨os, hos⟩ : ∃ r, ordR u (coreN xs) = r := ⟨_, rfl⟩
  obtain ⟨ms, hms⟩ : ∃ r, missR17 u (coreN xs) = r := ⟨_, rfl⟩
  have hqv : v = true → q = true := fun h => by rw [← hq]; exact (and_parts (hv.trans h)).1
  have hol : os.length ≤ 12 := by rw [← hos]; exact Nat.le_trans ordR_len hl
  have hmv : v = true → ms.length = 0 := fun h => by rw [← hms, miss_none (hv.trans h)]; rfl
  have HQ := Lib.hid hq; have HV := Lib.hid hv; have HO := Lib.hid hos; have HMS := Lib.hid hms; have HQV := Lib.hid hqv; have HMV := Lib.hid hmv
  clear hq hv hos hms hqv hmv
  have hbb1 : (v != v) = false := by cases v <;> rfl
  have hbb2 : (q != q) = false := by cases q <;> rfl
  have HNL := Lib.hid ((HR.out _ _ (hM.ents _ In.here.mem)).rd.len)
  go_wp2_with fail
  apply Mem.atA
  · exact memA
  clear hM
  intro wst hM
  (try simp only [World.size_alloc, World.size_setCell, World.heap_drewN, heapDrew, Nat.add_assoc, Nat.reduceAdd, sA, List.cons_append, List.nil_append] at hM)
  (first | refine (implOrder_any u _ n1 c1 xs _ hu (HR.out _ _ (hM.ents _ In.here.mem)) (few_raw12 HF.out)).mono ?_)
  rw [HO.out]
  rw [HV.out]
  rintro e w2 ⟨a3, c3, rfl, hm⟩
  replace hM := hM.join hm
  clear hm
  (try simp only [World.size_alloc, World.size_setCell, World.heap_drewN, heapDrew, Nat.add_assoc, Nat.reduceAdd, sA, List.cons_append, List.nil_append] at hM)
  go_wp2_with fail
  apply Mem.atA
  · exact memA
  clear hM
  intro wst hM
  (try simp only [World.size_alloc, World.size_setCell, World.heap_drewN, heapDrew, Nat.add_assoc, Nat.reduceAdd, sA, List.cons_append, List.nil_append] at hM)
  (first | refine (specOrder_any u _ n1 c1 xs _ hu (HR.out _ _ (hM.ents _ (In.there .here).mem))).mono ?_)
  rw [HO.out]
  rw [HV.out]
  rintro e w3 ⟨a4, c4, rfl, hm⟩
  replace hM := hM.join hm
  clear hm
  (try simp only [World.size_alloc, World.size_setCell, World.heap_drewN, heapDrew, Nat.add_assoc, Nat.reduceAdd, sA, List.cons_append, List.nil_append] at hM)
  go_wp2_with fail
  apply Mem.atA
  · exact memA
  clear hM
  intro wst hM
  (try simp only [World.size_alloc, World.size_setCell, World.heap_drewN, heapDrew, Nat.add_assoc, Nat.reduceAdd, sA, List.cons_append, List.nil_append] at hM)
  (first | refine (vInts_same _ _ _ os _ _ _ _ (hM.intsR (.there .here)) (hM.intsR .here)).mono ?_)
  rintro e wc5 ⟨rfl, hb⟩
  replace hM := hM.ext hb
  clear hb
  go_wp2_with fail
  apply Mem.atA
  · exact memA
  clear hM
  intro wst hM
  (try simp only [World.size_alloc, World.size_setCell, World.heap_drewN, heapDrew, Nat.add_assoc, Nat.reduceAdd, sA, List.cons_append, List.nil_append] at hM)
  (first | refine (isNotebook_any u _ n1 c1 xs _ hu (HR.out _ _ (hM.ents _ (In.there (.there .here)).mem))).mono ?_)
  rw [HQ.out]
  rintro e wc6 ⟨rfl, hb⟩
  replace hM := hM.ext hb
  clear hb
  go_wp2_with fail
  apply Mem.atA
  · exact memA
  clear hM
  intro wst hM
  (try simp only [World.size_alloc, World.size_setCell, World.heap_drewN, heapDrew, Nat.add_assoc, Nat.reduceAdd, sA, List.cons_append, List.nil_append] at hM)
  (first | refine (specIsNb_any u _ n1 c1 xs _ hu (HR.out _ _ (hM.ents _ (In.there (.there .here)).mem))).mono ?_)
  rw [HQ.out]
  rintro e wc7 ⟨rfl, hb⟩
  replace hM := hM.ext hb
  clear hb
  go_wp2_with fail
  apply Mem.atA
  · exact memA
  clear hM
  intro wst hM
  (try simp only [World.size_alloc, World.size_setCell, World.heap_drewN, heapDrew, Nat.add_assoc, Nat.reduceAdd, sA, List.cons_append, List.nil_append] at hM)
  (first | refine (implComp_any u _ n1 c1 xs _ hu (HR.out _ _ (hM.ents _ (In.there (.there .here)).mem)) (few_raw12 HF.out)).mono ?_)
  rw [HV.out]
  rw [HQ.out]
  rintro e wc8 ⟨rfl, hb⟩
  replace hM := hM.ext hb
  clear hb
  go_wp2_with fail
  apply Mem.atA
  · exact memA
  clear hM
  intro wst hM
  (try simp only [World.size_alloc, World.size_setCell, World.heap_drewN, heapDrew, Nat.add_assoc, Nat.reduceAdd, sA, List.cons_append, List.nil_append] at hM)
  (first | refine (specComp_any u _ n1 c1 xs _ hu (HR.out _ _ (hM.ents _ (In.there (.there .here)).mem))).mono ?_)
  rw [HV.out]
  rw [HQ.out]
  rintro e wc9 ⟨rfl, hb⟩
  replace hM := hM.ext hb
  clear hb
  replace hM := Mem.pick (is := [1, 2]) hM (by decide) rfl
  dsimp only [List.filterMap_cons, List.filterMap_nil, List.getElem?_cons_zero, List.getElem?_cons_succ] at hM
  go_upto_region 10 with fail
  apply Mem.atWpA
  · exact memA
  clear hM
  intro wst hM
  (try simp only [World.size_alloc, World.size_setCell, World.heap_drewN, heapDrew, Nat.add_assoc, Nat.reduceAdd, sA, List.cons_append, List.nil_append] at hM)
  go_cut [109] (fun s wx => s = .bool false ∧ Mem w.heap.size w wx [intE a3 os.length c3 os, packE X])
  case first => as_aux_lemma =>
    cases q
    · have hvf : v = false := by
        cases v with
        | false => rfl
        | true => exact (HQV.out rfl).symm
      subst hvf
      go_wp2_with fail
      go_meet
      exact ⟨rfl, hM⟩
    · go_wp2_with fail
      go_meet
      exact ⟨rfl, hM⟩
  case rest => as_aux_lemma =>
    clear hM
    obtain ⟨rfl, hM⟩ := hcut
    go_wp2_with fail
    apply Mem.atA
    · exact memA
    clear hM
    intro wst hM
    (try simp only [World.size_alloc, World.size_setCell, World.heap_drewN, heapDrew, Nat.add_assoc, Nat.reduceAdd, sA, List.cons_append, List.nil_append] at hM)
    (first | refine (implMissN_any u _ n1 c1 xs _ hu (HR.out _ _ (hM.ents _ (In.there .here).mem)) (few_raw12 HF.out)).mono ?_)
    rw [HMS.out]
    rw [HQ.out]
    rintro e w4 ⟨a5, c5, rfl, hm⟩
    replace hM := hM.join hm
    clear hm
    (try simp only [World.size_alloc, World.size_setCell, World.heap_drewN, heapDrew, Nat.add_assoc, Nat.reduceAdd, sA, List.cons_append, List.nil_append] at hM)
    go_wp2_with fail
    apply Mem.atA
    · exact memA
    clear hM
    intro wst hM
    (try simp only [World.size_alloc, World.size_setCell, World.heap_drewN, heapDrew, Nat.add_assoc, Nat.reduceAdd, sA, List.cons_append, List.nil_append] at hM)
    (first | refine (specMissN_any u _ n1 c1 xs _ hu (HR.out _ _ (hM.ents _ (In.there (.there .here)).mem))).mono ?_)
    rw [HMS.out]
    rw [HQ.out]
    rintro e w5 ⟨a6, c6, rfl, hm⟩
    replace hM := hM.join hm
    clear hm
    (try simp only [World.size_alloc, World.size_setCell, World.heap_drewN, heapDrew, Nat.add_assoc, Nat.reduceAdd, sA, List.cons_append, List.nil_append] at hM)
    go_upto_region 14 with fail
    apply Mem.atWpA
    · exact memA
    clear hM
    intro wst hM
    (try simp only [World.size_alloc, World.size_setCell, World.heap_drewN, heapDrew, Nat.add_assoc, Nat.reduceAdd, sA, List.cons_append, List.nil_append] at hM)
    go_cut [143] (fun s wx => s = .bool false ∧ Mem w.heap.size w wx [intE a3 os.length c3 os, packE X])
    case first => as_aux_lemma =>
      go_wp2_with fail
      apply Mem.atA
      · exact memA
      clear hM
      intro wst hM
      (try simp only [World.size_alloc, World.size_setCell, World.heap_drewN, heapDrew, Nat.add_assoc, Nat.reduceAdd, sA, List.cons_append, List.nil_append] at hM)
      (first | refine (vPairs_same _ _ _ _ _ ms _ (hM.ow (.there .here)).rd (hM.ow .here).rd).mono ?_)
      rintro e wc12 ⟨rfl, hb⟩
      replace hM := hM.ext hb
      clear hb
      replace hM := Mem.pick (is := [2, 3]) hM (by decide) rfl
      dsimp only [List.filterMap_cons, List.filterMap_nil, List.getElem?_cons_zero, List.getElem?_cons_succ] at hM
      cases v
      · go_wp2_with fail
        go_meet
        exact ⟨rfl, hM⟩
      · have hml := HMV.out rfl
        have hmz : ((ms.length : Int) != 0) = false := by rw [hml]; rfl
        clear hml
        go_wp2_with fail
        go_meet
        exact ⟨rfl, hM⟩
    case rest => as_aux_lemma =>
      clear hM HMV HMS
      obtain ⟨rfl, hM⟩ := hcut
      go_wp2_with fail
      go_loopw [17] (fun s17 wr => ∃ i : Nat, i ≤ os.length ∧ s17 = .int .i64 i ∧ Mem w.heap.size w wr [intE a3 os.length c3 os, packE X]) (fun s17 _ => os.length - (intOf s17).toNat)
      case atStart => exact ⟨0, Nat.zero_le _, rfl, hM⟩
      case round =>
        clear hM
        obtain ⟨i, hi, rfl, hM⟩ := hrel
        by_cases hlt : i < os.length
        · go_wp2_with fail
          go_loopw [18] (fun s18 wr => ∃ k : Nat, (i < k ∧ k ≤ os.length) ∧ s18 = .int .i64 k ∧ Mem w.heap.size w wr [intE a3 os.length c3 os, packE X]) (fun s18 _ => os.length - (intOf s18).toNat)
          case atStart => exact ⟨i + 1, by omega, by go_num, hM⟩
          case round =>
            clear hM
            obtain ⟨k, hk, rfl, hM⟩ := hrel
            by_cases hkt : k < os.length
            · have hvt : v = true := by
                cases v with
                | true => rfl
                | false =>
                  have h1 := HO.out
                  rw [ord_none HV.out] at h1
                  rw [← h1] at hlt
                  simp at hlt
              subst hvt
              obtain ⟨p, r, hp, hr, hpn, hrn, hbf, hcm⟩ := ord_fits HNL.out HV.out HO.out hk.1 hkt
              obtain ⟨x, hx⟩ : ∃ x, xs.getD p NoteI.zero = x := ⟨_, rfl⟩
              obtain ⟨y, hy⟩ : ∃ y, xs.getD r NoteI.zero = y := ⟨_, rfl⟩
              have hxm : x ∈ xs := by rw [← hx]; exact getD_memO (by rw [HNL.out]; exact hpn)
              have hym : y ∈ xs := by rw [← hy]; exact getD_memO (by rw [HNL.out]; exact hrn)
              rw [hx, hy] at hbf hcm
              have HX := Lib.hid hx; have HY := Lib.hid hy
              have HXM := Lib.hid hxm; have HYM := Lib.hid hym; have HP := Lib.hid hp; have HRR := Lib.hid hr
              have HB1 := Lib.hid hbf; have HC1 := Lib.hid hcm
              clear hbf hcm hx hy hxm hym hp hr
              obtain ⟨g3, rfl, -⟩ := (hM.ints .here).head (by omega)
              have hwx := (HR.out _ _ (hM.ents _ (In.there .here).mem)).rd.wf _ HXM.out
              have hwy := (HR.out _ _ (hM.ents _ (In.there .here).mem)).rd.wf _ HYM.out
              have hkx : x.wd.length ≤ maxLen := hwx.2.2
              have hky : y.wd.length ≤ maxLen := hwy.2.2
              clear hwx hwy
              obtain ⟨xu, xq, xa, xn, xc, xl, xw⟩ := x
              obtain ⟨yu, yq, ya, yn, yc, yl, yw⟩ := y
              dsimp only at hkx hky
              have i0 : (0 : Int) ≤ (i : Int) := by omega
              have i1 : (i : Int) < (os.length : Int) := by omega
              have k0 : (0 : Int) ≤ (k : Int) := by omega
              have k1 : (k : Int) < (os.length : Int) := by omega
              have p0 : (0 : Int) ≤ (p : Int) := by omega
              have p1 : (p : Int) < (n1 : Int) := by omega
              have r0 : (0 : Int) ≤ (r : Int) := by omega
              have r1 : (r : Int) < (n1 : Int) := by omega
              go_upto_region 22 with fail
              apply Mem.atWpA
              · exact memA
              clear hM
              intro wst hM
              (try simp only [World.size_alloc, World.size_setCell, World.heap_drewN, heapDrew, Nat.add_assoc, Nat.reduceAdd, sA, List.cons_append, List.nil_append] at hM)
              refine AtT.startA hM hM 20 (by kernel_rfl) ?_
              clear hM
              intro wd hM
              have hS := hM
              refine AtT.tk 0 ?_ 159 ?_ hS ?_
              rotate_left
              · (intro wS hSw; (try dsimp only at hSw); go_simp; (try rw [if_neg (by omega)]); try with_reducible rfl)
              simp only [Act.put, sA]
              refine AtT.tk 1 ?_ 160 ?_ hS ?_
              rotate_left
              · (intro wS hSw; (try dsimp only at hSw); go_simp; (try rw [if_neg (by omega)]); try with_reducible rfl)
              simp only [Act.put, sA]
              refine AtT.tk 2 ?_ 161 ?_ hS ?_
              rotate_left
              · (intro wS hSw; (try dsimp only at hSw); go_simp; (try rw [if_neg (by omega)]); try with_reducible rfl)
              simp only [Act.put, sA]
              refine AtT.tk 3 ?_ 162 ?_ hS ?_
              rotate_left
              · (intro wS hSw; (try dsimp only at hSw); go_simp; (try rw [if_neg (by omega)]); try with_reducible rfl)
              simp only [Act.put, sA]
              refine AtT.tk 4 ?_ 163 ?_ hS ?_
              rotate_left
              · (intro wS hSw; (try dsimp only at hSw); have q1 := (hSw.ints .here).cellAt hlt; rw [HP.out] at q1; have q2 := (hSw.ints .here).cellAt hkt; rw [HRR.out] at q2; have q4 := ((HR.out _ _ (hSw.ents _ (In.there .here).mem)).rd.cellNote hpn).2; rw [HX.out] at q4; have q5 := ((HR.out _ _ (hSw.ents _ (In.there .here).mem)).rd.cellNote hrn).2; rw [HY.out] at q5; dsimp only at q4 q5; have s0 := q4.1; have s1 := q4.2.1; have s2 := q4.2.2.1; have s3 := q4.2.2.2; have t0 := q5.1; have t1 := q5.2.1; have t2 := q5.2.2.1; have t3 := q5.2.2.2; go_simp; (try rw [if_neg (by omega)]); try with_reducible rfl)
              simp only [Act.put, sA]
              refine AtT.tk 5 ?_ 164 ?_ hS ?_
              rotate_left
              · (intro wS hSw; (try dsimp only at hSw); have q1 := (hSw.ints .here).cellAt hlt; rw [HP.out] at q1; have q2 := (hSw.ints .here).cellAt hkt; rw [HRR.out] at q2; have q4 := ((HR.out _ _ (hSw.ents _ (In.there .here).mem)).rd.cellNote hpn).2; rw [HX.out] at q4; have q5 := ((HR.out _ _ (hSw.ents _ (In.there .here).mem)).rd.cellNote hrn).2; rw [HY.out] at q5; dsimp only at q4 q5; have s0 := q4.1; have s1 := q4.2.1; have s2 := q4.2.2.1; have s3 := q4.2.2.2; have t0 := q5.1; have t1 := q5.2.1; have t2 := q5.2.2.1; have t3 := q5.2.2.2; go_simp; (try rw [if_neg (by omega)]); try with_reducible rfl)
              simp only [Act.put, sA]
              refine AtT.tk 6 ?_ 165 ?_ hS ?_
              rotate_left
              · (intro wS hSw; (try dsimp only at hSw); have q1 := (hSw.ints .here).cellAt hlt; rw [HP.out] at q1; have q2 := (hSw.ints .here).cellAt hkt; rw [HRR.out] at q2; have q4 := ((HR.out _ _ (hSw.ents _ (In.there .here).mem)).rd.cellNote hpn).2; rw [HX.out] at q4; have q5 := ((HR.out _ _ (hSw.ents _ (In.there .here).mem)).rd.cellNote hrn).2; rw [HY.out] at q5; dsimp only at q4 q5; have s0 := q4.1; have s1 := q4.2.1; have s2 := q4.2.2.1; have s3 := q4.2.2.2; have t0 := q5.1; have t1 := q5.2.1; have t2 := q5.2.2.1; have t3 := q5.2.2.2; go_simp; (try rw [if_neg (by omega)]); try with_reducible rfl)
              simp only [Act.put, sA]
              refine AtT.tk 7 ?_ 166 ?_ hS ?_
              rotate_left
              · (intro wS hSw; (try dsimp only at hSw); have q1 := (hSw.ints .here).cellAt hlt; rw [HP.out] at q1; have q2 := (hSw.ints .here).cellAt hkt; rw [HRR.out] at q2; have q4 := ((HR.out _ _ (hSw.ents _ (In.there .here).mem)).rd.cellNote hpn).2; rw [HX.out] at q4; have q5 := ((HR.out _ _ (hSw.ents _ (In.there .here).mem)).rd.cellNote hrn).2; rw [HY.out] at q5; dsimp only at q4 q5; have s0 := q4.1; have s1 := q4.2.1; have s2 := q4.2.2.1; have s3 := q4.2.2.2; have t0 := q5.1; have t1 := q5.2.1; have t2 := q5.2.2.1; have t3 := q5.2.2.2; go_simp; (try rw [if_neg (by omega)]); try with_reducible rfl)
              simp only [Act.put, sA]
              refine AtT.tk 8 ?_ 167 ?_ hS ?_
              rotate_left
              · (intro wS hSw; (try dsimp only at hSw); go_simp; (try rw [if_neg (by omega)]); try with_reducible rfl)
              simp only [Act.put, sA]
              refine AtT.tk 9 ?_ 168 ?_ hS ?_
              rotate_left
              · (intro wS hSw; (try dsimp only at hSw); go_simp; (try rw [if_neg (by omega)]); try with_reducible rfl)
              simp only [Act.put, sA]
              refine AtT.tk 10 ?_ 169 ?_ hS ?_
              rotate_left
              · (intro wS hSw; (try dsimp only at hSw); go_simp; (try rw [if_neg (by omega)]); try with_reducible rfl)
              simp only [Act.put, sA]
              refine AtT.tk 11 ?_ 170 ?_ hS ?_
              rotate_left
              · (intro wS hSw; (try dsimp only at hSw); have q1 := (hSw.ints .here).cellAt hlt; rw [HP.out] at q1; have q2 := (hSw.ints .here).cellAt hkt; rw [HRR.out] at q2; have q4 := ((HR.out _ _ (hSw.ents _ (In.there .here).mem)).rd.cellNote hpn).2; rw [HX.out] at q4; have q5 := ((HR.out _ _ (hSw.ents _ (In.there .here).mem)).rd.cellNote hrn).2; rw [HY.out] at q5; dsimp only at q4 q5; have s0 := q4.1; have s1 := q4.2.1; have s2 := q4.2.2.1; have s3 := q4.2.2.2; have t0 := q5.1; have t1 := q5.2.1; have t2 := q5.2.2.1; have t3 := q5.2.2.2; go_simp; (try rw [if_neg (by omega)]); try with_reducible rfl)
              simp only [Act.put, sA]
              refine AtT.tk 12 ?_ 171 ?_ hS ?_
              rotate_left
              · (intro wS hSw; (try dsimp only at hSw); have q1 := (hSw.ints .here).cellAt hlt; rw [HP.out] at q1; have q2 := (hSw.ints .here).cellAt hkt; rw [HRR.out] at q2; have q4 := ((HR.out _ _ (hSw.ents _ (In.there .here).mem)).rd.cellNote hpn).2; rw [HX.out] at q4; have q5 := ((HR.out _ _ (hSw.ents _ (In.there .here).mem)).rd.cellNote hrn).2; rw [HY.out] at q5; dsimp only at q4 q5; have s0 := q4.1; have s1 := q4.2.1; have s2 := q4.2.2.1; have s3 := q4.2.2.2; have t0 := q5.1; have t1 := q5.2.1; have t2 := q5.2.2.1; have t3 := q5.2.2.2; go_simp; (try rw [if_neg (by omega)]); try with_reducible rfl)
              simp only [Act.put, sA]
              refine AtT.tk 13 ?_ 172 ?_ hS ?_
              rotate_left
              · (intro wS hSw; (try dsimp only at hSw); have q1 := (hSw.ints .here).cellAt hlt; rw [HP.out] at q1; have q2 := (hSw.ints .here).cellAt hkt; rw [HRR.out] at q2; have q4 := ((HR.out _ _ (hSw.ents _ (In.there .here).mem)).rd.cellNote hpn).2; rw [HX.out] at q4; have q5 := ((HR.out _ _ (hSw.ents _ (In.there .here).mem)).rd.cellNote hrn).2; rw [HY.out] at q5; dsimp only at q4 q5; have s0 := q4.1; have s1 := q4.2.1; have s2 := q4.2.2.1; have s3 := q4.2.2.2; have t0 := q5.1; have t1 := q5.2.1; have t2 := q5.2.2.1; have t3 := q5.2.2.2; go_simp; (try rw [if_neg (by omega)]); try with_reducible rfl)
              simp only [Act.put, sA]
              refine AtT.tk 14 ?_ 173 ?_ hS ?_
              rotate_left
              · (intro wS hSw; (try dsimp only at hSw); have q1 := (hSw.ints .here).cellAt hlt; rw [HP.out] at q1; have q2 := (hSw.ints .here).cellAt hkt; rw [HRR.out] at q2; have q4 := ((HR.out _ _ (hSw.ents _ (In.there .here).mem)).rd.cellNote hpn).2; rw [HX.out] at q4; have q5 := ((HR.out _ _ (hSw.ents _ (In.there .here).mem)).rd.cellNote hrn).2; rw [HY.out] at q5; dsimp only at q4 q5; have s0 := q4.1; have s1 := q4.2.1; have s2 := q4.2.2.1; have s3 := q4.2.2.2; have t0 := q5.1; have t1 := q5.2.1; have t2 := q5.2.2.1; have t3 := q5.2.2.2; go_simp; (try rw [if_neg (by omega)]); try with_reducible rfl)
              simp only [Act.put, sA]
              refine AtT.only (i := 15) (by kernel_rfl) rfl rfl ?_
              intro K hK
              go_simp
              refine (IsBefore_any u (⟨yu, yq, ya, yn, yc, yl, yw⟩ : NoteI) (⟨xu, xq, xa, xn, xc, xl, xw⟩ : NoteI) _ hu hky hkx ((HR.out _ _ (hM.ents _ (In.there .here).mem)).cl _ HYM.out) ((HR.out _ _ (hM.ents _ (In.there .here).mem)).cl _ HXM.out)).mono ?_
              rw [HC1.out, HB1.out, Bool.and_false]
              rintro e w5 ⟨rfl, hb⟩
              replace hM := hM.ext hb
              clear hb
              try dsimp only
              refine hK.out _ _ (hM) ?_
              clear hK K hS
              have hS := hM
              refine AtT.tk 16 ?_ 158 ?_ hS ?_
              rotate_left
              · (intro wS hSw; (try dsimp only at hSw); go_simp; (try rw [if_neg (by omega)]); try with_reducible rfl)
              simp only [Act.put, sA]
              refine AtT.tk 17 ?_ 175 ?_ hS ?_
              rotate_left
              · (intro wS hSw; (try dsimp only at hSw); go_simp; (try rw [if_neg (by omega)]); try with_reducible rfl)
              simp only [Act.put, sA]
              refine AtT.tk 18 ?_ 176 ?_ hS ?_
              rotate_left
              · (intro wS hSw; (try dsimp only at hSw); go_simp; (try rw [if_neg (by omega)]); try with_reducible rfl)
              simp only [Act.put, sA]
              refine AtT.tk 19 ?_ 19 ?_ hS ?_
              rotate_left
              · (intro wS hSw; (try dsimp only at hSw); go_simp; (try rw [if_neg (by omega)]); try with_reducible rfl)
              simp only [Act.put, sA]
              refine AtT.last (by kernel_rfl) rfl (by kernel_rfl) ?_
              intro K hK
              clear hS
              go_simp
              refine hK.out _ _ ?_
              clear hK K
              go_wp2
              go_roundw
              case rel => exact ⟨k + 1, by omega, by go_num, hM⟩
              case measure => simp [intOf]; omega
            · obtain rfl : k = os.length := by omega
              go_wp2
              go_roundw
              case rel => exact ⟨i + 1, by omega, by go_num, hM⟩
              case measure => simp [intOf]; omega
        · obtain rfl : i = os.length := by omega
          clear HNL HF HR HQ HV HO HQV hbb1 hbb2 hu hl hol
          have hM2 := hM.sub (G' := []) (by simp)
          clear hM
          have hM := hM2
          clear hM2
          go_wp2_with fail
          apply Mem.atA
          · exact memA
          clear hM
          intro wst hM
          (try simp only [World.size_alloc, World.size_setCell, World.heap_drewN, heapDrew, Nat.add_assoc, Nat.reduceAdd, sA, List.cons_append, List.nil_append] at hM)
          (first | refine (drawMergeN_any (HC.out.ext hM.below)).mono ?_)
          rintro e w1 ⟨u, b1, o1, n1, c1, xs, a2, n2, c2, zs, X, hu, hf, hz, hr, rfl, hm⟩
          replace hM := hM.join hm
          clear hm
          (try simp only [World.size_alloc, World.size_setCell, World.heap_drewN, heapDrew, Nat.add_assoc, Nat.reduceAdd, sA, List.cons_append, List.nil_append] at hM)
          have HF := Lib.hid hf; have HR := Lib.hid hr; have HZ := Lib.hid hz
          clear hf hr hz
          obtain ⟨m, hm⟩ : ∃ r, mergeB u (coreN xs) (coreN zs) = r := ⟨_, rfl⟩
          obtain ⟨rv, hrv⟩ : ∃ r, mergeR u (coreN xs) (coreN zs) = r := ⟨_, rfl⟩
          have hm2 : mergeB u (coreN zs) (coreN xs) = m := by rw [mergeB_comm]; exact hm
          have hrv2 : mergeR u (coreN zs) (coreN xs) = rv := by rw [mergeR_comm]; exact hrv
          have HM := Lib.hid hm; have HRV := Lib.hid hrv; have HM2 := Lib.hid hm2; have HRV2 := Lib.hid hrv2
          clear hm hrv hm2 hrv2
          have hbb1 : (m != m) = false := by cases m <;> rfl
          go_wp2_with fail
          apply Mem.atA
          · exact memA
          clear hM
          intro wst hM
          (try simp only [World.size_alloc, World.size_setCell, World.heap_drewN, heapDrew, Nat.add_assoc, Nat.reduceAdd, sA, List.cons_append, List.nil_append] at hM)
          (first | refine (implMerge_any u _ n1 c1 xs a2 n2 c2 zs _ hu (HR.out _ _ (hM.ents _ In.here.mem)).1 (HR.out _ _ (hM.ents _ In.here.mem)).2).mono ?_)
          rw [HM.out]
          rw [HRV.out]
          rintro e w2 ⟨a3, c3, ys, hy, rfl, hm⟩
          replace hM := hM.join hm
          clear hm
          (try simp only [World.size_alloc, World.size_setCell, World.heap_drewN, heapDrew, Nat.add_assoc, Nat.reduceAdd, sA, List.cons_append, List.nil_append] at hM)
          go_wp2_with fail
          apply Mem.atA
          · exact memA
          clear hM
          intro wst hM
          (try simp only [World.size_alloc, World.size_setCell, World.heap_drewN, heapDrew, Nat.add_assoc, Nat.reduceAdd, sA, List.cons_append, List.nil_append] at hM)
          (first | refine (implMerge_any u a2 n2 c2 zs _ n1 c1 xs _ hu (HR.out _ _ (hM.ents _ (In.there .here).mem)).2 (HR.out _ _ (hM.ents _ (In.there .here).mem)).1).mono ?_)
          rw [HM2.out]
          rw [HRV2.out]
          rintro e w3 ⟨a4, c4, yb, hyb, rfl, hm⟩
          replace hM := hM.join hm
          clear hm
          (try simp only [World.size_alloc, World.size_setCell, World.heap_drewN, heapDrew, Nat.add_assoc, Nat.reduceAdd, sA, List.cons_append, List.nil_append] at hM)
          go_wp2_with fail
          apply Mem.atA
          · exact memA
          clear hM
          intro wst hM
          (try simp only [World.size_alloc, World.size_setCell, World.heap_drewN, heapDrew, Nat.add_assoc, Nat.reduceAdd, sA, List.cons_append, List.nil_append] at hM)
          (first | refine (specMerge_any u _ n1 c1 xs a2 n2 c2 zs _ hu (HR.out _ _ (hM.ents _ (In.there (.there .here)).mem)).1 (HR.out _ _ (hM.ents _ (In.there (.there .here)).mem)).2).mono ?_)
          rw [HM.out]
          rw [HRV.out]
          rintro e w4 ⟨a5, c5, yc, hyc, rfl, hm⟩
          replace hM := hM.join hm
          clear hm
          (try simp only [World.size_alloc, World.size_setCell, World.heap_drewN, heapDrew, Nat.add_assoc, Nat.reduceAdd, sA, List.cons_append, List.nil_append] at hM)
          have HY := Lib.hid hy; have HYB := Lib.hid hyb; have HYC := Lib.hid hyc
          clear hy hyb hyc
          go_wp2_with fail
          apply Mem.atA
          · exact memA
          clear hM
          intro wst hM
          (try simp only [World.size_alloc, World.size_setCell, World.heap_drewN, heapDrew, Nat.add_assoc, Nat.reduceAdd, sA, List.cons_append, List.nil_append] at hM)
          (first | refine (vNotes_same _ _ _ ys _ _ _ yc _ (hM.notes (.there (.there .here))) (hM.notes .here) (HY.out.trans HYC.out.symm)).mono ?_)
          rintro e wc17 ⟨rfl, hb⟩
          replace hM := hM.ext hb
          clear hb
          go_wp2_with fail
          apply Mem.atA
          · exact memA
          clear hM
          intro wst hM
          (try simp only [World.size_alloc, World.size_setCell, World.heap_drewN, heapDrew, Nat.add_assoc, Nat.reduceAdd, sA, List.cons_append, List.nil_append] at hM)
          (first | refine (vNotes_same _ _ _ yb _ _ _ ys _ (hM.notes (.there .here)) (hM.notes (.there (.there .here))) (HYB.out.trans HY.out.symm)).mono ?_)
          rintro e wc18 ⟨rfl, hb⟩
          replace hM := hM.ext hb
          clear hb
          replace hM := Mem.pick (is := [2, 3]) hM (by decide) rfl
          dsimp only [List.filterMap_cons, List.filterMap_nil, List.getElem?_cons_zero, List.getElem?_cons_succ] at hM
          go_upto_if 229 with fail
          go_cut [] (fun wx => Mem w.heap.size w wx [])
          case first => as_aux_lemma =>
            cases m
            · go_wp2_with fail
              go_meet
              exact hM.sub (by simp)
            have HW := Lib.hid (merge_factsN HM.out HRV.out HY.out HF.out HZ.out)
            obtain ⟨x, hx⟩ : ∃ r, compB (coreN xs) = r := ⟨_, rfl⟩
            obtain ⟨y, hy⟩ : ∃ r, compB (coreN zs) = r := ⟨_, rfl⟩
            obtain ⟨z, hz⟩ : ∃ r, compB (coreN ys) = r := ⟨_, rfl⟩
            have hxyz : x = true → y = true → z = true := fun h1 h2 => by rw [← hz]; exact HW.out.cmp (hx.trans h1) (hy.trans h2)
            have HX := Lib.hid hx; have HYY := Lib.hid hy; have HZZ := Lib.hid hz; have HXYZ := Lib.hid hxyz
            clear hx hy hz hxyz
            go_wp2_with fail
            apply Mem.atA
            · exact memA
            clear hM
            intro wst hM
            (try simp only [World.size_alloc, World.size_setCell, World.heap_drewN, heapDrew, Nat.add_assoc, Nat.reduceAdd, sA, List.cons_append, List.nil_append] at hM)
            (first | refine (implMerge_any u _ _ _ ys _ n1 c1 xs _ hu (hM.notes .here) (HR.out _ _ (hM.ents _ (In.there .here).mem)).1).mono ?_)
            rw [HW.out.ag]
            rw [HW.out.agr]
            rintro e w5 ⟨a6, c6, yd, hyd, rfl, hm⟩
            replace hM := hM.join hm
            clear hm
            (try simp only [World.size_alloc, World.size_setCell, World.heap_drewN, heapDrew, Nat.add_assoc, Nat.reduceAdd, sA, List.cons_append, List.nil_append] at hM)
            have HYD := Lib.hid hyd
            clear hyd
            go_wp2_with fail
            apply Mem.atA
            · exact memA
            clear hM
            intro wst hM
            (try simp only [World.size_alloc, World.size_setCell, World.heap_drewN, heapDrew, Nat.add_assoc, Nat.reduceAdd, sA, List.cons_append, List.nil_append] at hM)
            (first | refine (implComp_any u _ n1 c1 xs _ hu (HR.out _ _ (hM.ents _ (In.there (.there .here)).mem)).1 (fun _ => HW.out.r1)).mono ?_)
            rw [HX.out]
            rw [HW.out.b1]
            rintro e wc20 ⟨rfl, hb⟩
            replace hM := hM.ext hb
            clear hb
            go_wp2_with fail
            apply Mem.atA
            · exact memA
            clear hM
            intro wst hM
            (try simp only [World.size_alloc, World.size_setCell, World.heap_drewN, heapDrew, Nat.add_assoc, Nat.reduceAdd, sA, List.cons_append, List.nil_append] at hM)
            (first | refine (implComp_any u a2 n2 c2 zs _ hu (HR.out _ _ (hM.ents _ (In.there (.there .here)).mem)).2 (fun _ => HW.out.r2)).mono ?_)
            rw [HYY.out]
            rw [HW.out.b2]
            rintro e wc21 ⟨rfl, hb⟩
            replace hM := hM.ext hb
            clear hb
            go_wp2_with fail
            apply Mem.atA
            · exact memA
            clear hM
            intro wst hM
            (try simp only [World.size_alloc, World.size_setCell, World.heap_drewN, heapDrew, Nat.add_assoc, Nat.reduceAdd, sA, List.cons_append, List.nil_append] at hM)
            (first | refine (implComp_any u _ _ _ ys _ hu (hM.notes (.there .here)) (fun _ => HW.out.r3)).mono ?_)
            rw [HZZ.out]
            rw [HW.out.b3]
            rintro e wc22 ⟨rfl, hb⟩
            replace hM := hM.ext hb
            clear hb
            go_wp2_with fail
            apply Mem.atA
            · exact memA
            clear hM
            intro wst hM
            (try simp only [World.size_alloc, World.size_setCell, World.heap_drewN, heapDrew, Nat.add_assoc, Nat.reduceAdd, sA, List.cons_append, List.nil_append] at hM)
            (first | refine (vNotes_same _ _ _ yd _ _ _ ys _ (hM.notes .here) (hM.notes (.there .here)) (HYD.out.trans HY.out.symm)).mono ?_)
            rintro e wc23 ⟨rfl, hb⟩
            replace hM := hM.ext hb
            clear hb
            cases x
            · go_wp2_with fail
              go_meet
              exact hM.sub (by simp)
            cases y
            · go_wp2_with fail
              go_meet
              exact hM.sub (by simp)
            obtain rfl := HXYZ.out rfl rfl
            go_wp2_with fail
            go_meet
            exact hM.sub (by simp)
          case rest => as_aux_lemma =>
            clear hM HF HR HZ HM HRV HM2 HRV2 HY HYB HYC hbb1 hu
            have hM := hcut
            clear hcut
            go_wp2_with fail
            apply Mem.atA
            · exact memA
            clear hM
            intro wst hM
            (try simp only [World.size_alloc, World.size_setCell, World.heap_drewN, heapDrew, Nat.add_assoc, Nat.reduceAdd, sA, List.cons_append, List.nil_append] at hM)
            (first | refine (drawBefN_any (HC.out.ext hM.below)).mono ?_)
            rintro e w1 ⟨u, x, y, X, hu, hx, hy, hr, rfl, hm⟩
            replace hM := hM.join hm
            clear hm
            (try simp only [World.size_alloc, World.size_setCell, World.heap_drewN, heapDrew, Nat.add_assoc, Nat.reduceAdd, sA, List.cons_append, List.nil_append] at hM)
            have HR := Lib.hid hr
            have hkx : x.wd.length ≤ maxLen := hx.2.2
            have hky : y.wd.length ≤ maxLen := hy.2.2
            clear hr hx hy
            obtain ⟨p, hp⟩ : ∃ r, cmpB u x.core y.core = r := ⟨_, rfl⟩
            obtain ⟨q, hq⟩ : ∃ r, (p && befC x.core y.core) = r := ⟨_, rfl⟩
            have HP := Lib.hid hp; have HQ := Lib.hid hq
            clear hp hq
            have e1 : (p == p) = true := by simp
            have e2 : (q == q) = true := by simp
            obtain ⟨xu, xq, xa, xn, xc, xl, xw⟩ := x
            obtain ⟨yu, yq, ya, yn, yc, yl, yw⟩ := y
            dsimp only at hkx hky
            go_upto_region 39 with fail
            apply Mem.atWpA
            · exact memA
            clear hM
            intro wst hM
            (try simp only [World.size_alloc, World.size_setCell, World.heap_drewN, heapDrew, Nat.add_assoc, Nat.reduceAdd, sA, List.cons_append, List.nil_append] at hM)
            obtain ⟨k0, f0, l0⟩ := hM.row .here
            obtain ⟨k1, f1, l1⟩ := hM.row (.there .here)
            go_wp2_with fail
            clear k0 f0 l0 k1 f1 l1
            apply Mem.atA
            · exact memA
            clear hM
            intro wst hM
            (try simp only [World.size_alloc, World.size_setCell, World.heap_drewN, heapDrew, Nat.add_assoc, Nat.reduceAdd, sA, List.cons_append, List.nil_append] at hM)
            (first | refine (IsBefore_any u (⟨xu, xq, xa, xn, xc, xl, xw⟩ : NoteI) (⟨yu, yq, ya, yn, yc, yl, yw⟩ : NoteI) _ hu hkx hky (HR.out _ _ (hM.ents _ (In.there (.there .here)).mem)).1 (HR.out _ _ (hM.ents _ (In.there (.there .here)).mem)).2).mono ?_)
            rw [HP.out]
            rw [HQ.out]
            rintro e wc25 ⟨rfl, hb⟩
            replace hM := hM.ext hb
            clear hb
            obtain ⟨k0, f0, l0⟩ := hM.row .here
            obtain ⟨k1, f1, l1⟩ := hM.row (.there .here)
            go_wp2_with fail
            clear k0 f0 l0 k1 f1 l1
            apply Mem.atA
            · exact memA
            clear hM
            intro wst hM
            (try simp only [World.size_alloc, World.size_setCell, World.heap_drewN, heapDrew, Nat.add_assoc, Nat.reduceAdd, sA, List.cons_append, List.nil_append] at hM)
            (first | refine (specIsBefore_any u (⟨xu, xq, xa, xn, xc, xl, xw⟩ : NoteI) (⟨yu, yq, ya, yn, yc, yl, yw⟩ : NoteI) _ hu hkx hky (HR.out _ _ (hM.ents _ (In.there (.there .here)).mem)).1 (HR.out _ _ (hM.ents _ (In.there (.there .here)).mem)).2).mono ?_)
            rw [HP.out]
            rw [HQ.out]
            rintro e wc26 ⟨rfl, hb⟩
            replace hM := hM.ext hb
            clear hb
            cases p <;> cases q <;> (go_wp2; go_ret; exact ⟨rfl, (by apply Mem.below; (exact memA))⟩)
end Go.Proofs.YtjnbdgldpmmamaaGreat
