/-
  Complete notebooks: the program's.
-/
import Derived.Test.YtjnbdgldpmmamaaGreatUMisI
/-
  Complete notebooks: the program's.
-/
namespace Go.Proofs.YtjnbdgldpmmamaaGreat
set_option linter.unusedSimpArgs false
set_option linter.unusedVariables false
open Go.RowKit

theorem raw_comp {l : List NoteC} (h : rawM l ≠ []) : compB l = false := by
  cases hc : compB l
  · rfl
  · exact absurd (few_raw (comp_few hc)) h
theorem raw_none {l : List NoteC} (h : rawM l = []) : ∀ x ∈ l, ∀ p ∈ toldA x.cl, hasP l p = true := by
  intro x hx p hp
  cases hh : hasP l p
  · have := rawM_mem.2 ⟨⟨x, hx, hp⟩, hh⟩
    rw [h] at this
    cases this
  · rfl
theorem comp_bad2 {l : List NoteC} {x : NoteC} (hx : x ∈ l) {p : Int × Int} (hp : p ∈ toldA x.cl) (h : knowP l x p = false) : compB l = false := by
  cases hc : compB l
  · rfl
  · rw [compB_true.1 hc x hx p hp] at h
    cases h
theorem toldU_all {u s : Nat} {f : Int × Int → Bool} (h1 : (toldU u s).all f = true) (h2 : f ((u : Int), (s : Int) + 1) = true) : (toldU u (s + 1)).all f = true := by
  rw [toldU, List.all_append, h1]
  simp [h2]
theorem toldC_all {cl : List Int} {v : Nat} {f : Int × Int → Bool} (h1 : (toldC cl v).all f = true) (h2 : (toldU v (cl.getD v 0).toNat).all f = true) : (toldC cl (v + 1)).all f = true := by
  rw [toldC, List.all_append, h1, h2]
  rfl
set_option maxRecDepth 100000 in
set_option maxHeartbeats 16000000 in
theorem complete_any (u : Int) (a : Option Addr) (n c : Nat) (xs : List NoteI) (w : World) (hb : bookB u (coreN xs) = true) (h : RdN w a n c xs) (hf : (rawM (coreN xs)).length ≤ 12) :
    Calls Tryz.prog 24 #[.slice a n c] w fun e w' => e = .returned (.bool (compB (coreN xs))) ∧ Below w.heap.size w w' := by
  have hM := Mem.start w
  have hn12 : n ≤ 12 := by have := book_len hb; rw [coreN_len, h.rd.len] at this; exact this
  have hNL : (coreN xs).length = n := by rw [coreN_len, h.rd.len]
  have HMS := Lib.hid (fun (w' : World) (hb' : Below w.heap.size w w') => missing_any u a n c xs w' hb (h.ext hb') hf)
  by_cases hr : rawM (coreN xs) ≠ []
  · have hl : 0 < (rawM (coreN xs)).length := List.length_pos_iff.2 hr
    have hc := raw_comp hr
    rw [hc]
    obtain ⟨m, hm⟩ : ∃ m, (rawM (coreN xs)).length = m := ⟨_, rfl⟩
    rw [hm] at HMS hl
    clear hb h hf hr hc hm
    go_enter Tryz.func24, Tryz.ntmps24
    go_wp2_with fail
    apply Mem.atA
    · exact memA
    clear hM
    intro wst hM
    (try simp only [World.size_alloc, World.size_setCell, World.heap_drewN, heapDrew, Nat.add_assoc, Nat.reduceAdd, sA, List.cons_append, List.nil_append] at hM)
    refine (HMS.out _ hM.below).mono ?_
    rintro e w3 ⟨a3, c3, rfl, hm⟩
    replace hM := hM.join hm
    clear hm
    go_wp2
    go_ret
    exact ⟨rfl, (by apply Mem.below; (exact memA))⟩
  replace hr : rawM (coreN xs) = [] := Classical.not_not.1 hr
  have hall := raw_none hr
  have hl : (rawM (coreN xs)).length = 0 := by rw [hr]; rfl
  rw [hl] at HMS
  clear hr hl
  have hcl : ∀ k, k < n → ((coreN xs).getD k NoteC.zero).cl = (xs.getD k NoteI.zero).cl := fun k hk => by rw [coreN_getD]; rfl
  have HVB := Lib.hid (fun k (hk : k < n) => (noteB_true (book_note hb (k := k) (by rw [hNL]; exact hk))).2.1)
  have HPL := Lib.hid (fun (i j : Nat) (hi : i < n) (hj : j < n) => book_place hb h hi hj)
  have HNN := Lib.hid (fun (i j : Nat) (hi : i < n) (hj : j < n) => (by
    have h1 := (noteB_true (book_note hb (k := i) (by rw [hNL]; exact hi))).1
    have h2 := (noteB_true (book_note hb (k := j) (by rw [hNL]; exact hj))).1
    rw [hcl _ hi, (h.get hi).len] at h1
    rw [hcl _ hj, (h.get hj).len] at h2
    omega : (xs.getD i NoteI.zero).n = (xs.getD j NoteI.zero).n))
  have HKE := Lib.hid (fun (i j : Nat) (hi : i < n) (hj : j < n) => (by
    by_cases e : i = j
    · subst e
      rw [decide_eq_true rfl]
      exact sameK_true.2 ⟨rfl, rfl⟩
    · rw [decide_eq_false e]
      rcases Nat.lt_or_gt_of_ne e with h1 | h1
      · exact ltN_key (asc_get (book_asc hb) h1 (by rw [hNL]; exact hj))
      · rw [sameK_symm]; exact ltN_key (asc_get (book_asc hb) h1 (by rw [hNL]; exact hi)) : sameK ((coreN xs).getD i NoteC.zero) ((coreN xs).getD j NoteC.zero) = decide (i = j)))
  have HAL := Lib.hid (fun (k : Nat) (hk : k < n) (p : Int × Int) (hp : p ∈ toldA (xs.getD k NoteI.zero).cl) => hall _ (getD_memN (l := coreN xs) (by rw [hNL]; exact hk)) p (by rw [hcl k hk]; exact hp))
  have HBD := Lib.hid (fun (k : Nat) (hk : k < n) (p : Int × Int) (hp : p ∈ toldA (xs.getD k NoteI.zero).cl) (hq : knowP (coreN xs) ((coreN xs).getD k NoteC.zero) p = false) => comp_bad2 (getD_memN (l := coreN xs) (by rw [hNL]; exact hk)) (by rw [hcl k hk]; exact hp) hq)
  have HKB := Lib.hid (fun (k : Nat) (hk : k < n) => (by unfold knowB toldA; rw [hcl k hk] : knowB (coreN xs) ((coreN xs).getD k NoteC.zero) = (toldC (xs.getD k NoteI.zero).cl (xs.getD k NoteI.zero).cl.length).all (knowP (coreN xs) ((coreN xs).getD k NoteC.zero))))
  have HCE := Lib.hid (show compTo (coreN xs) n = compB (coreN xs) by rw [← hNL]; rfl)
  have HCS := Lib.hid (compTo_succ (coreN xs))
  obtain ⟨cb, hcb⟩ : ∃ cb, compB (coreN xs) = cb := ⟨_, rfl⟩
  rw [hcb] at HBD HCE ⊢
  have HH := Lib.hid h
  have HNL := Lib.hid hNL
  clear hb h hcl hNL hf hall hcb
  go_enter Tryz.func24, Tryz.ntmps24
  go_wp2_with fail
  apply Mem.atA
  · exact memA
  clear hM
  intro wst hM
  (try simp only [World.size_alloc, World.size_setCell, World.heap_drewN, heapDrew, Nat.add_assoc, Nat.reduceAdd, sA, List.cons_append, List.nil_append] at hM)
  refine (HMS.out _ hM.below).mono ?_
  clear HMS
  rintro e w3 ⟨a3, c3, rfl, hm⟩
  replace hM := (hM.join hm).sub (G' := []) (by simp)
  clear hm
  go_wp2_with fail
  go_loopw [15] (fun s15 wr => ∃ k : Nat, k ≤ n ∧ s15 = .int .i64 k ∧ Hid (compTo (coreN xs) k = true) ∧ Mem w.heap.size w wr []) (fun s15 _ => n - (intOf s15).toNat)
  case atStart => exact ⟨0, Nat.zero_le _, rfl, Lib.hid rfl, hM⟩
  case round =>
    clear hM
    obtain ⟨k, hk, rfl, HCT, hM⟩ := hrel
    by_cases hlt : k < n
    · obtain ⟨b, off, rfl, -, -⟩ := HH.out.rd.at' _ hlt
      obtain ⟨x0, x1, x2, x3⟩ := ((HH.out.rd.ext hM.below).cellNote hlt).2
      have hxi := HH.out.get hlt
      have hvb := HVB.out k hlt
      have hkb := HKB.out k hlt
      have hal := HAL.out k hlt
      have hbd := HBD.out k hlt
      have hcs := HCS.out k
      rw [HCT.out, Bool.true_and, hkb] at hcs
      have hpl := fun j => HPL.out k j hlt
      have hnn := fun j => HNN.out k j hlt
      have hke := fun j (hj : j < n) => HKE.out j k hj hlt
      rw [coreN_getD] at hvb hcs hbd
      simp only [coreN_getD] at hke
      obtain ⟨x, hx⟩ : ∃ x, xs.getD k NoteI.zero = x := ⟨_, rfl⟩
      rw [hx] at x0 x1 x2 x3 hxi hvb hcs hal hbd
      simp only [hx] at hpl hnn hke
      have HXE := Lib.hid hx
      clear hx hkb
      obtain ⟨xu, xq, xa, xn, xc, xl, xw⟩ := x
      dsimp only at x0 x1 x2 x3 hxi hvb hcs hal hbd hpl hnn
      have hxl := hxi.len
      rw [hxl] at hcs
      have HXI := Lib.hid hxi; have HVX := Lib.hid hvb; have HST := Lib.hid hcs; have HXL := Lib.hid hxl
      have HAX := Lib.hid hal; have HBX := Lib.hid hbd; have HPX := Lib.hid hpl; have HNX := Lib.hid hnn; have HKX := Lib.hid hke
      have hrx := hxi.room
      clear hxi hvb hcs hxl hal hbd hpl hnn hke HCT
      have i0' : (0 : Int) ≤ (k : Int) := by omega
      have i1 : (k : Int) < (n : Int) := by omega
      go_upto_region 6 with fail
      apply Mem.atWpA
      · exact memA
      clear hM
      intro wst hM
      (try simp only [World.size_alloc, World.size_setCell, World.heap_drewN, heapDrew, Nat.add_assoc, Nat.reduceAdd, sA, List.cons_append, List.nil_append] at hM)
      clear x0 x1 x2 x3
      generalize wr.heap.size = gb at hM ⊢
      obtain ⟨k0, f0, l0⟩ := hM.row .here
      go_wp2_with fail
      clear k0 f0 l0
      go_loopw [23] (fun s23 wq => ∃ v : Nat, v ≤ xn ∧ s23 = .int .i64 v ∧ Hid ((toldC xl v).all (knowP (coreN xs) (NoteI.core ⟨xu, xq, xa, xn, xc, xl, xw⟩)) = true) ∧ Mem w.heap.size w wq [rowE gb 40 #[.int .i64 xu, .int .i64 xq, .slice xa xn xc, .string (bsA xw)]]) (fun s23 _ => xn - (intOf s23).toNat)
      case atStart => exact ⟨0, Nat.zero_le _, rfl, Lib.hid rfl, hM⟩
      case round =>
        clear hM
        obtain ⟨v, hv, rfl, HLM, hM⟩ := hrel
        by_cases hlv : v < xn
        · obtain ⟨bx, ox, rfl, -, -⟩ := HXI.out.at' _ hlv
          have hcx := (HXI.out.ext hM.below).cellK hlv
          have hvx := HVX.out (xl.getD v 0) (getD_mem (by show v < xl.length; rw [HXL.out]; exact hlv))
          have htc := fun h2 => toldC_all (cl := xl) (v := v) (f := knowP (coreN xs) (NoteI.core ⟨xu, xq, some ⟨bx, ox, none⟩, xn, xc, xl, xw⟩)) HLM.out h2
          have htm : ∀ s : Nat, s < (xl.getD v 0).toNat → ((v : Int), (s : Int) + 1) ∈ toldA xl := fun s hs => toldA_mem.2 ⟨v, by rw [HXL.out]; exact hlv, rfl, by simp only; omega, by simp only; omega⟩
          obtain ⟨X, hX⟩ : ∃ X : Nat, xl.getD v 0 = (X : Int) := Int.eq_ofNat_of_zero_le hvx.1
          rw [hX, Int.toNat_natCast] at htc htm
          rw [hX] at hcx hvx
          have hX12 : X ≤ 12 := by omega
          have HTC := Lib.hid htc; have HTM := Lib.hid htm
          clear hX htc htm hvx HLM
          have v0 : (0 : Int) ≤ (v : Int) := by omega
          have v1 : (v : Int) < (xn : Int) := by omega
          go_wp2_with fail
          go_loopw [7] (fun s7 wq2 => ∃ s t : Nat, s ≤ X ∧ Hid (t = s + 1) ∧ s7 = .int .i64 t ∧ Hid ((toldU v s).all (knowP (coreN xs) (NoteI.core ⟨xu, xq, some ⟨bx, ox, none⟩, xn, xc, xl, xw⟩)) = true) ∧ Mem w.heap.size w wq2 [rowE gb 40 #[.int .i64 xu, .int .i64 xq, .slice (some ⟨bx, ox, none⟩) xn xc, .string (bsA xw)]]) (fun s7 _ => X + 1 - (intOf s7).toNat)
          case atStart => exact ⟨0, 1, Nat.zero_le _, Lib.hid rfl, rfl, Lib.hid rfl, by (exact memA)⟩
          case round =>
            clear hM hcx
            obtain ⟨s, t, hs, HTS, rfl, HLN, hM⟩ := hrel
            by_cases hls : s < X
            · have htX : t ≤ X := by have := HTS.out; omega
              have hte : (s : Int) + 1 = (t : Int) := by have := HTS.out; omega
              have hpm := HTM.out s hls
              have hta := fun h2 => toldU_all (u := v) (s := s) (f := knowP (coreN xs) (NoteI.core ⟨xu, xq, some ⟨bx, ox, none⟩, xn, xc, xl, xw⟩)) HLN.out h2
              rw [hte] at hpm hta
              have hhp := HAX.out _ hpm
              have hbd := HBX.out _ hpm
              obtain ⟨g1, -, -⟩ := getP_spec hhp
              obtain ⟨p1, -, -⟩ := has_pl (l := coreN xs) (x := keyN ((v : Int), (t : Int))) hhp
              have hkp : knowP (coreN xs) (NoteI.core ⟨xu, xq, some ⟨bx, ox, none⟩, xn, xc, xl, xw⟩) ((v : Int), (t : Int)) = ((sameK (getP (coreN xs) ((v : Int), (t : Int))) (NoteI.core ⟨xu, xq, some ⟨bx, ox, none⟩, xn, xc, xl, xw⟩) || decide ((getP (coreN xs) ((v : Int), (t : Int))).cl.getD xu.toNat 0 < xq)) && leC (getP (coreN xs) ((v : Int), (t : Int))).cl xl) := by
                unfold knowP
                rw [hhp, Bool.true_and]
                rfl
              have hfd : fndN (coreN xs) (keyN ((v : Int), (t : Int))) = ((plN (coreN xs) (keyN ((v : Int), (t : Int))) : Nat) : Int) := by
                unfold fndN
                rw [show hasN (coreN xs) (keyN ((v : Int), (t : Int))) = true from hhp]
                rfl
              have hgp : getP (coreN xs) ((v : Int), (t : Int)) = (coreN xs).getD (plN (coreN xs) (keyN ((v : Int), (t : Int)))) NoteC.zero := rfl
              obtain ⟨j, hj⟩ : ∃ j, plN (coreN xs) (keyN ((v : Int), (t : Int))) = j := ⟨_, rfl⟩
              rw [hj] at p1 hfd hgp
              rw [HNL.out] at p1
              rw [coreN_getD] at hgp
              rw [hgp] at hkp
              have hke := HKX.out j p1
              rw [hke] at hkp
              have hpl := HPX.out j p1
              have hnn := HNX.out j p1
              have hyi := HH.out.get p1
              have HCY := Lib.hid (fun (w' : World) (hb : Below w.heap.size w w') => ((HH.out.rd.ext hb).cellNote p1).2)
              obtain ⟨y, hy⟩ : ∃ y, xs.getD j NoteI.zero = y := ⟨_, rfl⟩
              simp only [hy] at HCY
              rw [hy] at hkp hpl hnn hyi
              obtain ⟨yu, yq, ya, yn, yc, yl, yw⟩ := y
              dsimp only at hpl hnn hyi
              have hkp2 : knowP (coreN xs) (NoteI.core ⟨xu, xq, some ⟨bx, ox, none⟩, xn, xc, xl, xw⟩) ((v : Int), (t : Int)) = ((decide (j = k) || decide (yl.getD xu.toNat 0 < xq)) && leC yl xl) := hkp
              have hyx : j = k → yl = xl := fun e => by
                have h1 := hy
                rw [e, HXE.out] at h1
                injection h1 with _ _ _ _ _ h6 _
                exact h6.symm
              have HYX := Lib.hid hyx
              clear hyx
              have HFD := Lib.hid hfd; have HYI := Lib.hid hyi; have HTA := Lib.hid hta; have HBF := Lib.hid hbd; have HPY := Lib.hid hpl; have HNY := Lib.hid hnn
              clear hpm hta hhp hbd g1 hgp hj hke hpl hnn hyi hy hkp hfd hte
              by_cases hjk : j = k
              · have e1 : ((j : Int) != (k : Int)) = false := by simp; omega
                have hkt : knowP (coreN xs) (NoteI.core ⟨xu, xq, some ⟨bx, ox, none⟩, xn, xc, xl, xw⟩) ((v : Int), (t : Int)) = true := by
                  rw [hkp2, decide_eq_true hjk, Bool.true_or, Bool.true_and]
                  rw [HYX.out hjk]
                  exact leC_self _
                have HS3 := Lib.hid (HTA.out hkt)
                clear hkp2 hkt hjk
                go_upto_region 12 with fail
                apply Mem.atWpA
                · exact memA
                clear hM
                intro wst hM
                (try simp only [World.size_alloc, World.size_setCell, World.heap_drewN, heapDrew, Nat.add_assoc, Nat.reduceAdd, sA, List.cons_append, List.nil_append] at hM)
                obtain ⟨k0, f0, l0⟩ := hM.row .here
                go_wp2_with fail
                clear k0 f0 l0
                apply Mem.atA
                · exact memA
                clear hM
                intro wst hM
                (try simp only [World.size_alloc, World.size_setCell, World.heap_drewN, heapDrew, Nat.add_assoc, Nat.reduceAdd, sA, List.cons_append, List.nil_append] at hM)
                (first | refine (find_any _ n c xs (keyN ((v : Int), (t : Int))) _ (HH.out.ext hM.below)).mono ?_)
                rw [HFD.out]
                rintro e wc1 ⟨rfl, hb⟩
                replace hM := hM.ext hb
                clear hb
                go_upto_region 13 with fail
                apply Mem.atWpA
                · exact memA
                clear hM
                intro wst hM
                (try simp only [World.size_alloc, World.size_setCell, World.heap_drewN, heapDrew, Nat.add_assoc, Nat.reduceAdd, sA, List.cons_append, List.nil_append] at hM)
                refine AtT.startA hM hM 11 (by kernel_rfl) ?_
                clear hM
                intro wd hM
                have hS := hM
                refine AtT.tk 0 ?_ 37 ?_ hS ?_
                rotate_left
                · (intro wS hSw; (try dsimp only at hSw); go_simp; (try rw [if_neg (by omega)]); try with_reducible rfl)
                simp only [Act.put, sA]
                refine AtT.tk 1 ?_ 38 ?_ hS ?_
                rotate_left
                · (intro wS hSw; (try dsimp only at hSw); go_simp; (try rw [if_neg (by omega)]); try with_reducible rfl)
                simp only [Act.put, sA]
                refine AtT.tk 2 ?_ 39 ?_ hS ?_
                rotate_left
                · (intro wS hSw; (try dsimp only at hSw); go_simp; (try rw [if_neg (by omega)]); try with_reducible rfl)
                simp only [Act.put, sA]
                refine AtT.tk 3 ?_ 40 ?_ hS ?_
                rotate_left
                · (intro wS hSw; (try dsimp only at hSw); go_simp; (try rw [if_neg (by omega)]); try with_reducible rfl)
                simp only [Act.put, sA]
                refine AtT.tn 4 41 hS ?_
                simp only [Act.put, sA]
                refine AtT.tn 5 42 hS ?_
                simp only [Act.put, sA]
                refine AtT.tn 6 43 hS ?_
                simp only [Act.put, sA]
                refine AtT.tn 7 44 hS ?_
                simp only [Act.put, sA]
                refine AtT.tn 8 45 hS ?_
                simp only [Act.put, sA]
                refine AtT.tn 9 46 hS ?_
                simp only [Act.put, sA]
                refine AtT.tn 10 47 hS ?_
                simp only [Act.put, sA]
                refine AtT.last (by kernel_rfl) rfl (by kernel_rfl) ?_
                intro K hK
                clear hS
                go_simp
                refine hK.out _ _ ?_
                clear hK K
                go_wp2
                go_roundw
                case rel => exact ⟨s + 1, t + 1, by omega, Lib.hid (by rw [HTS.out]), by go_num, HS3, by (exact memA)⟩
                case measure => simp [intOf]; omega
              · have e1 : ((j : Int) != (k : Int)) = true := by simp; omega
                have hkt : knowP (coreN xs) (NoteI.core ⟨xu, xq, some ⟨bx, ox, none⟩, xn, xc, xl, xw⟩) ((v : Int), (t : Int)) = (leC yl xl && decide (yl.getD xu.toNat 0 < xq)) := by
                  rw [hkp2, decide_eq_false hjk, Bool.false_or, Bool.and_comm]
                obtain ⟨q, hq⟩ : ∃ q, (leC yl xl && decide (yl.getD xu.toNat 0 < xq)) = q := ⟨_, rfl⟩
                rw [hq] at hkt
                have HQ := Lib.hid hq; have HKT := Lib.hid hkt
                clear hkp2 hkt hjk hq
                have j0 : (0 : Int) ≤ (j : Int) := by omega
                have j1 : (j : Int) < (n : Int) := by omega
                go_upto_region 12 with fail
                apply Mem.atWpA
                · exact memA
                clear hM
                intro wst hM
                (try simp only [World.size_alloc, World.size_setCell, World.heap_drewN, heapDrew, Nat.add_assoc, Nat.reduceAdd, sA, List.cons_append, List.nil_append] at hM)
                obtain ⟨k0, f0, l0⟩ := hM.row .here
                go_wp2_with fail
                clear k0 f0 l0
                apply Mem.atA
                · exact memA
                clear hM
                intro wst hM
                (try simp only [World.size_alloc, World.size_setCell, World.heap_drewN, heapDrew, Nat.add_assoc, Nat.reduceAdd, sA, List.cons_append, List.nil_append] at hM)
                (first | refine (find_any _ n c xs (keyN ((v : Int), (t : Int))) _ (HH.out.ext hM.below)).mono ?_)
                rw [HFD.out]
                rintro e wc2 ⟨rfl, hb⟩
                replace hM := hM.ext hb
                clear hb
                go_upto_region 13 with fail
                apply Mem.atWpA
                · exact memA
                clear hM
                intro wst hM
                (try simp only [World.size_alloc, World.size_setCell, World.heap_drewN, heapDrew, Nat.add_assoc, Nat.reduceAdd, sA, List.cons_append, List.nil_append] at hM)
                refine AtT.startA hM hM 11 (by kernel_rfl) ?_
                clear hM
                intro wd hM
                have hS := hM
                refine AtT.tk 0 ?_ 37 ?_ hS ?_
                rotate_left
                · (intro wS hSw; (try dsimp only at hSw); go_simp; (try rw [if_neg (by omega)]); try with_reducible rfl)
                simp only [Act.put, sA]
                refine AtT.tk 1 ?_ 38 ?_ hS ?_
                rotate_left
                · (intro wS hSw; (try dsimp only at hSw); go_simp; (try rw [if_neg (by omega)]); try with_reducible rfl)
                simp only [Act.put, sA]
                refine AtT.tk 2 ?_ 39 ?_ hS ?_
                rotate_left
                · (intro wS hSw; (try dsimp only at hSw); go_simp; (try rw [if_neg (by omega)]); try with_reducible rfl)
                simp only [Act.put, sA]
                refine AtT.tk 3 ?_ 40 ?_ hS ?_
                rotate_left
                · (intro wS hSw; (try dsimp only at hSw); go_simp; (try rw [if_neg (by omega)]); try with_reducible rfl)
                simp only [Act.put, sA]
                refine AtT.tk 4 ?_ 41 ?_ hS ?_
                rotate_left
                · (intro wS hSw; (try dsimp only at hSw); have kr0 := (Mem.row hSw .here).cell; obtain ⟨y0, y1, y2, y3⟩ := HCY.out _ hSw.below; go_simp; (try rw [if_neg (by omega)]); try with_reducible rfl)
                simp only [Act.put, sA]
                refine AtT.tk 5 ?_ 42 ?_ hS ?_
                rotate_left
                · (intro wS hSw; (try dsimp only at hSw); go_simp; (try rw [if_neg (by omega)]); try with_reducible rfl)
                simp only [Act.put, sA]
                refine AtT.tk 6 ?_ 43 ?_ hS ?_
                rotate_left
                · (intro wS hSw; (try dsimp only at hSw); go_simp; (try rw [if_neg (by omega)]); try with_reducible rfl)
                simp only [Act.put, sA]
                refine AtT.tk 7 ?_ 44 ?_ hS ?_
                rotate_left
                · (intro wS hSw; (try dsimp only at hSw); have kr0 := (Mem.row hSw .here).cell; obtain ⟨y0, y1, y2, y3⟩ := HCY.out _ hSw.below; go_simp; (try rw [if_neg (by omega)]); try with_reducible rfl)
                simp only [Act.put, sA]
                refine AtT.tk 8 ?_ 45 ?_ hS ?_
                rotate_left
                · (intro wS hSw; (try dsimp only at hSw); have kr0 := (Mem.row hSw .here).cell; obtain ⟨y0, y1, y2, y3⟩ := HCY.out _ hSw.below; go_simp; (try rw [if_neg (by omega)]); try with_reducible rfl)
                simp only [Act.put, sA]
                refine AtT.only (i := 9) (by kernel_rfl) rfl rfl ?_
                intro K hK
                go_simp
                refine (knows_any ⟨xu, xq, some ⟨bx, ox, none⟩, xn, xc, xl, xw⟩ ⟨yu, yq, ya, yn, yc, yl, yw⟩ _ (HXI.out.ext hM.below) (HYI.out.ext hM.below) HNY.out HPY.out).mono ?_
                try dsimp only
                rw [HQ.out]
                rintro e w5 ⟨rfl, hb⟩
                replace hM := hM.ext hb
                clear hb
                try dsimp only
                refine hK.out _ _ (hM) ?_
                clear hK K hS
                have hS := hM
                refine AtT.tk 10 ?_ 47 ?_ hS ?_
                rotate_left
                · (intro wS hSw; (try dsimp only at hSw); go_simp; (try rw [if_neg (by omega)]); try with_reducible rfl)
                simp only [Act.put, sA]
                refine AtT.last (by kernel_rfl) rfl (by kernel_rfl) ?_
                intro K hK
                clear hS
                go_simp
                refine hK.out _ _ ?_
                clear hK K
                cases q
                · have hcf := HBF.out HKT.out
                  subst hcf
                  go_wp2
                  go_ret
                  exact ⟨rfl, (by apply Mem.below; (exact memA))⟩
                · have HS3 := Lib.hid (HTA.out HKT.out)
                  go_wp2
                  go_roundw
                  case rel => exact ⟨s + 1, t + 1, by omega, Lib.hid (by rw [HTS.out]), by go_num, HS3, by (exact memA)⟩
                  case measure => simp [intOf]; omega
            · obtain rfl : s = X := by omega
              have htX : ¬ t ≤ s := by have := HTS.out; omega
              have HS3 := Lib.hid (HTC.out HLN.out)
              clear HLN
              go_wp2
              go_roundw
              case rel => exact ⟨v + 1, by omega, by go_num, HS3, hM⟩
              case measure => simp [intOf]; omega
        · obtain rfl : v = xn := by omega
          have HS3 := Lib.hid (HST.out.trans HLM.out)
          clear HLM
          go_wp2
          go_roundw
          case rel => exact ⟨k + 1, by omega, by go_num, HS3, hM.tail⟩
          case measure => simp [intOf]; omega
    · obtain rfl : k = n := by omega
      have hcb := HCE.out.symm.trans HCT.out
      subst hcb
      clear HCT
      go_wp2
      go_ret
      exact ⟨rfl, (by apply Mem.below; (exact memA))⟩
set_option maxRecDepth 100000 in
set_option maxHeartbeats 4000000 in
theorem implComp_any (u : Int) (a : Option Addr) (n c : Nat) (xs : List NoteI) (w : World) (hu : I64 u) (h : RdN w a n c xs) (hf : bookB u (coreN xs) = true → (rawM (coreN xs)).length ≤ 12) :
    Calls Tryz.prog 11 #[.int .i64 u, .slice a n c] w fun e w' => e = .returned (.tuple #[.bool (bookB u (coreN xs) && compB (coreN xs)), .bool (bookB u (coreN xs))]) ∧ Below w.heap.size w w' := by
  have hM := Mem.start w
  have HU := Lib.hid hu
  have HH := Lib.hid h
  clear hu h
  cases hb : bookB u (coreN xs)
  · have HB := Lib.hid hb; clear hb hf
    rw [Bool.false_and]
    go_enter Tryz.func11, Tryz.ntmps11
    go_wp2_with fail
    apply Mem.atA
    · exact memA
    clear hM
    intro wst hM
    (try simp only [World.size_alloc, World.size_setCell, World.heap_drewN, heapDrew, Nat.add_assoc, Nat.reduceAdd, sA, List.cons_append, List.nil_append] at hM)
    (first | refine (isNotebook_any u a n c xs _ HU.out (HH.out.ext hM.below)).mono ?_)
    rw [HB.out]
    rintro e wc3 ⟨rfl, hb⟩
    replace hM := hM.ext hb
    clear hb
    go_wp2
    go_ret2
    exact ⟨rfl, (by apply Mem.below; (exact memA))⟩
  · have HC := Lib.hid (fun (w' : World) (hb' : Below w.heap.size w w') => complete_any u a n c xs w' hb (HH.out.ext hb') (hf hb))
    have HB := Lib.hid hb; clear hb hf
    obtain ⟨q, hq⟩ : ∃ q, compB (coreN xs) = q := ⟨_, rfl⟩
    rw [hq] at HC ⊢
    rw [Bool.true_and]
    clear hq
    go_enter Tryz.func11, Tryz.ntmps11
    go_wp2_with fail
    apply Mem.atA
    · exact memA
    clear hM
    intro wst hM
    (try simp only [World.size_alloc, World.size_setCell, World.heap_drewN, heapDrew, Nat.add_assoc, Nat.reduceAdd, sA, List.cons_append, List.nil_append] at hM)
    (first | refine (isNotebook_any u a n c xs _ HU.out (HH.out.ext hM.below)).mono ?_)
    rw [HB.out]
    rintro e wc4 ⟨rfl, hb⟩
    replace hM := hM.ext hb
    clear hb
    go_wp2_with fail
    apply Mem.atA
    · exact memA
    clear hM
    intro wst hM
    (try simp only [World.size_alloc, World.size_setCell, World.heap_drewN, heapDrew, Nat.add_assoc, Nat.reduceAdd, sA, List.cons_append, List.nil_append] at hM)
    (first | refine (HC.out _ hM.below).mono ?_)
    rintro e wc5 ⟨rfl, hb⟩
    replace hM := hM.ext hb
    clear hb
    go_wp2
    go_ret2
    exact ⟨rfl, (by apply Mem.below; (exact memA))⟩
end Go.Proofs.YtjnbdgldpmmamaaGreat
