/-
  Is a notebook complete: the reference's.
-/
import Derived.Test.YtjnbdgldpmmamaaGreatUCplI
import Derived.Test.YtjnbdgldpmmamaaGreatUNoteZ
import Derived.Test.YtjnbdgldpmmamaaGreatUMrgS
/-
  Is a notebook complete: the reference's.
-/
namespace Go.Proofs.YtjnbdgldpmmamaaGreat
set_option linter.unusedSimpArgs false
set_option linter.unusedVariables false
open Go.RowKit

theorem knowB_bad {l : List NoteC} {x : NoteC} {p : Int × Int} (hp : p ∈ toldA x.cl) (h : knowP l x p = false) : knowB l x = false := by
  unfold knowB
  rw [List.all_eq_false]
  exact ⟨p, hp, by rw [h]; simp⟩
set_option maxRecDepth 100000 in
set_option maxHeartbeats 16000000 in
theorem l17Knows_any (u : Int) (a : Option Addr) (n c : Nat) (xs : List NoteI) (k : Nat) (w : World) (hb : bookB u (coreN xs) = true) (h : RdN w a n c xs) (hk : k < n) :
    Calls Tryz.prog 55 #[.slice a n c, (xs.getD k NoteI.zero).val] w fun e w' => e = .returned (.bool (knowB (coreN xs) (xs.getD k NoteI.zero).core)) ∧ Below w.heap.size w w' := by
  have hM := Mem.start w
  have hn12 : n ≤ 12 := by have := book_len hb; rw [coreN_len, h.rd.len] at this; exact this
  have hNL : (coreN xs).length = n := by rw [coreN_len, h.rd.len]
  have hcl : ∀ j, j < n → ((coreN xs).getD j NoteC.zero).cl = (xs.getD j NoteI.zero).cl := fun j hj => by rw [coreN_getD]; rfl
  have hvb := (noteB_true (book_note hb (k := k) (by rw [hNL]; exact hk))).2.1
  have hpl := fun (j : Nat) (hj : j < n) => book_place hb h hk hj
  have hnn := fun (j : Nat) (hj : j < n) => (by
    have h1 := (noteB_true (book_note hb (k := k) (by rw [hNL]; exact hk))).1
    have h2 := (noteB_true (book_note hb (k := j) (by rw [hNL]; exact hj))).1
    rw [hcl _ hk, (h.get hk).len] at h1
    rw [hcl _ hj, (h.get hj).len] at h2
    omega : (xs.getD k NoteI.zero).n = (xs.getD j NoteI.zero).n)
  have hke := fun (j : Nat) (hj : j < n) => (by
    by_cases e : j = k
    · subst e
      rw [decide_eq_true rfl]
      exact sameK_true.2 ⟨rfl, rfl⟩
    · rw [decide_eq_false e]
      rcases Nat.lt_or_gt_of_ne e with h1 | h1
      · exact ltN_key (asc_get (book_asc hb) h1 (by rw [hNL]; exact hk))
      · rw [sameK_symm]; exact ltN_key (asc_get (book_asc hb) h1 (by rw [hNL]; exact hj)) : sameK ((coreN xs).getD j NoteC.zero) ((coreN xs).getD k NoteC.zero) = decide (j = k))
  have hsm := h.small hb
  have hxm := getD_memO (d := NoteI.zero) (xs := xs) (k := k) (by rw [h.rd.len]; exact hk)
  have hsx := hsm _ hxm
  have hxi := h.get hk
  have hbd := fun (p : Int × Int) (hp : p ∈ toldA (xs.getD k NoteI.zero).core.cl) (hq : knowP (coreN xs) (xs.getD k NoteI.zero).core p = false) => knowB_bad hp hq
  have hkb : knowB (coreN xs) (xs.getD k NoteI.zero).core = (toldC (xs.getD k NoteI.zero).cl (xs.getD k NoteI.zero).cl.length).all (knowP (coreN xs) (xs.getD k NoteI.zero).core) := rfl
  rw [coreN_getD] at hvb hke
  simp only [coreN_getD] at hke
  have HNL := Lib.hid hNL
  have HH := Lib.hid h
  have HSM := Lib.hid (fun (j : Nat) (hj : j < n) => hsm _ (getD_memO (d := NoteI.zero) (xs := xs) (k := j) (by rw [h.rd.len]; exact hj)))
  clear hcl hb hsm hxm h hNL
  obtain ⟨x, hx⟩ : ∃ x, xs.getD k NoteI.zero = x := ⟨_, rfl⟩
  rw [hx] at hxi hvb hbd hsx hkb ⊢
  simp only [hx] at hpl hnn hke
  have HXE := Lib.hid hx
  clear hx
  obtain ⟨xu, xq, xa, xn, xc, xl, xw⟩ := x
  dsimp only at hxi hvb hbd hpl hnn hkb ⊢
  have hxl := hxi.len
  rw [hxl] at hkb
  obtain ⟨rb, hrb⟩ : ∃ rb, knowB (coreN xs) (NoteI.core ⟨xu, xq, xa, xn, xc, xl, xw⟩) = rb := ⟨_, rfl⟩
  rw [hrb] at hkb hbd ⊢
  have HXI := Lib.hid hxi; have HVX := Lib.hid hvb; have HXL := Lib.hid hxl
  have HBX := Lib.hid hbd; have HPX := Lib.hid hpl; have HNX := Lib.hid hnn; have HKX := Lib.hid hke
  have HSX := Lib.hid hsx; have HKB := Lib.hid hkb
  have hrx := hxi.room
  obtain ⟨xm, hxm⟩ := Int.eq_ofNat_of_zero_le (hpl k hk).1
  have hxm' : xu = (xm : Int) := hxm
  clear hxi hvb hxl hbd hpl hnn hke hrb hsx hkb hxm
  subst hxm'
  go_enter Tryz.func55, Tryz.ntmps55
  go_upto_region 1 with fail
  apply Mem.atWpA
  · exact memA
  clear hM
  intro wst hM
  (try simp only [World.size_alloc, World.size_setCell, World.heap_drewN, heapDrew, Nat.add_assoc, Nat.reduceAdd, sA, List.cons_append, List.nil_append] at hM)
  obtain ⟨k0, f0, l0⟩ := hM.row .here
  go_wp2_with fail
  clear k0 f0 l0
  go_loopw [6] (fun s6 wq => ∃ v : Nat, v ≤ xn ∧ s6 = .int .i64 v ∧ Hid ((toldC xl v).all (knowP (coreN xs) (NoteI.core ⟨(xm : Int), xq, xa, xn, xc, xl, xw⟩)) = true) ∧ Mem w.heap.size w wq [rowE w.heap.size 40 #[.int .i64 (xm : Int), .int .i64 xq, .slice xa xn xc, .string (bsA xw)]]) (fun s6 _ => xn - (intOf s6).toNat)
  case atStart => exact ⟨0, Nat.zero_le _, rfl, Lib.hid rfl, hM⟩
  case round =>
    clear hM
    obtain ⟨v, hv, rfl, HLM, hM⟩ := hrel
    by_cases hlv : v < xn
    · obtain ⟨bx, ox, rfl, -, -⟩ := HXI.out.at' _ hlv
      have hvx := HVX.out (xl.getD v 0) (getD_mem (by show v < xl.length; rw [HXL.out]; exact hlv))
      have htc := fun h2 => toldC_all (cl := xl) (v := v) (f := knowP (coreN xs) (NoteI.core ⟨(xm : Int), xq, some ⟨bx, ox, none⟩, xn, xc, xl, xw⟩)) HLM.out h2
      have htm : ∀ s : Nat, s < (xl.getD v 0).toNat → ((v : Int), (s : Int) + 1) ∈ toldA xl := fun s hs => toldA_mem.2 ⟨v, by rw [HXL.out]; exact hlv, rfl, by simp only; omega, by simp only; omega⟩
      have hcx := fun (w' : World) (hb : Below w.heap.size w w') => (HXI.out.ext hb).cellK hlv
      obtain ⟨X, hX⟩ : ∃ X : Nat, xl.getD v 0 = (X : Int) := Int.eq_ofNat_of_zero_le hvx.1
      rw [hX, Int.toNat_natCast] at htc htm
      simp only [hX] at hcx
      rw [hX] at hvx
      have hX12 : X ≤ 12 := by omega
      have HTC := Lib.hid htc; have HTM := Lib.hid htm; have HCX := Lib.hid hcx
      clear hX htc htm hvx HLM hcx
      have v0 : (0 : Int) ≤ (v : Int) := by omega
      have v1 : (v : Int) < (xn : Int) := by omega
      go_wp2_with fail
      go_loopw [7] (fun s7 wq2 => ∃ s t : Nat, s ≤ X ∧ Hid (t = s + 1) ∧ s7 = .int .i64 t ∧ Hid ((toldU v s).all (knowP (coreN xs) (NoteI.core ⟨(xm : Int), xq, some ⟨bx, ox, none⟩, xn, xc, xl, xw⟩)) = true) ∧ Mem w.heap.size w wq2 [rowE w.heap.size 40 #[.int .i64 (xm : Int), .int .i64 xq, .slice (some ⟨bx, ox, none⟩) xn xc, .string (bsA xw)]]) (fun s7 _ => X + 1 - (intOf s7).toNat)
      case atStart => exact ⟨0, 1, Nat.zero_le _, Lib.hid rfl, rfl, Lib.hid rfl, by (exact memA)⟩
      case round =>
        clear hM
        obtain ⟨s, t, hs, HTS, rfl, HLN, hM⟩ := hrel
        have hcx := HCX.out _ hM.below
        by_cases hls : s < X
        · have htX : t ≤ X := by have := HTS.out; omega
          have hte : (s : Int) + 1 = (t : Int) := by have := HTS.out; omega
          have hpm := HTM.out s hls
          have hta := fun h2 => toldU_all (u := v) (s := s) (f := knowP (coreN xs) (NoteI.core ⟨(xm : Int), xq, some ⟨bx, ox, none⟩, xn, xc, xl, xw⟩)) HLN.out h2
          rw [hte] at hpm hta
          have hbd := HBX.out _ hpm
          have HTA := Lib.hid hta; have HBF := Lib.hid hbd
          clear hta hbd hpm hte
          go_upto_region 8 with fail
          apply Mem.atWpA
          · exact memA
          clear hM
          intro wst hM
          (try simp only [World.size_alloc, World.size_setCell, World.heap_drewN, heapDrew, Nat.add_assoc, Nat.reduceAdd, sA, List.cons_append, List.nil_append] at hM)
          clear hcx
          cases hhp : hasP (coreN xs) ((v : Int), (t : Int))
          · have hfd : fndN (coreN xs) (keyN ((v : Int), (t : Int))) = -1 := by
              unfold fndN
              rw [show hasN (coreN xs) (keyN ((v : Int), (t : Int))) = false from hhp]
              rfl
            have hrf := HBF.out (by unfold knowP; rw [hhp]; rfl)
            subst hrf
            have HFD := Lib.hid hfd
            clear hfd hhp
            obtain ⟨k0, f0, l0⟩ := hM.row .here
            go_wp2_with fail
            clear k0 f0 l0
            apply Mem.atA
            · exact memA
            clear hM
            intro wst hM
            (try simp only [World.size_alloc, World.size_setCell, World.heap_drewN, heapDrew, Nat.add_assoc, Nat.reduceAdd, sA, List.cons_append, List.nil_append] at hM)
            (first | refine (l17Find_any _ n c xs (keyN ((v : Int), (t : Int))) _ (HH.out.ext hM.below)).mono ?_)
            rw [HFD.out]
            rintro e wc1 ⟨rfl, hb⟩
            replace hM := hM.ext hb
            clear hb
            go_upto_region 9 with fail
            apply Mem.atWpA
            · exact memA
            clear hM
            intro wst hM
            (try simp only [World.size_alloc, World.size_setCell, World.heap_drewN, heapDrew, Nat.add_assoc, Nat.reduceAdd, sA, List.cons_append, List.nil_append] at hM)
            refine AtT.startA hM hM 24 (by kernel_rfl) ?_
            clear hM
            intro wd hM
            have hS := hM
            refine AtT.tk 0 ?_ 30 ?_ hS ?_
            rotate_left
            · (intro wS hSw; (try dsimp only at hSw); go_simp; (try rw [if_neg (by omega)]); try with_reducible rfl)
            simp only [Act.put, sA]
            refine AtT.tk 1 ?_ 31 ?_ hS ?_
            rotate_left
            · (intro wS hSw; (try dsimp only at hSw); go_simp; (try rw [if_neg (by omega)]); try with_reducible rfl)
            simp only [Act.put, sA]
            refine AtT.tk 2 ?_ 32 ?_ hS ?_
            rotate_left
            · (intro wS hSw; (try dsimp only at hSw); go_simp; (try rw [if_neg (by omega)]); try with_reducible rfl)
            simp only [Act.put, sA]
            refine AtT.tn 3 33 hS ?_
            simp only [Act.put, sA]
            refine AtT.tn 4 34 hS ?_
            simp only [Act.put, sA]
            refine AtT.tn 5 35 hS ?_
            simp only [Act.put, sA]
            refine AtT.tn 6 36 hS ?_
            simp only [Act.put, sA]
            refine AtT.tn 7 37 hS ?_
            simp only [Act.put, sA]
            refine AtT.tn 8 38 hS ?_
            simp only [Act.put, sA]
            refine AtT.tn 9 39 hS ?_
            simp only [Act.put, sA]
            refine AtT.tn 10 40 hS ?_
            simp only [Act.put, sA]
            refine AtT.tn 11 41 hS ?_
            simp only [Act.put, sA]
            refine AtT.tn 12 42 hS ?_
            simp only [Act.put, sA]
            refine AtT.tn 13 43 hS ?_
            simp only [Act.put, sA]
            refine AtT.tn 14 44 hS ?_
            simp only [Act.put, sA]
            refine AtT.tn 15 45 hS ?_
            simp only [Act.put, sA]
            refine AtT.tn 16 46 hS ?_
            simp only [Act.put, sA]
            refine AtT.tn 17 47 hS ?_
            simp only [Act.put, sA]
            refine AtT.tn 18 48 hS ?_
            simp only [Act.put, sA]
            refine AtT.tn 19 49 hS ?_
            simp only [Act.put, sA]
            refine AtT.tn 20 50 hS ?_
            simp only [Act.put, sA]
            refine AtT.tn 21 51 hS ?_
            simp only [Act.put, sA]
            refine AtT.tn 22 52 hS ?_
            simp only [Act.put, sA]
            refine AtT.tn 23 53 hS ?_
            simp only [Act.put, sA]
            refine AtT.last (by kernel_rfl) rfl (by kernel_rfl) ?_
            intro K hK
            clear hS
            go_simp
            refine hK.out _ _ ?_
            clear hK K
            go_wp2
            go_ret
            exact ⟨rfl, (by apply Mem.below; (exact memA))⟩
          obtain ⟨p1, -, -⟩ := has_pl (l := coreN xs) (x := keyN ((v : Int), (t : Int))) hhp
          have hkp : knowP (coreN xs) (NoteI.core ⟨(xm : Int), xq, some ⟨bx, ox, none⟩, xn, xc, xl, xw⟩) ((v : Int), (t : Int)) = ((sameK (getP (coreN xs) ((v : Int), (t : Int))) (NoteI.core ⟨(xm : Int), xq, some ⟨bx, ox, none⟩, xn, xc, xl, xw⟩) || decide ((getP (coreN xs) ((v : Int), (t : Int))).cl.getD ((xm : Int)).toNat 0 < xq)) && leC (getP (coreN xs) ((v : Int), (t : Int))).cl xl) := by
            unfold knowP
            rw [hhp, Bool.true_and]
            rfl
          have hfd : fndN (coreN xs) (keyN ((v : Int), (t : Int))) = ((plN (coreN xs) (keyN ((v : Int), (t : Int))) : Nat) : Int) := by
            unfold fndN
            rw [show hasN (coreN xs) (keyN ((v : Int), (t : Int))) = true from hhp]
            rfl
          have hgp : getP (coreN xs) ((v : Int), (t : Int)) = (coreN xs).getD (plN (coreN xs) (keyN ((v : Int), (t : Int)))) NoteC.zero := rfl
          obtain ⟨j, hj⟩ : ∃ j, plN (coreN xs) (keyN ((v : Int), (t : Int))) = j := ⟨_, rfl⟩
          rw [hj] at p1 hfd hgp
          rw [HNL.out] at p1
          rw [coreN_getD] at hgp
          rw [hgp] at hkp
          have hke := HKX.out j p1
          rw [hke] at hkp
          have hpl := HPX.out j p1
          have hnn := HNX.out j p1
          have hyi := HH.out.get p1
          have hsy := HSM.out j p1
          obtain ⟨ba, oa, rfl, -, -⟩ := HH.out.rd.at' _ p1
          have HCY := Lib.hid (fun (w' : World) (hb : Below w.heap.size w w') => ((HH.out.rd.ext hb).cellNote p1).2)
          obtain ⟨y, hy⟩ : ∃ y, xs.getD j NoteI.zero = y := ⟨_, rfl⟩
          simp only [hy] at HCY
          rw [hy] at hkp hpl hnn hyi hke hsy
          have HOR := Lib.hid (order_zero (a := y.core) (b := (NoteI.core ⟨(xm : Int), xq, some ⟨bx, ox, none⟩, xn, xc, xl, xw⟩)) (by have h1 := hsy.2; have h2 := HSX.out.2; show -40 ≤ y.sq - xq ∧ y.sq - xq ≤ 40; dsimp only at h2; omega))
          rw [hke] at HOR
          obtain ⟨yu, yq, ya, yn, yc, yl, yw⟩ := y
          dsimp only at hpl hnn hyi
          have hkp2 : knowP (coreN xs) (NoteI.core ⟨(xm : Int), xq, some ⟨bx, ox, none⟩, xn, xc, xl, xw⟩) ((v : Int), (t : Int)) = ((decide (j = k) || decide (yl.getD xm 0 < xq)) && leC yl xl) := hkp
          have hor : ((yu - (xm : Int)) * 100 + yq - xq != 0) = !decide (j = k) := HOR.out
          obtain ⟨by', oy, rfl, -, -⟩ := hyi.at' xm (by omega)
          have hyz := fun (w' : World) (hb : Below w.heap.size w w') => (hyi.ext hb).cellK (k := xm) (by omega)
          have HYZ := Lib.hid hyz
          have HFD := Lib.hid hfd; have HYI := Lib.hid hyi; have HKP := Lib.hid hkp2; have HORD := Lib.hid hor; have HSY := Lib.hid hsy
          have hyl := hyi.len
          have HYL := Lib.hid hyl
          have hxmn : xm < yn := by omega
          clear hhp hgp hj hke hpl hyi hy hkp hfd hkp2 hor HOR hsy hyz hyl
          subst hnn
          obtain ⟨z, hz⟩ : ∃ z, yl.getD xm 0 = z := ⟨_, rfl⟩
          rw [hz] at HKP
          simp only [hz] at HYZ
          clear hz
          have j0 : (0 : Int) ≤ (j : Int) := by omega
          have j1 : (j : Int) < (n : Int) := by omega
          have m0 : (0 : Int) ≤ (xm : Int) := by omega
          have m1 : (xm : Int) < (xn : Int) := by omega
          obtain ⟨k0, f0, l0⟩ := hM.row .here
          go_wp2_with fail
          clear k0 f0 l0
          apply Mem.atA
          · exact memA
          clear hM
          intro wst hM
          (try simp only [World.size_alloc, World.size_setCell, World.heap_drewN, heapDrew, Nat.add_assoc, Nat.reduceAdd, sA, List.cons_append, List.nil_append] at hM)
          (first | refine (l17Find_any _ n c xs (keyN ((v : Int), (t : Int))) _ (HH.out.ext hM.below)).mono ?_)
          rw [HFD.out]
          rintro e wc2 ⟨rfl, hb⟩
          replace hM := hM.ext hb
          clear hb
          go_upto_region 9 with fail
          apply Mem.atWpA
          · exact memA
          clear hM
          intro wst hM
          (try simp only [World.size_alloc, World.size_setCell, World.heap_drewN, heapDrew, Nat.add_assoc, Nat.reduceAdd, sA, List.cons_append, List.nil_append] at hM)
          go_cut [54] (fun s54 wx => s54 = .bool (!decide (j = k) && decide (xq ≤ z)) ∧ Mem w.heap.size w wx [rowE w.heap.size 40 #[.int .i64 (xm : Int), .int .i64 xq, .slice (some ⟨bx, ox, none⟩) xn xc, .string (bsA xw)]])
          case first =>
            by_cases hjk : j = k
            · have e1 : ((yu - (xm : Int)) * 100 + yq - xq != 0) = false := by rw [HORD.out, decide_eq_true hjk]; rfl
              have HJK := Lib.hid hjk; clear hjk
              refine AtT.startA hM hM 24 (by kernel_rfl) ?_
              clear hM
              intro wd hM
              have hS := hM
              refine AtT.tk 0 ?_ 30 ?_ hS ?_
              rotate_left
              · (intro wS hSw; (try dsimp only at hSw); go_simp; (try rw [if_neg (by omega)]); try with_reducible rfl)
              simp only [Act.put, sA]
              refine AtT.tk 1 ?_ 31 ?_ hS ?_
              rotate_left
              · (intro wS hSw; (try dsimp only at hSw); go_simp; (try rw [if_neg (by omega)]); try with_reducible rfl)
              simp only [Act.put, sA]
              refine AtT.tk 2 ?_ 32 ?_ hS ?_
              rotate_left
              · (intro wS hSw; (try dsimp only at hSw); go_simp; (try rw [if_neg (by omega)]); try with_reducible rfl)
              simp only [Act.put, sA]
              refine AtT.tk 3 ?_ 33 ?_ hS ?_
              rotate_left
              · (intro wS hSw; (try dsimp only at hSw); go_simp; (try rw [if_neg (by omega)]); try with_reducible rfl)
              simp only [Act.put, sA]
              refine AtT.tk 4 ?_ 34 ?_ hS ?_
              rotate_left
              · (intro wS hSw; (try dsimp only at hSw); go_simp; (try rw [if_neg (by omega)]); try with_reducible rfl)
              simp only [Act.put, sA]
              refine AtT.tk 5 ?_ 35 ?_ hS ?_
              rotate_left
              · (intro wS hSw; (try dsimp only at hSw); have kr0 := (Mem.row hSw .here).cell; obtain ⟨y0, y1, y2, y3⟩ := HCY.out _ hSw.below; go_simp; (try rw [if_neg (by omega)]); try with_reducible rfl)
              simp only [Act.put, sA]
              refine AtT.tk 6 ?_ 36 ?_ hS ?_
              rotate_left
              · (intro wS hSw; (try dsimp only at hSw); have kr0 := (Mem.row hSw .here).cell; obtain ⟨y0, y1, y2, y3⟩ := HCY.out _ hSw.below; go_simp; (try rw [if_neg (by omega)]); try with_reducible rfl)
              simp only [Act.put, sA]
              refine AtT.tk 7 ?_ 37 ?_ hS ?_
              rotate_left
              · (intro wS hSw; (try dsimp only at hSw); have kr0 := (Mem.row hSw .here).cell; obtain ⟨y0, y1, y2, y3⟩ := HCY.out _ hSw.below; go_simp; (try rw [if_neg (by omega)]); try with_reducible rfl)
              simp only [Act.put, sA]
              refine AtT.only (i := 8) (by kernel_rfl) rfl rfl ?_
              intro K hK
              go_simp
              refine (l17Order_any ⟨yu, yq, some ⟨by', oy, none⟩, xn, yc, yl, yw⟩ ⟨(xm : Int), xq, some ⟨bx, ox, none⟩, xn, xc, xl, xw⟩ _ HSY.out.1 HSX.out.1 (by have := HSY.out.2; omega) (by have := HSX.out.2; omega)).mono ?_
              rintro e w5 ⟨rfl, hb⟩
              replace hM := hM.ext hb
              clear hb
              try dsimp only
              try dsimp only
              refine hK.out _ _ (hM) ?_
              clear hK K hS
              have hS := hM
              refine AtT.tk 9 ?_ 39 ?_ hS ?_
              rotate_left
              · (intro wS hSw; (try dsimp only at hSw); go_simp; (try rw [if_neg (by omega)]); try with_reducible rfl)
              simp only [Act.put, sA]
              refine AtT.tk 10 ?_ 40 ?_ hS ?_
              rotate_left
              · (intro wS hSw; (try dsimp only at hSw); go_simp; (try rw [if_neg (by omega)]); try with_reducible rfl)
              simp only [Act.put, sA]
              refine AtT.tn 11 41 hS ?_
              simp only [Act.put, sA]
              refine AtT.tn 12 42 hS ?_
              simp only [Act.put, sA]
              refine AtT.tn 13 43 hS ?_
              simp only [Act.put, sA]
              refine AtT.tn 14 44 hS ?_
              simp only [Act.put, sA]
              refine AtT.tn 15 45 hS ?_
              simp only [Act.put, sA]
              refine AtT.tn 16 46 hS ?_
              simp only [Act.put, sA]
              refine AtT.tn 17 47 hS ?_
              simp only [Act.put, sA]
              refine AtT.tn 18 48 hS ?_
              simp only [Act.put, sA]
              refine AtT.tn 19 49 hS ?_
              simp only [Act.put, sA]
              refine AtT.tn 20 50 hS ?_
              simp only [Act.put, sA]
              refine AtT.tn 21 51 hS ?_
              simp only [Act.put, sA]
              refine AtT.tn 22 52 hS ?_
              simp only [Act.put, sA]
              refine AtT.tk 23 ?_ 53 ?_ hS ?_
              rotate_left
              · (intro wS hSw; (try dsimp only at hSw); go_simp; (try rw [if_neg (by omega)]); try with_reducible rfl)
              simp only [Act.put, sA]
              refine AtT.last (by kernel_rfl) rfl (by kernel_rfl) ?_
              intro K hK
              clear hS
              go_simp
              refine hK.out _ _ ?_
              clear hK K
              go_wp2_with fail
              go_meet
              exact ⟨by rw [decide_eq_true HJK.out]; rfl, hM⟩
            · have e1 : ((yu - (xm : Int)) * 100 + yq - xq != 0) = true := by rw [HORD.out, decide_eq_false hjk]; rfl
              have HJK := Lib.hid hjk; clear hjk
              refine AtT.startA hM hM 24 (by kernel_rfl) ?_
              clear hM
              intro wd hM
              have hS := hM
              refine AtT.tk 0 ?_ 30 ?_ hS ?_
              rotate_left
              · (intro wS hSw; (try dsimp only at hSw); go_simp; (try rw [if_neg (by omega)]); try with_reducible rfl)
              simp only [Act.put, sA]
              refine AtT.tk 1 ?_ 31 ?_ hS ?_
              rotate_left
              · (intro wS hSw; (try dsimp only at hSw); go_simp; (try rw [if_neg (by omega)]); try with_reducible rfl)
              simp only [Act.put, sA]
              refine AtT.tk 2 ?_ 32 ?_ hS ?_
              rotate_left
              · (intro wS hSw; (try dsimp only at hSw); go_simp; (try rw [if_neg (by omega)]); try with_reducible rfl)
              simp only [Act.put, sA]
              refine AtT.tk 3 ?_ 33 ?_ hS ?_
              rotate_left
              · (intro wS hSw; (try dsimp only at hSw); go_simp; (try rw [if_neg (by omega)]); try with_reducible rfl)
              simp only [Act.put, sA]
              refine AtT.tk 4 ?_ 34 ?_ hS ?_
              rotate_left
              · (intro wS hSw; (try dsimp only at hSw); go_simp; (try rw [if_neg (by omega)]); try with_reducible rfl)
              simp only [Act.put, sA]
              refine AtT.tk 5 ?_ 35 ?_ hS ?_
              rotate_left
              · (intro wS hSw; (try dsimp only at hSw); have kr0 := (Mem.row hSw .here).cell; obtain ⟨y0, y1, y2, y3⟩ := HCY.out _ hSw.below; have y4 := HYZ.out _ hSw.below; go_simp; (try rw [if_neg (by omega)]); try with_reducible rfl)
              simp only [Act.put, sA]
              refine AtT.tk 6 ?_ 36 ?_ hS ?_
              rotate_left
              · (intro wS hSw; (try dsimp only at hSw); have kr0 := (Mem.row hSw .here).cell; obtain ⟨y0, y1, y2, y3⟩ := HCY.out _ hSw.below; have y4 := HYZ.out _ hSw.below; go_simp; (try rw [if_neg (by omega)]); try with_reducible rfl)
              simp only [Act.put, sA]
              refine AtT.tk 7 ?_ 37 ?_ hS ?_
              rotate_left
              · (intro wS hSw; (try dsimp only at hSw); have kr0 := (Mem.row hSw .here).cell; obtain ⟨y0, y1, y2, y3⟩ := HCY.out _ hSw.below; have y4 := HYZ.out _ hSw.below; go_simp; (try rw [if_neg (by omega)]); try with_reducible rfl)
              simp only [Act.put, sA]
              refine AtT.only (i := 8) (by kernel_rfl) rfl rfl ?_
              intro K hK
              go_simp
              refine (l17Order_any ⟨yu, yq, some ⟨by', oy, none⟩, xn, yc, yl, yw⟩ ⟨(xm : Int), xq, some ⟨bx, ox, none⟩, xn, xc, xl, xw⟩ _ HSY.out.1 HSX.out.1 (by have := HSY.out.2; omega) (by have := HSX.out.2; omega)).mono ?_
              rintro e w5 ⟨rfl, hb⟩
              replace hM := hM.ext hb
              clear hb
              try dsimp only
              try dsimp only
              refine hK.out _ _ (hM) ?_
              clear hK K hS
              have hS := hM
              refine AtT.tk 9 ?_ 39 ?_ hS ?_
              rotate_left
              · (intro wS hSw; (try dsimp only at hSw); go_simp; (try rw [if_neg (by omega)]); try with_reducible rfl)
              simp only [Act.put, sA]
              refine AtT.tk 10 ?_ 40 ?_ hS ?_
              rotate_left
              · (intro wS hSw; (try dsimp only at hSw); go_simp; (try rw [if_neg (by omega)]); try with_reducible rfl)
              simp only [Act.put, sA]
              refine AtT.tk 11 ?_ 41 ?_ hS ?_
              rotate_left
              · (intro wS hSw; (try dsimp only at hSw); go_simp; (try rw [if_neg (by omega)]); try with_reducible rfl)
              simp only [Act.put, sA]
              refine AtT.tk 12 ?_ 42 ?_ hS ?_
              rotate_left
              · (intro wS hSw; (try dsimp only at hSw); go_simp; (try rw [if_neg (by omega)]); try with_reducible rfl)
              simp only [Act.put, sA]
              refine AtT.tk 13 ?_ 43 ?_ hS ?_
              rotate_left
              · (intro wS hSw; (try dsimp only at hSw); have kr0 := (Mem.row hSw .here).cell; obtain ⟨y0, y1, y2, y3⟩ := HCY.out _ hSw.below; have y4 := HYZ.out _ hSw.below; go_simp; (try rw [if_neg (by omega)]); try with_reducible rfl)
              simp only [Act.put, sA]
              refine AtT.tk 14 ?_ 44 ?_ hS ?_
              rotate_left
              · (intro wS hSw; (try dsimp only at hSw); go_simp; (try rw [if_neg (by omega)]); try with_reducible rfl)
              simp only [Act.put, sA]
              refine AtT.tk 15 ?_ 45 ?_ hS ?_
              rotate_left
              · (intro wS hSw; (try dsimp only at hSw); have kr0 := (Mem.row hSw .here).cell; obtain ⟨y0, y1, y2, y3⟩ := HCY.out _ hSw.below; have y4 := HYZ.out _ hSw.below; go_simp; (try rw [if_neg (by omega)]); try with_reducible rfl)
              simp only [Act.put, sA]
              refine AtT.tk 16 ?_ 46 ?_ hS ?_
              rotate_left
              · (intro wS hSw; (try dsimp only at hSw); go_simp; (try rw [if_neg (by omega)]); try with_reducible rfl)
              simp only [Act.put, sA]
              refine AtT.tk 17 ?_ 47 ?_ hS ?_
              rotate_left
              · (intro wS hSw; (try dsimp only at hSw); have kr0 := (Mem.row hSw .here).cell; obtain ⟨y0, y1, y2, y3⟩ := HCY.out _ hSw.below; have y4 := HYZ.out _ hSw.below; go_simp; (try rw [if_neg (by omega)]); try with_reducible rfl)
              simp only [Act.put, sA]
              refine AtT.tk 18 ?_ 48 ?_ hS ?_
              rotate_left
              · (intro wS hSw; (try dsimp only at hSw); have kr0 := (Mem.row hSw .here).cell; obtain ⟨y0, y1, y2, y3⟩ := HCY.out _ hSw.below; have y4 := HYZ.out _ hSw.below; go_simp; (try rw [if_neg (by omega)]); try with_reducible rfl)
              simp only [Act.put, sA]
              refine AtT.tk 19 ?_ 49 ?_ hS ?_
              rotate_left
              · (intro wS hSw; (try dsimp only at hSw); have kr0 := (Mem.row hSw .here).cell; obtain ⟨y0, y1, y2, y3⟩ := HCY.out _ hSw.below; have y4 := HYZ.out _ hSw.below; go_simp; (try rw [if_neg (by omega)]); try with_reducible rfl)
              simp only [Act.put, sA]
              refine AtT.tk 20 ?_ 50 ?_ hS ?_
              rotate_left
              · (intro wS hSw; (try dsimp only at hSw); go_simp; (try rw [if_neg (by omega)]); try with_reducible rfl)
              simp only [Act.put, sA]
              refine AtT.tk 21 ?_ 51 ?_ hS ?_
              rotate_left
              · (intro wS hSw; (try dsimp only at hSw); have kr0 := (Mem.row hSw .here).cell; obtain ⟨y0, y1, y2, y3⟩ := HCY.out _ hSw.below; have y4 := HYZ.out _ hSw.below; go_simp; (try rw [if_neg (by omega)]); try with_reducible rfl)
              simp only [Act.put, sA]
              refine AtT.tk 22 ?_ 52 ?_ hS ?_
              rotate_left
              · (intro wS hSw; (try dsimp only at hSw); go_simp; (try rw [if_neg (by omega)]); try with_reducible rfl)
              simp only [Act.put, sA]
              refine AtT.tk 23 ?_ 53 ?_ hS ?_
              rotate_left
              · (intro wS hSw; (try dsimp only at hSw); go_simp; (try rw [if_neg (by omega)]); try with_reducible rfl)
              simp only [Act.put, sA]
              refine AtT.last (by kernel_rfl) rfl (by kernel_rfl) ?_
              intro K hK
              clear hS
              go_simp
              refine hK.out _ _ ?_
              clear hK K
              go_wp2_with fail
              go_meet
              exact ⟨by rw [decide_eq_false HJK.out]; rfl, hM⟩
          case rest =>
            clear hM
            obtain ⟨rfl, hM⟩ := hcut
            cases hq : (!decide (j = k) && decide (xq ≤ z))
            · have hok : (decide (j = k) || decide (z < xq)) = true := by
                by_cases h1 : j = k
                · simp [h1]
                · by_cases h2 : xq ≤ z
                  · simp [h1, h2] at hq
                  · simp; right; omega
              have hkp := HKP.out
              rw [hok, Bool.true_and] at hkp
              have HKL := Lib.hid hkp
              clear hok hkp hq
              go_wp2_with fail
              go_loopw [9] (fun s9 wq3 => ∃ v2 : Nat, v2 ≤ xn ∧ s9 = .int .i64 v2 ∧ Hid (∀ i, i < v2 → yl.getD i 0 ≤ xl.getD i 0) ∧ Mem w.heap.size w wq3 [rowE w.heap.size 40 #[.int .i64 (xm : Int), .int .i64 xq, .slice (some ⟨bx, ox, none⟩) xn xc, .string (bsA xw)]]) (fun s9 _ => xn - (intOf s9).toNat)
              case atStart => exact ⟨0, Nat.zero_le _, rfl, Lib.hid (fun i hi => by omega), hM⟩
              case round =>
                clear hM
                obtain ⟨v2, hv2, rfl, HLE, hM⟩ := hrel
                by_cases hl2 : v2 < xn
                · have w0' : (0 : Int) ≤ (v2 : Int) := by omega
                  have w1' : (v2 : Int) < (xn : Int) := by omega
                  obtain ⟨zx, hzx⟩ : ∃ z, xl.getD v2 0 = z := ⟨_, rfl⟩
                  obtain ⟨zy, hzy⟩ : ∃ z, yl.getD v2 0 = z := ⟨_, rfl⟩
                  have HZX := Lib.hid hzx; have HZY := Lib.hid hzy
                  clear hzx hzy
                  go_upto_region 14 with fail
                  apply Mem.atWpA
                  · exact memA
                  clear hM
                  intro wst hM
                  (try simp only [World.size_alloc, World.size_setCell, World.heap_drewN, heapDrew, Nat.add_assoc, Nat.reduceAdd, sA, List.cons_append, List.nil_append] at hM)
                  refine AtT.startA hM hM 12 (by kernel_rfl) ?_
                  clear hM
                  intro wd hM
                  have hS := hM
                  refine AtT.tk 0 ?_ 61 ?_ hS ?_
                  rotate_left
                  · (intro wS hSw; (try dsimp only at hSw); go_simp; (try rw [if_neg (by omega)]); try with_reducible rfl)
                  simp only [Act.put, sA]
                  refine AtT.tk 1 ?_ 62 ?_ hS ?_
                  rotate_left
                  · (intro wS hSw; (try dsimp only at hSw); go_simp; (try rw [if_neg (by omega)]); try with_reducible rfl)
                  simp only [Act.put, sA]
                  refine AtT.tk 2 ?_ 63 ?_ hS ?_
                  rotate_left
                  · (intro wS hSw; (try dsimp only at hSw); obtain ⟨y0, y1, y2, y3⟩ := HCY.out _ hSw.below; have y4 := (HYI.out.ext hSw.below).cellK hl2; have y5 := (HXI.out.ext hSw.below).cellK hl2; rw [HZY.out] at y4; rw [HZX.out] at y5; go_simp; (try rw [if_neg (by omega)]); try with_reducible rfl)
                  simp only [Act.put, sA]
                  refine AtT.tk 3 ?_ 64 ?_ hS ?_
                  rotate_left
                  · (intro wS hSw; (try dsimp only at hSw); go_simp; (try rw [if_neg (by omega)]); try with_reducible rfl)
                  simp only [Act.put, sA]
                  refine AtT.tk 4 ?_ 65 ?_ hS ?_
                  rotate_left
                  · (intro wS hSw; (try dsimp only at hSw); obtain ⟨y0, y1, y2, y3⟩ := HCY.out _ hSw.below; have y4 := (HYI.out.ext hSw.below).cellK hl2; have y5 := (HXI.out.ext hSw.below).cellK hl2; rw [HZY.out] at y4; rw [HZX.out] at y5; go_simp; (try rw [if_neg (by omega)]); try with_reducible rfl)
                  simp only [Act.put, sA]
                  refine AtT.tk 5 ?_ 66 ?_ hS ?_
                  rotate_left
                  · (intro wS hSw; (try dsimp only at hSw); go_simp; (try rw [if_neg (by omega)]); try with_reducible rfl)
                  simp only [Act.put, sA]
                  refine AtT.tk 6 ?_ 67 ?_ hS ?_
                  rotate_left
                  · (intro wS hSw; (try dsimp only at hSw); obtain ⟨y0, y1, y2, y3⟩ := HCY.out _ hSw.below; have y4 := (HYI.out.ext hSw.below).cellK hl2; have y5 := (HXI.out.ext hSw.below).cellK hl2; rw [HZY.out] at y4; rw [HZX.out] at y5; go_simp; (try rw [if_neg (by omega)]); try with_reducible rfl)
                  simp only [Act.put, sA]
                  refine AtT.tk 7 ?_ 68 ?_ hS ?_
                  rotate_left
                  · (intro wS hSw; (try dsimp only at hSw); obtain ⟨y0, y1, y2, y3⟩ := HCY.out _ hSw.below; have y4 := (HYI.out.ext hSw.below).cellK hl2; have y5 := (HXI.out.ext hSw.below).cellK hl2; rw [HZY.out] at y4; rw [HZX.out] at y5; go_simp; (try rw [if_neg (by omega)]); try with_reducible rfl)
                  simp only [Act.put, sA]
                  refine AtT.tk 8 ?_ 69 ?_ hS ?_
                  rotate_left
                  · (intro wS hSw; (try dsimp only at hSw); go_simp; (try rw [if_neg (by omega)]); try with_reducible rfl)
                  simp only [Act.put, sA]
                  refine AtT.tk 9 ?_ 70 ?_ hS ?_
                  rotate_left
                  · (intro wS hSw; (try dsimp only at hSw); go_simp; (try rw [if_neg (by omega)]); try with_reducible rfl)
                  simp only [Act.put, sA]
                  refine AtT.tk 10 ?_ 71 ?_ hS ?_
                  rotate_left
                  · (intro wS hSw; (try dsimp only at hSw); obtain ⟨y0, y1, y2, y3⟩ := HCY.out _ hSw.below; have y4 := (HYI.out.ext hSw.below).cellK hl2; have y5 := (HXI.out.ext hSw.below).cellK hl2; rw [HZY.out] at y4; rw [HZX.out] at y5; go_simp; (try rw [if_neg (by omega)]); try with_reducible rfl)
                  simp only [Act.put, sA]
                  refine AtT.tk 11 ?_ 72 ?_ hS ?_
                  rotate_left
                  · (intro wS hSw; (try dsimp only at hSw); obtain ⟨y0, y1, y2, y3⟩ := HCY.out _ hSw.below; have y4 := (HYI.out.ext hSw.below).cellK hl2; have y5 := (HXI.out.ext hSw.below).cellK hl2; rw [HZY.out] at y4; rw [HZX.out] at y5; go_simp; (try rw [if_neg (by omega)]); try with_reducible rfl)
                  simp only [Act.put, sA]
                  refine AtT.last (by kernel_rfl) rfl (by kernel_rfl) ?_
                  intro K hK
                  clear hS
                  go_simp
                  refine hK.out _ _ ?_
                  clear hK K
                  by_cases hgt : zx < zy
                  · have hrf := HBF.out (by
                      rw [HKL.out]
                      cases hle : leC yl xl with
                      | false => rfl
                      | true =>
                        have h1 := leC_true.1 hle v2 (by rw [HYL.out]; exact hl2)
                        rw [HZX.out, HZY.out] at h1
                        omega)
                    subst hrf
                    go_wp2
                    go_ret
                    exact ⟨rfl, (by apply Mem.below; (exact memA))⟩
                  · have HLE2 : Hid (∀ i, i < v2 + 1 → yl.getD i 0 ≤ xl.getD i 0) := Lib.hid (fun i hi => by
                      by_cases e : i < v2
                      · exact HLE.out i e
                      · obtain rfl : i = v2 := by omega
                        rw [HZX.out, HZY.out]; omega)
                    go_wp2
                    go_roundw
                    case rel => exact ⟨v2 + 1, by omega, by go_num, HLE2, hM⟩
                    case measure => simp [intOf]; omega
                · obtain rfl : v2 = xn := by omega
                  have hkt : knowP (coreN xs) (NoteI.core ⟨(xm : Int), xq, some ⟨bx, ox, none⟩, v2, xc, xl, xw⟩) ((v : Int), (t : Int)) = true := by
                    rw [HKL.out]
                    exact leC_true.2 fun i hi => HLE.out i (by rw [← HYL.out]; exact hi)
                  have HS3 := Lib.hid (HTA.out hkt)
                  go_wp2
                  go_roundw
                  case rel => exact ⟨s + 1, t + 1, by omega, Lib.hid (by rw [HTS.out]), by go_num, HS3, hM⟩
                  case measure => simp [intOf]; omega
            · have hno : (decide (j = k) || decide (z < xq)) = false := by
                simp at hq
                simp
                exact ⟨hq.1, by omega⟩
              have hrf := HBF.out (by rw [HKP.out, hno]; rfl)
              subst hrf
              clear hno
              go_wp2
              go_ret
              exact ⟨rfl, (by apply Mem.below; (exact memA))⟩
        · obtain rfl : s = X := by omega
          have htX : ¬ t ≤ s := by have := HTS.out; omega
          have HS3 := Lib.hid (HTC.out HLN.out)
          clear HLN
          go_wp2
          go_roundw
          case rel => exact ⟨v + 1, by omega, by go_num, HS3, hM⟩
          case measure => simp [intOf]; omega
    · obtain rfl : v = xn := by omega
      have hrf := HKB.out.trans HLM.out
      subst hrf
      clear HLM
      go_wp2
      go_ret
      exact ⟨rfl, (by apply Mem.below; (exact memA))⟩
end Go.Proofs.YtjnbdgldpmmamaaGreat
