/-
  MissingKinds: the reference's.
-/
import Derived.Test.YtfnaenekdenmkaaYMissI
/-
  MissingKinds: the reference's.
-/
namespace Go.Proofs.Ytfnaenekdenmkaa
set_option linter.unusedSimpArgs false
set_option linter.unusedVariables false
open Go.RowKit

theorem Rd.dropR {α : Type} {F : Fl α} {w : World} {g n c k : Nat} {xs : List α} (h : Rd F w (some ⟨g, 0, none⟩) n c xs) (hk : k ≤ n) : Rd F w (some ⟨g, k * F.sz, none⟩) (n - k) (c - k) (xs.drop k) := by
  have hl := h.len
  refine ⟨by rw [List.length_drop]; omega, by have := h.cap; omega, by have := h.capm; omega, by simp, Nat.le_trans (Nat.mul_le_mul_right _ (by omega)) h.room, fun x hx => h.wf x (List.mem_of_mem_drop hx), fun j hj => ?_⟩
  obtain ⟨b, off, ha, hb, hc⟩ := h.at' (k + j) (by omega)
  simp only [Option.some.injEq, Addr.mk.injEq] at ha
  obtain ⟨rfl, rfl, _⟩ := ha
  refine ⟨g, k * F.sz, rfl, hb, fun i hi q hq => ?_⟩
  have := hc (k + i) (by omega) q hq
  rw [show 0 + ((k + i) * F.sz + q) = k * F.sz + (i * F.sz + q) by rw [Nat.add_mul]; omega] at this
  rw [this, List.getD_eq_getElem?_getD, List.getD_eq_getElem?_getD, List.getElem?_drop]
theorem Rd.takeO {α : Type} {F : Fl α} {w : World} {a : Option Addr} {n c k : Nat} {xs : List α} (h : Rd F w a n c xs) (hk : k ≤ n) : Rd F w a k c (xs.take k) := by
  have hl := h.len
  refine ⟨by rw [List.length_take]; omega, by have := h.cap; omega, h.capm, h.nil, Nat.le_trans (Nat.mul_le_mul_right _ hk) h.room, fun x hx => h.wf x (List.mem_of_mem_take hx), fun j hj => ?_⟩
  obtain ⟨b, off, ha, hb, hc⟩ := h.at' j (by omega)
  refine ⟨b, off, ha, hb, fun i hi q hq => ?_⟩
  rw [hc i (by omega) q hq, List.getD_eq_getElem?_getD, List.getD_eq_getElem?_getD, List.getElem?_take, if_pos hi]
theorem Rd.noneR {α : Type} {F : Fl α} {w : World} {a : Option Addr} {c : Nat} (hc : c ≤ maxLen) (h : a = none → c = 0) : Rd F w a 0 c [] :=
  ⟨rfl, Nat.zero_le _, hc, h, by omega, by simp, fun k hk => by omega⟩

set_option maxRecDepth 100000 in
set_option maxHeartbeats 16000000 in
theorem specMissing_any (a1 : Option Addr) (n1 c1 : Nat) (os : List OrderI) (a2 : Option Addr) (n2 c2 : Nat) (ss : List StockI) (w : World) (h1 : Rd FOrder w a1 n1 c1 os) (h2 : Rd FStock w a2 n2 c2 ss) :
    Calls Try.prog 34 #[.slice a1 n1 c1, .slice a2 n2 c2] w fun e w' => ∃ a' c', e = .returned (.tuple #[.slice a' (missR os ss).length c', .bool (missB os ss)]) ∧ Mem w.heap.size w w' [owE FStock 46 a' (missR os ss).length c' (missR os ss)] := by
  have hM := Mem.start w
  have BL := bsA_list
  obtain ⟨i0, hi, hz0, hz1, hz2⟩ := info_parts Try.info46
  cases ho : ordersB os
  · have e1 : missB os ss = false := by rw [missB, openB, ho]; rfl
    have e2 : missR os ss = [] := by rw [missR, e1]; rfl
    rw [e1, e2]
    have HO := Lib.hid ho; clear ho e1 e2
    go_enter Try.func34, Try.ntmps34
    go_upto_region 2 with fail
    apply Mem.atWpA
    · (repeat' (first | with_reducible exact hM | with_reducible exact hMp | with_reducible apply Mem.drew | with_reducible apply Mem.drewN | with_reducible apply Mem.alloc | with_reducible apply Mem.set | with_reducible exact Sto.row | ((with_reducible refine Sto.rowEq2 ?_ ?_); omega; rfl) | ((with_reducible refine Sto.rowEq ?_); omega) | with_reducible apply Sto.int | with_reducible apply Sto.there | with_reducible assumption | (unfold I64; omega) | (with_reducible (have hMx := Mem.undrew hM; exact hMx)) | (with_reducible (have hMx := Mem.undrew hMp; exact hMx))))
    clear hM
    intro wst hM
    (try simp only [World.size_alloc, World.size_setCell, World.heap_drewN, heapDrew, Nat.add_assoc, Nat.reduceAdd, List.setIfInBounds_toArray, List.set_cons_zero, List.set_cons_succ, List.cons_append, List.nil_append] at hM)
    replace hM := Mem.toOwR (F := FStock) hM
    go_wp2_with fail
    apply Mem.atA
    · (repeat' (first | with_reducible exact hM | with_reducible exact hMp | with_reducible apply Mem.drew | with_reducible apply Mem.drewN | with_reducible apply Mem.alloc | with_reducible apply Mem.set | with_reducible exact Sto.row | ((with_reducible refine Sto.rowEq2 ?_ ?_); omega; rfl) | ((with_reducible refine Sto.rowEq ?_); omega) | with_reducible apply Sto.int | with_reducible apply Sto.there | with_reducible assumption | (unfold I64; omega) | (with_reducible (have hMx := Mem.undrew hM; exact hMx)) | (with_reducible (have hMx := Mem.undrew hMp; exact hMx))))
    clear hM
    intro wst hM
    (try simp only [World.size_alloc, World.size_setCell, World.heap_drewN, heapDrew, Nat.add_assoc, Nat.reduceAdd, List.setIfInBounds_toArray, List.set_cons_zero, List.set_cons_succ, List.cons_append, List.nil_append] at hM)
    (first | refine (l15Good_any a1 n1 c1 os _ (h1.ext hM.below)).mono ?_)
    rw [HO.out]
    rintro e wc1 ⟨rfl, hb⟩
    replace hM := hM.ext hb
    clear hb
    go_wp2
    go_ret2
    exact ⟨_, _, rfl, hM⟩
  cases hs : storeB ss
  · have e1 : missB os ss = false := by rw [missB, openB, ho, hs]; rfl
    have e2 : missR os ss = [] := by rw [missR, e1]; rfl
    rw [e1, e2]
    have HO := Lib.hid ho; have HS := Lib.hid hs
    clear ho hs e1 e2
    go_enter Try.func34, Try.ntmps34
    go_upto_region 2 with fail
    apply Mem.atWpA
    · (repeat' (first | with_reducible exact hM | with_reducible exact hMp | with_reducible apply Mem.drew | with_reducible apply Mem.drewN | with_reducible apply Mem.alloc | with_reducible apply Mem.set | with_reducible exact Sto.row | ((with_reducible refine Sto.rowEq2 ?_ ?_); omega; rfl) | ((with_reducible refine Sto.rowEq ?_); omega) | with_reducible apply Sto.int | with_reducible apply Sto.there | with_reducible assumption | (unfold I64; omega) | (with_reducible (have hMx := Mem.undrew hM; exact hMx)) | (with_reducible (have hMx := Mem.undrew hMp; exact hMx))))
    clear hM
    intro wst hM
    (try simp only [World.size_alloc, World.size_setCell, World.heap_drewN, heapDrew, Nat.add_assoc, Nat.reduceAdd, List.setIfInBounds_toArray, List.set_cons_zero, List.set_cons_succ, List.cons_append, List.nil_append] at hM)
    replace hM := Mem.toOwR (F := FStock) hM
    go_wp2_with fail
    apply Mem.atA
    · (repeat' (first | with_reducible exact hM | with_reducible exact hMp | with_reducible apply Mem.drew | with_reducible apply Mem.drewN | with_reducible apply Mem.alloc | with_reducible apply Mem.set | with_reducible exact Sto.row | ((with_reducible refine Sto.rowEq2 ?_ ?_); omega; rfl) | ((with_reducible refine Sto.rowEq ?_); omega) | with_reducible apply Sto.int | with_reducible apply Sto.there | with_reducible assumption | (unfold I64; omega) | (with_reducible (have hMx := Mem.undrew hM; exact hMx)) | (with_reducible (have hMx := Mem.undrew hMp; exact hMx))))
    clear hM
    intro wst hM
    (try simp only [World.size_alloc, World.size_setCell, World.heap_drewN, heapDrew, Nat.add_assoc, Nat.reduceAdd, List.setIfInBounds_toArray, List.set_cons_zero, List.set_cons_succ, List.cons_append, List.nil_append] at hM)
    (first | refine (l15Good_any a1 n1 c1 os _ (h1.ext hM.below)).mono ?_)
    rw [HO.out]
    rintro e wc2 ⟨rfl, hb⟩
    replace hM := hM.ext hb
    clear hb
    go_wp2_with fail
    apply Mem.atA
    · (repeat' (first | with_reducible exact hM | with_reducible exact hMp | with_reducible apply Mem.drew | with_reducible apply Mem.drewN | with_reducible apply Mem.alloc | with_reducible apply Mem.set | with_reducible exact Sto.row | ((with_reducible refine Sto.rowEq2 ?_ ?_); omega; rfl) | ((with_reducible refine Sto.rowEq ?_); omega) | with_reducible apply Sto.int | with_reducible apply Sto.there | with_reducible assumption | (unfold I64; omega) | (with_reducible (have hMx := Mem.undrew hM; exact hMx)) | (with_reducible (have hMx := Mem.undrew hMp; exact hMx))))
    clear hM
    intro wst hM
    (try simp only [World.size_alloc, World.size_setCell, World.heap_drewN, heapDrew, Nat.add_assoc, Nat.reduceAdd, List.setIfInBounds_toArray, List.set_cons_zero, List.set_cons_succ, List.cons_append, List.nil_append] at hM)
    (first | refine (l15Store_any a2 n2 c2 ss _ (h2.ext hM.below)).mono ?_)
    rw [HS.out]
    rintro e wc3 ⟨rfl, hb⟩
    replace hM := hM.ext hb
    clear hb
    go_wp2
    go_ret2
    exact ⟨_, _, rfl, hM⟩
  have hob : openB os ss = true := by rw [openB, ho, hs]; rfl
  have hsp := store_put (openL_len (ss := ss) ho) (openL_ok ho hs)
  have e1 : missB os ss = storeB (putAll (openL os ss)) := by rw [missB, hob, hsp]; rfl
  have e2 : missR os ss = if storeB (putAll (openL os ss)) then putAll (openL os ss) else [] := by rw [missR, e1]; rfl
  clear hsp hob
  have HL := Lib.hid h1.len
  have HWF := Lib.hid h1.wf
  have hn10 : n1 ≤ 10 := by have := ord_len ho; rw [h1.len] at this; exact this
  have HO := Lib.hid ho; have HS := Lib.hid hs
  clear ho hs
  have HGS := Lib.hid (fun k => gotL_small HO.out HS.out (k := k))
  have HGL := Lib.hid (fun k => gotL_le (ss := ss) HO.out k)
  have HOK := Lib.hid (fun k hk => openTo_ok HO.out HS.out k hk)
  have hol : openL os ss = openTo os (gotL os ss) n1 := by rw [openL, HL.out]
  rw [hol] at e1 e2
  clear hol
  obtain ⟨gs, hgs⟩ : ∃ gs, gotL os ss = gs := ⟨_, rfl⟩
  rw [hgs] at HGS HGL HOK e1 e2
  have HG := Lib.hid hgs; clear hgs
  obtain ⟨bv, hbv⟩ : ∃ b, missB os ss = b := ⟨_, rfl⟩
  obtain ⟨rv, hrv⟩ : ∃ b, missR os ss = b := ⟨_, rfl⟩
  rw [hbv] at e1 ⊢
  rw [hrv] at e2 ⊢
  have HB := Lib.hid e1; have HZ := Lib.hid e2
  clear e1 e2 hbv hrv
  go_enter Try.func34, Try.ntmps34
  go_upto_region 2 with fail
  apply Mem.atWpA
  · (repeat' (first | with_reducible exact hM | with_reducible exact hMp | with_reducible apply Mem.drew | with_reducible apply Mem.drewN | with_reducible apply Mem.alloc | with_reducible apply Mem.set | with_reducible exact Sto.row | ((with_reducible refine Sto.rowEq2 ?_ ?_); omega; rfl) | ((with_reducible refine Sto.rowEq ?_); omega) | with_reducible apply Sto.int | with_reducible apply Sto.there | with_reducible assumption | (unfold I64; omega) | (with_reducible (have hMx := Mem.undrew hM; exact hMx)) | (with_reducible (have hMx := Mem.undrew hMp; exact hMx))))
  clear hM
  intro wst hM
  (try simp only [World.size_alloc, World.size_setCell, World.heap_drewN, heapDrew, Nat.add_assoc, Nat.reduceAdd, List.setIfInBounds_toArray, List.set_cons_zero, List.set_cons_succ, List.cons_append, List.nil_append] at hM)
  replace hM := Mem.toOwR (F := FStock) hM
  go_wp2_with fail
  apply Mem.atA
  · (repeat' (first | with_reducible exact hM | with_reducible exact hMp | with_reducible apply Mem.drew | with_reducible apply Mem.drewN | with_reducible apply Mem.alloc | with_reducible apply Mem.set | with_reducible exact Sto.row | ((with_reducible refine Sto.rowEq2 ?_ ?_); omega; rfl) | ((with_reducible refine Sto.rowEq ?_); omega) | with_reducible apply Sto.int | with_reducible apply Sto.there | with_reducible assumption | (unfold I64; omega) | (with_reducible (have hMx := Mem.undrew hM; exact hMx)) | (with_reducible (have hMx := Mem.undrew hMp; exact hMx))))
  clear hM
  intro wst hM
  (try simp only [World.size_alloc, World.size_setCell, World.heap_drewN, heapDrew, Nat.add_assoc, Nat.reduceAdd, List.setIfInBounds_toArray, List.set_cons_zero, List.set_cons_succ, List.cons_append, List.nil_append] at hM)
  (first | refine (l15Good_any a1 n1 c1 os _ (h1.ext hM.below)).mono ?_)
  rw [HO.out]
  rintro e wc4 ⟨rfl, hb⟩
  replace hM := hM.ext hb
  clear hb
  go_wp2_with fail
  apply Mem.atA
  · (repeat' (first | with_reducible exact hM | with_reducible exact hMp | with_reducible apply Mem.drew | with_reducible apply Mem.drewN | with_reducible apply Mem.alloc | with_reducible apply Mem.set | with_reducible exact Sto.row | ((with_reducible refine Sto.rowEq2 ?_ ?_); omega; rfl) | ((with_reducible refine Sto.rowEq ?_); omega) | with_reducible apply Sto.int | with_reducible apply Sto.there | with_reducible assumption | (unfold I64; omega) | (with_reducible (have hMx := Mem.undrew hM; exact hMx)) | (with_reducible (have hMx := Mem.undrew hMp; exact hMx))))
  clear hM
  intro wst hM
  (try simp only [World.size_alloc, World.size_setCell, World.heap_drewN, heapDrew, Nat.add_assoc, Nat.reduceAdd, List.setIfInBounds_toArray, List.set_cons_zero, List.set_cons_succ, List.cons_append, List.nil_append] at hM)
  (first | refine (l15Store_any a2 n2 c2 ss _ (h2.ext hM.below)).mono ?_)
  rw [HS.out]
  rintro e wc5 ⟨rfl, hb⟩
  replace hM := hM.ext hb
  clear hb
  go_wp2_with fail
  apply Mem.atA
  · (repeat' (first | with_reducible exact hM | with_reducible exact hMp | with_reducible apply Mem.drew | with_reducible apply Mem.drewN | with_reducible apply Mem.alloc | with_reducible apply Mem.set | with_reducible exact Sto.row | ((with_reducible refine Sto.rowEq2 ?_ ?_); omega; rfl) | ((with_reducible refine Sto.rowEq ?_); omega) | with_reducible apply Sto.int | with_reducible apply Sto.there | with_reducible assumption | (unfold I64; omega) | (with_reducible (have hMx := Mem.undrew hM; exact hMx)) | (with_reducible (have hMx := Mem.undrew hMp; exact hMx))))
  clear hM
  intro wst hM
  (try simp only [World.size_alloc, World.size_setCell, World.heap_drewN, heapDrew, Nat.add_assoc, Nat.reduceAdd, List.setIfInBounds_toArray, List.set_cons_zero, List.set_cons_succ, List.cons_append, List.nil_append] at hM)
  (first | refine (l15Serve_any a1 n1 c1 os a2 n2 c2 ss _ (h1.ext hM.below) (h2.ext hM.below) HO.out HS.out).mono ?_)
  rintro e wc6 ⟨a5, c5, a6, c6, rfl, hm⟩
  replace hM := hM.join hm
  clear hm
  (try simp only [World.size_alloc, World.size_setCell, World.heap_drewN, heapDrew, Nat.add_assoc, Nat.reduceAdd, List.setIfInBounds_toArray, List.set_cons_zero, List.set_cons_succ, List.cons_append, List.nil_append] at hM)
  rw [HG.out] at hM
  replace hM := Mem.pick (is := [2, 0]) hM (by decide) rfl
  go_wp2_with fail
  go_loopw [6, 9] (fun s6 s9 wr => ∃ (k g c6 : Nat), k ≤ n1 ∧ s9 = .int .i64 k ∧ s6 = .slice (some ⟨g, 0, none⟩) (putAll (openTo os gs k)).length c6 ∧ Mem w.heap.size w wr [owE FStock 46 (some ⟨g, 0, none⟩) (putAll (openTo os gs k)).length c6 (putAll (openTo os gs k)), intE a5 n1 c5 gs]) (fun _ s9 _ => n1 - (intOf s9).toNat)
  case atStart => exact ⟨0, _, _, Nat.zero_le _, rfl, rfl, hM⟩
  case round =>
    clear hM
    obtain ⟨k, g, c6, hk, rfl, rfl, hM⟩ := hrel
    by_cases hlt : k < n1
    · obtain ⟨g5, rfl, -⟩ := (hM.ints (.there .here)).head (by omega)
      have hle := openTo_le os gs k
      have hg := HGS.out k
      have hgl := HGL.out k
      have hod := orderB_true (ord_get HO.out (k := k) (by rw [HL.out]; exact hlt))
      have hoc := hod.2.2.1
      have hwf := HWF.out _ (getD_memO (d := OrderI.zero) (xs := os) (k := k) (by rw [HL.out]; exact hlt))
      have hst : openTo os gs (k + 1) = if gs.getD k 0 < (os.getD k OrderI.zero).ct then openTo os gs k ++ [lackO os gs k] else openTo os gs k := by rw [openTo]
      have hlk : lackO os gs k = { os.getD k OrderI.zero with ct := (os.getD k OrderI.zero).ct - gs.getD k 0 } := rfl
      rw [hlk] at hst
      clear hlk hod
      have hrow := addAll_ok _ (openTo os gs k) rfl (HOK.out k (by rw [HL.out]; exact hk))
      have hlen := Nat.le_trans (putAll_len (openTo os gs k)) hle
      have hst2 : putAll (openTo os gs (k + 1)) = if gs.getD k 0 < (os.getD k OrderI.zero).ct then putK (os.getD k OrderI.zero).kd ((os.getD k OrderI.zero).ct - gs.getD k 0) (putAll (openTo os gs k)) else putAll (openTo os gs k) := by
        rw [hst]
        split
        · rw [putAll_snoc]
        · rfl
      have hrw : ∀ s ∈ putAll (openTo os gs k), rowOK (openTo os gs k).length s := fun s h => hrow s (putAll_mem h)
      clear hst hrow
      generalize (openTo os gs k).length = tl at hrw hle
      obtain ⟨us, hus⟩ : ∃ us, putAll (openTo os gs k) = us := ⟨_, rfl⟩
      rw [hus] at hM hst2 hlen hrw ⊢
      clear hus
      obtain ⟨v, hv⟩ : ∃ v, os.getD k OrderI.zero = v := ⟨_, rfl⟩
      obtain ⟨gk, hgk⟩ : ∃ gk, gs.getD k 0 = gk := ⟨_, rfl⟩
      rw [hv] at hoc hwf hst2 hgl
      rw [hgk] at hg hst2 hgl
      have HGK := Lib.hid hgk
      have HV := Lib.hid hv
      clear hgk hv
      obtain ⟨bo, off, rfl, -, -⟩ := h1.at' _ hlt
      obtain ⟨oi, ok, oc, ou, ot⟩ := v
      dsimp only at hoc hst2 hgl
      have hwk : ok.length ≤ maxLen := hwf.2.1
      have HST := Lib.hid hst2; have HR := Lib.hid hrw
      clear hst2 hwf hrw
      have hwr : IntKind.i64.wrap (oc - gk) = oc - gk := wrap_in (by omega)
      have ki0 : (0 : Int) ≤ (k : Int) := by omega
      have ki1 : (k : Int) < (n1 : Int) := by omega
      go_upto_region 8 with fail
      apply Mem.atWpA
      · (repeat' (first | with_reducible exact hM | with_reducible exact hMp | with_reducible apply Mem.drew | with_reducible apply Mem.drewN | with_reducible apply Mem.alloc | with_reducible apply Mem.set | with_reducible exact Sto.row | ((with_reducible refine Sto.rowEq2 ?_ ?_); omega; rfl) | ((with_reducible refine Sto.rowEq ?_); omega) | with_reducible apply Sto.int | with_reducible apply Sto.there | with_reducible assumption | (unfold I64; omega) | (with_reducible (have hMx := Mem.undrew hM; exact hMx)) | (with_reducible (have hMx := Mem.undrew hMp; exact hMx))))
      clear hM
      intro wst hM
      (try simp only [World.size_alloc, World.size_setCell, World.heap_drewN, heapDrew, Nat.add_assoc, Nat.reduceAdd, List.setIfInBounds_toArray, List.set_cons_zero, List.set_cons_succ, List.cons_append, List.nil_append] at hM)
      refine AtT.startA hM hM 10 (by kernel_rfl) ?_
      clear hM
      intro wd hM
      have hS := hM
      refine AtT.taked (i := 0) (v := ?_) (some 34) rfl rfl (by kernel_rfl) (by kernel_rfl) (by kernel_rfl) (by kernel_rfl) (fun _ _ _ h => h) (Or.inl ⟨by kernel_rfl, ?_⟩) hS ?_
      rotate_left
      · (intro wS hSw; (try dsimp only at hSw); go_simp; (try rw [if_neg (by omega)]); try with_reducible rfl)
      simp only [Act.put, List.setIfInBounds_toArray, List.set_cons_zero, List.set_cons_succ]
      refine AtT.taked (i := 1) (v := ?_) (some 35) rfl rfl (by kernel_rfl) (by kernel_rfl) (by kernel_rfl) (by kernel_rfl) (fun _ _ _ h => h) (Or.inl ⟨by kernel_rfl, ?_⟩) hS ?_
      rotate_left
      · (intro wS hSw; (try dsimp only at hSw); go_simp; (try rw [if_neg (by omega)]); try with_reducible rfl)
      simp only [Act.put, List.setIfInBounds_toArray, List.set_cons_zero, List.set_cons_succ]
      refine AtT.taked (i := 2) (v := ?_) (some 36) rfl rfl (by kernel_rfl) (by kernel_rfl) (by kernel_rfl) (by kernel_rfl) (fun _ _ _ h => h) (Or.inl ⟨by kernel_rfl, ?_⟩) hS ?_
      rotate_left
      · (intro wS hSw; (try dsimp only at hSw); have r4 := ((h1.ext hSw.below).cellOrder hlt).2.2.2.1; rw [HV.out] at r4; dsimp only at r4; have r5 := (hSw.ints (.there .here)).cellAt hlt; rw [HGK.out] at r5; go_simp; (try rw [if_neg (by omega)]); try with_reducible rfl)
      simp only [Act.put, List.setIfInBounds_toArray, List.set_cons_zero, List.set_cons_succ]
      refine AtT.taked (i := 3) (v := ?_) (some 37) rfl rfl (by kernel_rfl) (by kernel_rfl) (by kernel_rfl) (by kernel_rfl) (fun _ _ _ h => h) (Or.inl ⟨by kernel_rfl, ?_⟩) hS ?_
      rotate_left
      · (intro wS hSw; (try dsimp only at hSw); go_simp; (try rw [if_neg (by omega)]); try with_reducible rfl)
      simp only [Act.put, List.setIfInBounds_toArray, List.set_cons_zero, List.set_cons_succ]
      refine AtT.taked (i := 4) (v := ?_) (some 38) rfl rfl (by kernel_rfl) (by kernel_rfl) (by kernel_rfl) (by kernel_rfl) (fun _ _ _ h => h) (Or.inl ⟨by kernel_rfl, ?_⟩) hS ?_
      rotate_left
      · (intro wS hSw; (try dsimp only at hSw); have r4 := ((h1.ext hSw.below).cellOrder hlt).2.2.2.1; rw [HV.out] at r4; dsimp only at r4; have r5 := (hSw.ints (.there .here)).cellAt hlt; rw [HGK.out] at r5; go_simp; (try rw [if_neg (by omega)]); try with_reducible rfl)
      simp only [Act.put, List.setIfInBounds_toArray, List.set_cons_zero, List.set_cons_succ]
      refine AtT.taked (i := 5) (v := ?_) (some 39) rfl rfl (by kernel_rfl) (by kernel_rfl) (by kernel_rfl) (by kernel_rfl) (fun _ _ _ h => h) (Or.inl ⟨by kernel_rfl, ?_⟩) hS ?_
      rotate_left
      · (intro wS hSw; (try dsimp only at hSw); go_simp; (try rw [if_neg (by omega)]); try with_reducible rfl)
      simp only [Act.put, List.setIfInBounds_toArray, List.set_cons_zero, List.set_cons_succ]
      refine AtT.taked (i := 6) (v := ?_) (some 40) rfl rfl (by kernel_rfl) (by kernel_rfl) (by kernel_rfl) (by kernel_rfl) (fun _ _ _ h => h) (Or.inl ⟨by kernel_rfl, ?_⟩) hS ?_
      rotate_left
      · (intro wS hSw; (try dsimp only at hSw); go_simp; (try rw [if_neg (by omega)]); try with_reducible rfl)
      simp only [Act.put, List.setIfInBounds_toArray, List.set_cons_zero, List.set_cons_succ]
      refine AtT.taked (i := 7) (v := ?_) (some 41) rfl rfl (by kernel_rfl) (by kernel_rfl) (by kernel_rfl) (by kernel_rfl) (fun _ _ _ h => h) (Or.inl ⟨by kernel_rfl, ?_⟩) hS ?_
      rotate_left
      · (intro wS hSw; (try dsimp only at hSw); have r4 := ((h1.ext hSw.below).cellOrder hlt).2.2.2.1; rw [HV.out] at r4; dsimp only at r4; have r5 := (hSw.ints (.there .here)).cellAt hlt; rw [HGK.out] at r5; go_simp; (try rw [if_neg (by omega)]); try with_reducible rfl)
      simp only [Act.put, List.setIfInBounds_toArray, List.set_cons_zero, List.set_cons_succ]
      refine AtT.taked (i := 8) (v := ?_) (some 42) rfl rfl (by kernel_rfl) (by kernel_rfl) (by kernel_rfl) (by kernel_rfl) (fun _ _ _ h => h) (Or.inl ⟨by kernel_rfl, ?_⟩) hS ?_
      rotate_left
      · (intro wS hSw; (try dsimp only at hSw); have r4 := ((h1.ext hSw.below).cellOrder hlt).2.2.2.1; rw [HV.out] at r4; dsimp only at r4; have r5 := (hSw.ints (.there .here)).cellAt hlt; rw [HGK.out] at r5; go_simp; (try rw [if_neg (by omega)]); try with_reducible rfl)
      simp only [Act.put, List.setIfInBounds_toArray, List.set_cons_zero, List.set_cons_succ]
      refine AtT.taked (i := 9) (v := ?_) (some 43) rfl rfl (by kernel_rfl) (by kernel_rfl) (by kernel_rfl) (by kernel_rfl) (fun _ _ _ h => h) (Or.inl ⟨by kernel_rfl, ?_⟩) hS ?_
      rotate_left
      · (intro wS hSw; (try dsimp only at hSw); go_simp; (try rw [if_neg (by omega)]); try with_reducible rfl)
      simp only [Act.put, List.setIfInBounds_toArray, List.set_cons_zero, List.set_cons_succ]
      refine AtT.last (by kernel_rfl) rfl (by kernel_rfl) ?_
      intro K hK
      clear hS
      go_simp
      refine hK.out _ _ ?_
      clear hK K
      by_cases hgo : gk < oc
      · have HS2 := Lib.hid (show putAll (openTo os gs (k + 1)) = putK ok (oc - gk) us by rw [HST.out, if_pos hgo])
        have hgz : ((oc - gk) == 0) = false := by rw [beq_eq_false_iff_ne]; omega
        obtain ⟨d, hd⟩ : ∃ d, oc - gk = d := ⟨_, rfl⟩
        have hd1 : 1 ≤ d ∧ d ≤ 99 := by omega
        rw [hd] at HS2 hgz hwr ⊢
        clear hd
        have hpl := putK_pl (kd := ok) (n := d) (l := us)
        have hpk := posK_le ok us
        have HPL := Lib.hid (fun j (h : j < posK ok us) => posK_lt (kd := ok) (l := us) h)
        have HPA := Lib.hid (posK_at (kd := ok) (l := us))
        generalize posK ok us = p at hpl hpk HPL HPA
        have HS3 := Lib.hid (HS2.out.trans hpl)
        clear hpl
        go_wp2_with fail
        go_loopw [11] (fun s11 wq => ∃ j : Nat, j ≤ p ∧ s11 = .int .i64 j ∧ Mem w.heap.size w wq [owE FStock 46 (some ⟨g, 0, none⟩) us.length c6 us, intE (some ⟨g5, 0, none⟩) n1 c5 gs]) (fun s11 _ => us.length + 1 - (intOf s11).toNat)
        case atStart => exact ⟨0, Nat.zero_le _, rfl, hM⟩
        case round =>
          clear hM
          obtain ⟨j, hj, rfl, hM⟩ := hrel
          by_cases hjp : j < p
          · have hju : j < us.length := by omega
            have hbl := HPL.out j hjp
            obtain ⟨y, hy⟩ : ∃ y, us.getD j StockI.zero = y := ⟨_, rfl⟩
            rw [hy] at hbl
            have HY := Lib.hid hy; clear hy
            obtain ⟨yk, yc⟩ := y
            unfold ltS at hbl
            dsimp only at hbl
            have j0 : (0 : Int) ≤ (j : Int) := by omega
            have j1 : (j : Int) < (us.length : Int) := by omega
            go_upto_region 11 with fail
            apply Mem.atWpA
            · (repeat' (first | with_reducible exact hM | with_reducible exact hMp | with_reducible apply Mem.drew | with_reducible apply Mem.drewN | with_reducible apply Mem.alloc | with_reducible apply Mem.set | with_reducible exact Sto.row | ((with_reducible refine Sto.rowEq2 ?_ ?_); omega; rfl) | ((with_reducible refine Sto.rowEq ?_); omega) | with_reducible apply Sto.int | with_reducible apply Sto.there | with_reducible assumption | (unfold I64; omega) | (with_reducible (have hMx := Mem.undrew hM; exact hMx)) | (with_reducible (have hMx := Mem.undrew hMp; exact hMx))))
            clear hM
            intro wst hM
            (try simp only [World.size_alloc, World.size_setCell, World.heap_drewN, heapDrew, Nat.add_assoc, Nat.reduceAdd, List.setIfInBounds_toArray, List.set_cons_zero, List.set_cons_succ, List.cons_append, List.nil_append] at hM)
            refine AtT.startA hM hM 16 (by kernel_rfl) ?_
            clear hM
            intro wd hM
            have hS := hM
            refine AtT.taked (i := 0) (v := ?_) (some 46) rfl rfl (by kernel_rfl) (by kernel_rfl) (by kernel_rfl) (by kernel_rfl) (fun _ _ _ h => h) (Or.inl ⟨by kernel_rfl, ?_⟩) hS ?_
            rotate_left
            · (intro wS hSw; (try dsimp only at hSw); go_simp; (try rw [if_neg (by omega)]); try with_reducible rfl)
            simp only [Act.put, List.setIfInBounds_toArray, List.set_cons_zero, List.set_cons_succ]
            refine AtT.taked (i := 1) (v := ?_) (some 47) rfl rfl (by kernel_rfl) (by kernel_rfl) (by kernel_rfl) (by kernel_rfl) (fun _ _ _ h => h) (Or.inl ⟨by kernel_rfl, ?_⟩) hS ?_
            rotate_left
            · (intro wS hSw; (try dsimp only at hSw); go_simp; (try rw [if_neg (by omega)]); try with_reducible rfl)
            simp only [Act.put, List.setIfInBounds_toArray, List.set_cons_zero, List.set_cons_succ]
            refine AtT.taked (i := 2) (v := ?_) (some 48) rfl rfl (by kernel_rfl) (by kernel_rfl) (by kernel_rfl) (by kernel_rfl) (fun _ _ _ h => h) (Or.inl ⟨by kernel_rfl, ?_⟩) hS ?_
            rotate_left
            · (intro wS hSw; (try dsimp only at hSw); go_simp; (try rw [if_neg (by omega)]); try with_reducible rfl)
            simp only [Act.put, List.setIfInBounds_toArray, List.set_cons_zero, List.set_cons_succ]
            refine AtT.taked (i := 3) (v := ?_) (some 49) rfl rfl (by kernel_rfl) (by kernel_rfl) (by kernel_rfl) (by kernel_rfl) (fun _ _ _ h => h) (Or.inl ⟨by kernel_rfl, ?_⟩) hS ?_
            rotate_left
            · (intro wS hSw; (try dsimp only at hSw); go_simp; (try rw [if_neg (by omega)]); try with_reducible rfl)
            simp only [Act.put, List.setIfInBounds_toArray, List.set_cons_zero, List.set_cons_succ]
            refine AtT.taked (i := 4) (v := ?_) (some 50) rfl rfl (by kernel_rfl) (by kernel_rfl) (by kernel_rfl) (by kernel_rfl) (fun _ _ _ h => h) (Or.inl ⟨by kernel_rfl, ?_⟩) hS ?_
            rotate_left
            · (intro wS hSw; (try dsimp only at hSw); go_simp; (try rw [if_neg (by omega)]); try with_reducible rfl)
            simp only [Act.put, List.setIfInBounds_toArray, List.set_cons_zero, List.set_cons_succ]
            refine AtT.taked (i := 5) (v := ?_) (some 51) rfl rfl (by kernel_rfl) (by kernel_rfl) (by kernel_rfl) (by kernel_rfl) (fun _ _ _ h => h) (Or.inl ⟨by kernel_rfl, ?_⟩) hS ?_
            rotate_left
            · (intro wS hSw; (try dsimp only at hSw); go_simp; (try rw [if_neg (by omega)]); try with_reducible rfl)
            simp only [Act.put, List.setIfInBounds_toArray, List.set_cons_zero, List.set_cons_succ]
            refine AtT.taked (i := 6) (v := ?_) (some 52) rfl rfl (by kernel_rfl) (by kernel_rfl) (by kernel_rfl) (by kernel_rfl) (fun _ _ _ h => h) (Or.inl ⟨by kernel_rfl, ?_⟩) hS ?_
            rotate_left
            · (intro wS hSw; (try dsimp only at hSw); go_simp; (try rw [if_neg (by omega)]); try with_reducible rfl)
            simp only [Act.put, List.setIfInBounds_toArray, List.set_cons_zero, List.set_cons_succ]
            refine AtT.taked (i := 7) (v := ?_) (some 53) rfl rfl (by kernel_rfl) (by kernel_rfl) (by kernel_rfl) (by kernel_rfl) (fun _ _ _ h => h) (Or.inl ⟨by kernel_rfl, ?_⟩) hS ?_
            rotate_left
            · (intro wS hSw; (try dsimp only at hSw); have r4 := ((h1.ext hSw.below).cellOrder hlt).2.2.1; rw [HV.out] at r4; have r5 := ((hSw.ow .here).cellStock hju).1; rw [HY.out] at r5; dsimp only at r4 r5; go_simp; (try rw [if_neg (by omega)]); try with_reducible rfl)
            simp only [Act.put, List.setIfInBounds_toArray, List.set_cons_zero, List.set_cons_succ]
            refine AtT.taked (i := 8) (v := ?_) (some 54) rfl rfl (by kernel_rfl) (by kernel_rfl) (by kernel_rfl) (by kernel_rfl) (fun _ _ _ h => h) (Or.inl ⟨by kernel_rfl, ?_⟩) hS ?_
            rotate_left
            · (intro wS hSw; (try dsimp only at hSw); go_simp; (try rw [if_neg (by omega)]); try with_reducible rfl)
            simp only [Act.put, List.setIfInBounds_toArray, List.set_cons_zero, List.set_cons_succ]
            refine AtT.taked (i := 9) (v := ?_) (some 55) rfl rfl (by kernel_rfl) (by kernel_rfl) (by kernel_rfl) (by kernel_rfl) (fun _ _ _ h => h) (Or.inl ⟨by kernel_rfl, ?_⟩) hS ?_
            rotate_left
            · (intro wS hSw; (try dsimp only at hSw); have r4 := ((h1.ext hSw.below).cellOrder hlt).2.2.1; rw [HV.out] at r4; have r5 := ((hSw.ow .here).cellStock hju).1; rw [HY.out] at r5; dsimp only at r4 r5; go_simp; (try rw [if_neg (by omega)]); try with_reducible rfl)
            simp only [Act.put, List.setIfInBounds_toArray, List.set_cons_zero, List.set_cons_succ]
            refine AtT.taked (i := 10) (v := ?_) (some 56) rfl rfl (by kernel_rfl) (by kernel_rfl) (by kernel_rfl) (by kernel_rfl) (fun _ _ _ h => h) (Or.inl ⟨by kernel_rfl, ?_⟩) hS ?_
            rotate_left
            · (intro wS hSw; (try dsimp only at hSw); go_simp; (try rw [if_neg (by omega)]); try with_reducible rfl)
            simp only [Act.put, List.setIfInBounds_toArray, List.set_cons_zero, List.set_cons_succ]
            refine AtT.taked (i := 11) (v := ?_) (some 57) rfl rfl (by kernel_rfl) (by kernel_rfl) (by kernel_rfl) (by kernel_rfl) (fun _ _ _ h => h) (Or.inl ⟨by kernel_rfl, ?_⟩) hS ?_
            rotate_left
            · (intro wS hSw; (try dsimp only at hSw); go_simp; (try rw [if_neg (by omega)]); try with_reducible rfl)
            simp only [Act.put, List.setIfInBounds_toArray, List.set_cons_zero, List.set_cons_succ]
            refine AtT.taked (i := 12) (v := ?_) (some 58) rfl rfl (by kernel_rfl) (by kernel_rfl) (by kernel_rfl) (by kernel_rfl) (fun _ _ _ h => h) (Or.inl ⟨by kernel_rfl, ?_⟩) hS ?_
            rotate_left
            · (intro wS hSw; (try dsimp only at hSw); have r4 := ((h1.ext hSw.below).cellOrder hlt).2.2.1; rw [HV.out] at r4; have r5 := ((hSw.ow .here).cellStock hju).1; rw [HY.out] at r5; dsimp only at r4 r5; go_simp; (try rw [if_neg (by omega)]); try with_reducible rfl)
            simp only [Act.put, List.setIfInBounds_toArray, List.set_cons_zero, List.set_cons_succ]
            refine AtT.taked (i := 13) (v := ?_) (some 59) rfl rfl (by kernel_rfl) (by kernel_rfl) (by kernel_rfl) (by kernel_rfl) (fun _ _ _ h => h) (Or.inl ⟨by kernel_rfl, ?_⟩) hS ?_
            rotate_left
            · (intro wS hSw; (try dsimp only at hSw); go_simp; (try rw [if_neg (by omega)]); try with_reducible rfl)
            simp only [Act.put, List.setIfInBounds_toArray, List.set_cons_zero, List.set_cons_succ]
            refine AtT.taked (i := 14) (v := ?_) (some 60) rfl rfl (by kernel_rfl) (by kernel_rfl) (by kernel_rfl) (by kernel_rfl) (fun _ _ _ h => h) (Or.inl ⟨by kernel_rfl, ?_⟩) hS ?_
            rotate_left
            · (intro wS hSw; (try dsimp only at hSw); have r4 := ((h1.ext hSw.below).cellOrder hlt).2.2.1; rw [HV.out] at r4; have r5 := ((hSw.ow .here).cellStock hju).1; rw [HY.out] at r5; dsimp only at r4 r5; go_simp; (try rw [if_neg (by omega)]); try with_reducible rfl)
            simp only [Act.put, List.setIfInBounds_toArray, List.set_cons_zero, List.set_cons_succ]
            refine AtT.taked (i := 15) (v := ?_) (some 61) rfl rfl (by kernel_rfl) (by kernel_rfl) (by kernel_rfl) (by kernel_rfl) (fun _ _ _ h => h) (Or.inl ⟨by kernel_rfl, ?_⟩) hS ?_
            rotate_left
            · (intro wS hSw; (try dsimp only at hSw); go_simp; (try rw [if_neg (by omega)]); try with_reducible rfl)
            simp only [Act.put, List.setIfInBounds_toArray, List.set_cons_zero, List.set_cons_succ]
            refine AtT.last (by kernel_rfl) rfl (by kernel_rfl) ?_
            intro K hK
            clear hS
            go_simp
            refine hK.out _ _ ?_
            clear hK K
            go_wp2
            go_roundw
            case rel => exact ⟨j + 1, by omega, by go_num, hM⟩
            case measure => simp [intOf]; omega
          · obtain rfl : j = p := by omega
            clear hj hjp
            by_cases hju : j < us.length
            · have hbl := HPA.out hju
              obtain ⟨y, hy⟩ : ∃ y, us.getD j StockI.zero = y := ⟨_, rfl⟩
              have hs3 := HS3.out
              rw [hy] at hbl hs3
              have hyr := HR.out _ (getD_memO (d := StockI.zero) hju)
              rw [hy] at hyr
              have HY := Lib.hid hy; clear hy
              obtain ⟨yk, yc⟩ := y
              unfold ltS at hbl
              dsimp only at hbl hs3
              have hyb := hyr.2
              dsimp only at hyb
              clear hyr
              have j0 : (0 : Int) ≤ (j : Int) := by omega
              have j1 : (j : Int) < (us.length : Int) := by omega
              go_upto_region 11 with fail
              apply Mem.atWpA
              · (repeat' (first | with_reducible exact hM | with_reducible exact hMp | with_reducible apply Mem.drew | with_reducible apply Mem.drewN | with_reducible apply Mem.alloc | with_reducible apply Mem.set | with_reducible exact Sto.row | ((with_reducible refine Sto.rowEq2 ?_ ?_); omega; rfl) | ((with_reducible refine Sto.rowEq ?_); omega) | with_reducible apply Sto.int | with_reducible apply Sto.there | with_reducible assumption | (unfold I64; omega) | (with_reducible (have hMx := Mem.undrew hM; exact hMx)) | (with_reducible (have hMx := Mem.undrew hMp; exact hMx))))
              clear hM
              intro wst hM
              (try simp only [World.size_alloc, World.size_setCell, World.heap_drewN, heapDrew, Nat.add_assoc, Nat.reduceAdd, List.setIfInBounds_toArray, List.set_cons_zero, List.set_cons_succ, List.cons_append, List.nil_append] at hM)
              refine AtT.startA hM hM 16 (by kernel_rfl) ?_
              clear hM
              intro wd hM
              have hS := hM
              refine AtT.taked (i := 0) (v := ?_) (some 46) rfl rfl (by kernel_rfl) (by kernel_rfl) (by kernel_rfl) (by kernel_rfl) (fun _ _ _ h => h) (Or.inl ⟨by kernel_rfl, ?_⟩) hS ?_
              rotate_left
              · (intro wS hSw; (try dsimp only at hSw); go_simp; (try rw [if_neg (by omega)]); try with_reducible rfl)
              simp only [Act.put, List.setIfInBounds_toArray, List.set_cons_zero, List.set_cons_succ]
              refine AtT.taked (i := 1) (v := ?_) (some 47) rfl rfl (by kernel_rfl) (by kernel_rfl) (by kernel_rfl) (by kernel_rfl) (fun _ _ _ h => h) (Or.inl ⟨by kernel_rfl, ?_⟩) hS ?_
              rotate_left
              · (intro wS hSw; (try dsimp only at hSw); go_simp; (try rw [if_neg (by omega)]); try with_reducible rfl)
              simp only [Act.put, List.setIfInBounds_toArray, List.set_cons_zero, List.set_cons_succ]
              refine AtT.taked (i := 2) (v := ?_) (some 48) rfl rfl (by kernel_rfl) (by kernel_rfl) (by kernel_rfl) (by kernel_rfl) (fun _ _ _ h => h) (Or.inl ⟨by kernel_rfl, ?_⟩) hS ?_
              rotate_left
              · (intro wS hSw; (try dsimp only at hSw); go_simp; (try rw [if_neg (by omega)]); try with_reducible rfl)
              simp only [Act.put, List.setIfInBounds_toArray, List.set_cons_zero, List.set_cons_succ]
              refine AtT.taked (i := 3) (v := ?_) (some 49) rfl rfl (by kernel_rfl) (by kernel_rfl) (by kernel_rfl) (by kernel_rfl) (fun _ _ _ h => h) (Or.inl ⟨by kernel_rfl, ?_⟩) hS ?_
              rotate_left
              · (intro wS hSw; (try dsimp only at hSw); go_simp; (try rw [if_neg (by omega)]); try with_reducible rfl)
              simp only [Act.put, List.setIfInBounds_toArray, List.set_cons_zero, List.set_cons_succ]
              refine AtT.taked (i := 4) (v := ?_) (some 50) rfl rfl (by kernel_rfl) (by kernel_rfl) (by kernel_rfl) (by kernel_rfl) (fun _ _ _ h => h) (Or.inl ⟨by kernel_rfl, ?_⟩) hS ?_
              rotate_left
              · (intro wS hSw; (try dsimp only at hSw); go_simp; (try rw [if_neg (by omega)]); try with_reducible rfl)
              simp only [Act.put, List.setIfInBounds_toArray, List.set_cons_zero, List.set_cons_succ]
              refine AtT.taked (i := 5) (v := ?_) (some 51) rfl rfl (by kernel_rfl) (by kernel_rfl) (by kernel_rfl) (by kernel_rfl) (fun _ _ _ h => h) (Or.inl ⟨by kernel_rfl, ?_⟩) hS ?_
              rotate_left
              · (intro wS hSw; (try dsimp only at hSw); go_simp; (try rw [if_neg (by omega)]); try with_reducible rfl)
              simp only [Act.put, List.setIfInBounds_toArray, List.set_cons_zero, List.set_cons_succ]
              refine AtT.taked (i := 6) (v := ?_) (some 52) rfl rfl (by kernel_rfl) (by kernel_rfl) (by kernel_rfl) (by kernel_rfl) (fun _ _ _ h => h) (Or.inl ⟨by kernel_rfl, ?_⟩) hS ?_
              rotate_left
              · (intro wS hSw; (try dsimp only at hSw); go_simp; (try rw [if_neg (by omega)]); try with_reducible rfl)
              simp only [Act.put, List.setIfInBounds_toArray, List.set_cons_zero, List.set_cons_succ]
              refine AtT.taked (i := 7) (v := ?_) (some 53) rfl rfl (by kernel_rfl) (by kernel_rfl) (by kernel_rfl) (by kernel_rfl) (fun _ _ _ h => h) (Or.inl ⟨by kernel_rfl, ?_⟩) hS ?_
              rotate_left
              · (intro wS hSw; (try dsimp only at hSw); have r4 := ((h1.ext hSw.below).cellOrder hlt).2.2.1; rw [HV.out] at r4; have r5 := ((hSw.ow .here).cellStock hju).1; rw [HY.out] at r5; dsimp only at r4 r5; go_simp; (try rw [if_neg (by omega)]); try with_reducible rfl)
              simp only [Act.put, List.setIfInBounds_toArray, List.set_cons_zero, List.set_cons_succ]
              refine AtT.taked (i := 8) (v := ?_) (some 54) rfl rfl (by kernel_rfl) (by kernel_rfl) (by kernel_rfl) (by kernel_rfl) (fun _ _ _ h => h) (Or.inl ⟨by kernel_rfl, ?_⟩) hS ?_
              rotate_left
              · (intro wS hSw; (try dsimp only at hSw); go_simp; (try rw [if_neg (by omega)]); try with_reducible rfl)
              simp only [Act.put, List.setIfInBounds_toArray, List.set_cons_zero, List.set_cons_succ]
              refine AtT.taked (i := 9) (v := ?_) (some 55) rfl rfl (by kernel_rfl) (by kernel_rfl) (by kernel_rfl) (by kernel_rfl) (fun _ _ _ h => h) (Or.inl ⟨by kernel_rfl, ?_⟩) hS ?_
              rotate_left
              · (intro wS hSw; (try dsimp only at hSw); have r4 := ((h1.ext hSw.below).cellOrder hlt).2.2.1; rw [HV.out] at r4; have r5 := ((hSw.ow .here).cellStock hju).1; rw [HY.out] at r5; dsimp only at r4 r5; go_simp; (try rw [if_neg (by omega)]); try with_reducible rfl)
              simp only [Act.put, List.setIfInBounds_toArray, List.set_cons_zero, List.set_cons_succ]
              refine AtT.taked (i := 10) (v := ?_) (some 56) rfl rfl (by kernel_rfl) (by kernel_rfl) (by kernel_rfl) (by kernel_rfl) (fun _ _ _ h => h) (Or.inl ⟨by kernel_rfl, ?_⟩) hS ?_
              rotate_left
              · (intro wS hSw; (try dsimp only at hSw); go_simp; (try rw [if_neg (by omega)]); try with_reducible rfl)
              simp only [Act.put, List.setIfInBounds_toArray, List.set_cons_zero, List.set_cons_succ]
              refine AtT.taked (i := 11) (v := ?_) (some 57) rfl rfl (by kernel_rfl) (by kernel_rfl) (by kernel_rfl) (by kernel_rfl) (fun _ _ _ h => h) (Or.inl ⟨by kernel_rfl, ?_⟩) hS ?_
              rotate_left
              · (intro wS hSw; (try dsimp only at hSw); go_simp; (try rw [if_neg (by omega)]); try with_reducible rfl)
              simp only [Act.put, List.setIfInBounds_toArray, List.set_cons_zero, List.set_cons_succ]
              refine AtT.taked (i := 12) (v := ?_) (some 58) rfl rfl (by kernel_rfl) (by kernel_rfl) (by kernel_rfl) (by kernel_rfl) (fun _ _ _ h => h) (Or.inl ⟨by kernel_rfl, ?_⟩) hS ?_
              rotate_left
              · (intro wS hSw; (try dsimp only at hSw); have r4 := ((h1.ext hSw.below).cellOrder hlt).2.2.1; rw [HV.out] at r4; have r5 := ((hSw.ow .here).cellStock hju).1; rw [HY.out] at r5; dsimp only at r4 r5; go_simp; (try rw [if_neg (by omega)]); try with_reducible rfl)
              simp only [Act.put, List.setIfInBounds_toArray, List.set_cons_zero, List.set_cons_succ]
              refine AtT.taked (i := 13) (v := ?_) (some 59) rfl rfl (by kernel_rfl) (by kernel_rfl) (by kernel_rfl) (by kernel_rfl) (fun _ _ _ h => h) (Or.inl ⟨by kernel_rfl, ?_⟩) hS ?_
              rotate_left
              · (intro wS hSw; (try dsimp only at hSw); go_simp; (try rw [if_neg (by omega)]); try with_reducible rfl)
              simp only [Act.put, List.setIfInBounds_toArray, List.set_cons_zero, List.set_cons_succ]
              refine AtT.taked (i := 14) (v := ?_) (some 60) rfl rfl (by kernel_rfl) (by kernel_rfl) (by kernel_rfl) (by kernel_rfl) (fun _ _ _ h => h) (Or.inl ⟨by kernel_rfl, ?_⟩) hS ?_
              rotate_left
              · (intro wS hSw; (try dsimp only at hSw); have r4 := ((h1.ext hSw.below).cellOrder hlt).2.2.1; rw [HV.out] at r4; have r5 := ((hSw.ow .here).cellStock hju).1; rw [HY.out] at r5; dsimp only at r4 r5; go_simp; (try rw [if_neg (by omega)]); try with_reducible rfl)
              simp only [Act.put, List.setIfInBounds_toArray, List.set_cons_zero, List.set_cons_succ]
              refine AtT.taked (i := 15) (v := ?_) (some 61) rfl rfl (by kernel_rfl) (by kernel_rfl) (by kernel_rfl) (by kernel_rfl) (fun _ _ _ h => h) (Or.inl ⟨by kernel_rfl, ?_⟩) hS ?_
              rotate_left
              · (intro wS hSw; (try dsimp only at hSw); go_simp; (try rw [if_neg (by omega)]); try with_reducible rfl)
              simp only [Act.put, List.setIfInBounds_toArray, List.set_cons_zero, List.set_cons_succ]
              refine AtT.last (by kernel_rfl) rfl (by kernel_rfl) ?_
              intro K hK
              clear hS
              go_simp
              refine hK.out _ _ ?_
              clear hK K
              by_cases hke : yk = ok
              · subst hke
                have hbe : (yk == yk) = true := by simp
                rw [if_pos ⟨hju, rfl⟩] at hs3
                have HS4 := Lib.hid hs3
                clear hs3
                have hw2 : IntKind.i64.wrap (yc + d) = yc + d := wrap_in (by omega)
                have HYW := Lib.hid (show FStock.wf (⟨yk, yc + d⟩ : StockI) from ⟨hwk, by show I64 (yc + d); unfold I64; omega⟩)
                go_upto_region 13 with fail
                apply Mem.atWpA
                · (repeat' (first | with_reducible exact hM | with_reducible exact hMp | with_reducible apply Mem.drew | with_reducible apply Mem.drewN | with_reducible apply Mem.alloc | with_reducible apply Mem.set | with_reducible exact Sto.row | ((with_reducible refine Sto.rowEq2 ?_ ?_); omega; rfl) | ((with_reducible refine Sto.rowEq ?_); omega) | with_reducible apply Sto.int | with_reducible apply Sto.there | with_reducible assumption | (unfold I64; omega) | (with_reducible (have hMx := Mem.undrew hM; exact hMx)) | (with_reducible (have hMx := Mem.undrew hMp; exact hMx))))
                clear hM
                intro wst hM
                (try simp only [World.size_alloc, World.size_setCell, World.heap_drewN, heapDrew, Nat.add_assoc, Nat.reduceAdd, List.setIfInBounds_toArray, List.set_cons_zero, List.set_cons_succ, List.cons_append, List.nil_append] at hM)
                refine AtT.startA hM hM 16 (by kernel_rfl) ?_
                clear hM
                intro wd hM
                have hS := hM
                refine AtT.taked (i := 0) (v := ?_) (some 65) rfl rfl (by kernel_rfl) (by kernel_rfl) (by kernel_rfl) (by kernel_rfl) (fun _ _ _ h => h) (Or.inl ⟨by kernel_rfl, ?_⟩) hS ?_
                rotate_left
                · (intro wS hSw; (try dsimp only at hSw); go_simp; (try rw [if_neg (by omega)]); try with_reducible rfl)
                simp only [Act.put, List.setIfInBounds_toArray, List.set_cons_zero, List.set_cons_succ]
                refine AtT.taked (i := 1) (v := ?_) (some 66) rfl rfl (by kernel_rfl) (by kernel_rfl) (by kernel_rfl) (by kernel_rfl) (fun _ _ _ h => h) (Or.inl ⟨by kernel_rfl, ?_⟩) hS ?_
                rotate_left
                · (intro wS hSw; (try dsimp only at hSw); go_simp; (try rw [if_neg (by omega)]); try with_reducible rfl)
                simp only [Act.put, List.setIfInBounds_toArray, List.set_cons_zero, List.set_cons_succ]
                refine AtT.taked (i := 2) (v := ?_) (some 67) rfl rfl (by kernel_rfl) (by kernel_rfl) (by kernel_rfl) (by kernel_rfl) (fun _ _ _ h => h) (Or.inl ⟨by kernel_rfl, ?_⟩) hS ?_
                rotate_left
                · (intro wS hSw; (try dsimp only at hSw); go_simp; (try rw [if_neg (by omega)]); try with_reducible rfl)
                simp only [Act.put, List.setIfInBounds_toArray, List.set_cons_zero, List.set_cons_succ]
                refine AtT.taked (i := 3) (v := ?_) (some 68) rfl rfl (by kernel_rfl) (by kernel_rfl) (by kernel_rfl) (by kernel_rfl) (fun _ _ _ h => h) (Or.inl ⟨by kernel_rfl, ?_⟩) hS ?_
                rotate_left
                · (intro wS hSw; (try dsimp only at hSw); go_simp; (try rw [if_neg (by omega)]); try with_reducible rfl)
                simp only [Act.put, List.setIfInBounds_toArray, List.set_cons_zero, List.set_cons_succ]
                refine AtT.taked (i := 4) (v := ?_) (some 69) rfl rfl (by kernel_rfl) (by kernel_rfl) (by kernel_rfl) (by kernel_rfl) (fun _ _ _ h => h) (Or.inl ⟨by kernel_rfl, ?_⟩) hS ?_
                rotate_left
                · (intro wS hSw; (try dsimp only at hSw); go_simp; (try rw [if_neg (by omega)]); try with_reducible rfl)
                simp only [Act.put, List.setIfInBounds_toArray, List.set_cons_zero, List.set_cons_succ]
                refine AtT.taked (i := 5) (v := ?_) (some 70) rfl rfl (by kernel_rfl) (by kernel_rfl) (by kernel_rfl) (by kernel_rfl) (fun _ _ _ h => h) (Or.inl ⟨by kernel_rfl, ?_⟩) hS ?_
                rotate_left
                · (intro wS hSw; (try dsimp only at hSw); go_simp; (try rw [if_neg (by omega)]); try with_reducible rfl)
                simp only [Act.put, List.setIfInBounds_toArray, List.set_cons_zero, List.set_cons_succ]
                refine AtT.taked (i := 6) (v := ?_) (some 71) rfl rfl (by kernel_rfl) (by kernel_rfl) (by kernel_rfl) (by kernel_rfl) (fun _ _ _ h => h) (Or.inl ⟨by kernel_rfl, ?_⟩) hS ?_
                rotate_left
                · (intro wS hSw; (try dsimp only at hSw); go_simp; (try rw [if_neg (by omega)]); try with_reducible rfl)
                simp only [Act.put, List.setIfInBounds_toArray, List.set_cons_zero, List.set_cons_succ]
                refine AtT.taked (i := 7) (v := ?_) (some 72) rfl rfl (by kernel_rfl) (by kernel_rfl) (by kernel_rfl) (by kernel_rfl) (fun _ _ _ h => h) (Or.inl ⟨by kernel_rfl, ?_⟩) hS ?_
                rotate_left
                · (intro wS hSw; (try dsimp only at hSw); have r4 := ((h1.ext hSw.below).cellOrder hlt).2.2.1; rw [HV.out] at r4; have r5 := ((hSw.ow .here).cellStock hju).1; rw [HY.out] at r5; dsimp only at r4 r5; go_simp; (try rw [if_neg (by omega)]); try with_reducible rfl)
                simp only [Act.put, List.setIfInBounds_toArray, List.set_cons_zero, List.set_cons_succ]
                refine AtT.taked (i := 8) (v := ?_) (some 73) rfl rfl (by kernel_rfl) (by kernel_rfl) (by kernel_rfl) (by kernel_rfl) (fun _ _ _ h => h) (Or.inl ⟨by kernel_rfl, ?_⟩) hS ?_
                rotate_left
                · (intro wS hSw; (try dsimp only at hSw); go_simp; (try rw [if_neg (by omega)]); try with_reducible rfl)
                simp only [Act.put, List.setIfInBounds_toArray, List.set_cons_zero, List.set_cons_succ]
                refine AtT.taked (i := 9) (v := ?_) (some 74) rfl rfl (by kernel_rfl) (by kernel_rfl) (by kernel_rfl) (by kernel_rfl) (fun _ _ _ h => h) (Or.inl ⟨by kernel_rfl, ?_⟩) hS ?_
                rotate_left
                · (intro wS hSw; (try dsimp only at hSw); have r4 := ((h1.ext hSw.below).cellOrder hlt).2.2.1; rw [HV.out] at r4; have r5 := ((hSw.ow .here).cellStock hju).1; rw [HY.out] at r5; dsimp only at r4 r5; go_simp; (try rw [if_neg (by omega)]); try with_reducible rfl)
                simp only [Act.put, List.setIfInBounds_toArray, List.set_cons_zero, List.set_cons_succ]
                refine AtT.taked (i := 10) (v := ?_) (some 75) rfl rfl (by kernel_rfl) (by kernel_rfl) (by kernel_rfl) (by kernel_rfl) (fun _ _ _ h => h) (Or.inl ⟨by kernel_rfl, ?_⟩) hS ?_
                rotate_left
                · (intro wS hSw; (try dsimp only at hSw); go_simp; (try rw [if_neg (by omega)]); try with_reducible rfl)
                simp only [Act.put, List.setIfInBounds_toArray, List.set_cons_zero, List.set_cons_succ]
                refine AtT.taked (i := 11) (v := ?_) (some 76) rfl rfl (by kernel_rfl) (by kernel_rfl) (by kernel_rfl) (by kernel_rfl) (fun _ _ _ h => h) (Or.inl ⟨by kernel_rfl, ?_⟩) hS ?_
                rotate_left
                · (intro wS hSw; (try dsimp only at hSw); go_simp; (try rw [if_neg (by omega)]); try with_reducible rfl)
                simp only [Act.put, List.setIfInBounds_toArray, List.set_cons_zero, List.set_cons_succ]
                refine AtT.taked (i := 12) (v := ?_) (some 77) rfl rfl (by kernel_rfl) (by kernel_rfl) (by kernel_rfl) (by kernel_rfl) (fun _ _ _ h => h) (Or.inl ⟨by kernel_rfl, ?_⟩) hS ?_
                rotate_left
                · (intro wS hSw; (try dsimp only at hSw); have r4 := ((h1.ext hSw.below).cellOrder hlt).2.2.1; rw [HV.out] at r4; have r5 := ((hSw.ow .here).cellStock hju).1; rw [HY.out] at r5; dsimp only at r4 r5; go_simp; (try rw [if_neg (by omega)]); try with_reducible rfl)
                simp only [Act.put, List.setIfInBounds_toArray, List.set_cons_zero, List.set_cons_succ]
                refine AtT.taked (i := 13) (v := ?_) (some 78) rfl rfl (by kernel_rfl) (by kernel_rfl) (by kernel_rfl) (by kernel_rfl) (fun _ _ _ h => h) (Or.inl ⟨by kernel_rfl, ?_⟩) hS ?_
                rotate_left
                · (intro wS hSw; (try dsimp only at hSw); go_simp; (try rw [if_neg (by omega)]); try with_reducible rfl)
                simp only [Act.put, List.setIfInBounds_toArray, List.set_cons_zero, List.set_cons_succ]
                refine AtT.taked (i := 14) (v := ?_) (some 79) rfl rfl (by kernel_rfl) (by kernel_rfl) (by kernel_rfl) (by kernel_rfl) (fun _ _ _ h => h) (Or.inl ⟨by kernel_rfl, ?_⟩) hS ?_
                rotate_left
                · (intro wS hSw; (try dsimp only at hSw); have r4 := ((h1.ext hSw.below).cellOrder hlt).2.2.1; rw [HV.out] at r4; have r5 := ((hSw.ow .here).cellStock hju).1; rw [HY.out] at r5; dsimp only at r4 r5; go_simp; (try rw [if_neg (by omega)]); try with_reducible rfl)
                simp only [Act.put, List.setIfInBounds_toArray, List.set_cons_zero, List.set_cons_succ]
                refine AtT.taked (i := 15) (v := ?_) (some 80) rfl rfl (by kernel_rfl) (by kernel_rfl) (by kernel_rfl) (by kernel_rfl) (fun _ _ _ h => h) (Or.inl ⟨by kernel_rfl, ?_⟩) hS ?_
                rotate_left
                · (intro wS hSw; (try dsimp only at hSw); go_simp; (try rw [if_neg (by omega)]); try with_reducible rfl)
                simp only [Act.put, List.setIfInBounds_toArray, List.set_cons_zero, List.set_cons_succ]
                refine AtT.last (by kernel_rfl) rfl (by kernel_rfl) ?_
                intro K hK
                clear hS
                go_simp
                refine hK.out _ _ ?_
                clear hK K
                go_upto_region 14 with fail
                apply Mem.atWpA
                · (repeat' (first | with_reducible exact hM | with_reducible exact hMp | with_reducible apply Mem.drew | with_reducible apply Mem.drewN | with_reducible apply Mem.alloc | with_reducible apply Mem.set | with_reducible exact Sto.row | ((with_reducible refine Sto.rowEq2 ?_ ?_); omega; rfl) | ((with_reducible refine Sto.rowEq ?_); omega) | with_reducible apply Sto.int | with_reducible apply Sto.there | with_reducible assumption | (unfold I64; omega) | (with_reducible (have hMx := Mem.undrew hM; exact hMx)) | (with_reducible (have hMx := Mem.undrew hMp; exact hMx))))
                clear hM
                intro wst hM
                (try simp only [World.size_alloc, World.size_setCell, World.heap_drewN, heapDrew, Nat.add_assoc, Nat.reduceAdd, List.setIfInBounds_toArray, List.set_cons_zero, List.set_cons_succ, List.cons_append, List.nil_append] at hM)
                refine AtT.startA hM hM 16 (by kernel_rfl) ?_
                clear hM
                intro wd hM
                have hS := hM
                refine AtT.taked (i := 0) (v := ?_) (some 82) rfl rfl (by kernel_rfl) (by kernel_rfl) (by kernel_rfl) (by kernel_rfl) (fun _ _ _ h => h) (Or.inl ⟨by kernel_rfl, ?_⟩) hS ?_
                rotate_left
                · (intro wS hSw; (try dsimp only at hSw); go_simp; (try rw [if_neg (by omega)]); try with_reducible rfl)
                simp only [Act.put, List.setIfInBounds_toArray, List.set_cons_zero, List.set_cons_succ]
                refine AtT.taked (i := 1) (v := ?_) (some 83) rfl rfl (by kernel_rfl) (by kernel_rfl) (by kernel_rfl) (by kernel_rfl) (fun _ _ _ h => h) (Or.inl ⟨by kernel_rfl, ?_⟩) hS ?_
                rotate_left
                · (intro wS hSw; (try dsimp only at hSw); go_simp; (try rw [if_neg (by omega)]); try with_reducible rfl)
                simp only [Act.put, List.setIfInBounds_toArray, List.set_cons_zero, List.set_cons_succ]
                refine AtT.taked (i := 2) (v := ?_) (some 84) rfl rfl (by kernel_rfl) (by kernel_rfl) (by kernel_rfl) (by kernel_rfl) (fun _ _ _ h => h) (Or.inl ⟨by kernel_rfl, ?_⟩) hS ?_
                rotate_left
                · (intro wS hSw; (try dsimp only at hSw); go_simp; (try rw [if_neg (by omega)]); try with_reducible rfl)
                simp only [Act.put, List.setIfInBounds_toArray, List.set_cons_zero, List.set_cons_succ]
                refine AtT.taked (i := 3) (v := ?_) (some 85) rfl rfl (by kernel_rfl) (by kernel_rfl) (by kernel_rfl) (by kernel_rfl) (fun _ _ _ h => h) (Or.inl ⟨by kernel_rfl, ?_⟩) hS ?_
                rotate_left
                · (intro wS hSw; (try dsimp only at hSw); go_simp; (try rw [if_neg (by omega)]); try with_reducible rfl)
                simp only [Act.put, List.setIfInBounds_toArray, List.set_cons_zero, List.set_cons_succ]
                refine AtT.taked (i := 4) (v := ?_) (some 86) rfl rfl (by kernel_rfl) (by kernel_rfl) (by kernel_rfl) (by kernel_rfl) (fun _ _ _ h => h) (Or.inl ⟨by kernel_rfl, ?_⟩) hS ?_
                rotate_left
                · (intro wS hSw; (try dsimp only at hSw); have r5 := (hSw.ow .here).cellStock hju; rw [HY.out] at r5; have r6 := r5.1; have r7 := r5.2; dsimp only at r6 r7; go_simp; (try rw [if_neg (by omega)]); try with_reducible rfl)
                simp only [Act.put, List.setIfInBounds_toArray, List.set_cons_zero, List.set_cons_succ]
                refine AtT.taked (i := 5) (v := ?_) (some 87) rfl rfl (by kernel_rfl) (by kernel_rfl) (by kernel_rfl) (by kernel_rfl) (fun _ _ _ h => h) (Or.inl ⟨by kernel_rfl, ?_⟩) hS ?_
                rotate_left
                · (intro wS hSw; (try dsimp only at hSw); go_simp; (try rw [if_neg (by omega)]); try with_reducible rfl)
                simp only [Act.put, List.setIfInBounds_toArray, List.set_cons_zero, List.set_cons_succ]
                refine AtT.taked (i := 6) (v := ?_) (some 88) rfl rfl (by kernel_rfl) (by kernel_rfl) (by kernel_rfl) (by kernel_rfl) (fun _ _ _ h => h) (Or.inl ⟨by kernel_rfl, ?_⟩) hS ?_
                rotate_left
                · (intro wS hSw; (try dsimp only at hSw); have r5 := (hSw.ow .here).cellStock hju; rw [HY.out] at r5; have r6 := r5.1; have r7 := r5.2; dsimp only at r6 r7; go_simp; (try rw [if_neg (by omega)]); try with_reducible rfl)
                simp only [Act.put, List.setIfInBounds_toArray, List.set_cons_zero, List.set_cons_succ]
                refine AtT.taked (i := 7) (v := ?_) (some 89) rfl rfl (by kernel_rfl) (by kernel_rfl) (by kernel_rfl) (by kernel_rfl) (fun _ _ _ h => h) (Or.inl ⟨by kernel_rfl, ?_⟩) hS ?_
                rotate_left
                · (intro wS hSw; (try dsimp only at hSw); go_simp; (try rw [if_neg (by omega)]); try with_reducible rfl)
                simp only [Act.put, List.setIfInBounds_toArray, List.set_cons_zero, List.set_cons_succ]
                refine AtT.taked (i := 8) (v := ?_) (some 90) rfl rfl (by kernel_rfl) (by kernel_rfl) (by kernel_rfl) (by kernel_rfl) (fun _ _ _ h => h) (Or.inl ⟨by kernel_rfl, ?_⟩) hS ?_
                rotate_left
                · (intro wS hSw; (try dsimp only at hSw); go_simp; (try rw [if_neg (by omega)]); try with_reducible rfl)
                simp only [Act.put, List.setIfInBounds_toArray, List.set_cons_zero, List.set_cons_succ]
                refine AtT.taked (i := 9) (v := ?_) (some 91) rfl rfl (by kernel_rfl) (by kernel_rfl) (by kernel_rfl) (by kernel_rfl) (fun _ _ _ h => h) (Or.inl ⟨by kernel_rfl, ?_⟩) hS ?_
                rotate_left
                · (intro wS hSw; (try dsimp only at hSw); have r5 := (hSw.ow .here).cellStock hju; rw [HY.out] at r5; have r6 := r5.1; have r7 := r5.2; dsimp only at r6 r7; go_simp; (try rw [if_neg (by omega)]); try with_reducible rfl)
                simp only [Act.put, List.setIfInBounds_toArray, List.set_cons_zero, List.set_cons_succ]
                refine AtT.taked (i := 10) (v := ?_) (some 92) rfl rfl (by kernel_rfl) (by kernel_rfl) (by kernel_rfl) (by kernel_rfl) (fun _ _ _ h => h) (Or.inl ⟨by kernel_rfl, ?_⟩) hS ?_
                rotate_left
                · (intro wS hSw; (try dsimp only at hSw); go_simp; (try rw [if_neg (by omega)]); try with_reducible rfl)
                simp only [Act.put, List.setIfInBounds_toArray, List.set_cons_zero, List.set_cons_succ]
                refine AtT.taked (i := 11) (v := ?_) (some 93) rfl rfl (by kernel_rfl) (by kernel_rfl) (by kernel_rfl) (by kernel_rfl) (fun _ _ _ h => h) (Or.inl ⟨by kernel_rfl, ?_⟩) hS ?_
                rotate_left
                · (intro wS hSw; (try dsimp only at hSw); have r5 := (hSw.ow .here).cellStock hju; rw [HY.out] at r5; have r6 := r5.1; have r7 := r5.2; dsimp only at r6 r7; go_simp; (try rw [if_neg (by omega)]); try with_reducible rfl)
                simp only [Act.put, List.setIfInBounds_toArray, List.set_cons_zero, List.set_cons_succ]
                refine AtT.taked (i := 12) (v := ?_) (some 94) rfl rfl (by kernel_rfl) (by kernel_rfl) (by kernel_rfl) (by kernel_rfl) (fun _ _ _ h => h) (Or.inl ⟨by kernel_rfl, ?_⟩) hS ?_
                rotate_left
                · (intro wS hSw; (try dsimp only at hSw); go_simp; (try rw [if_neg (by omega)]); try with_reducible rfl)
                simp only [Act.put, List.setIfInBounds_toArray, List.set_cons_zero, List.set_cons_succ]
                refine AtT.taked (i := 13) (v := ?_) (some 95) rfl rfl (by kernel_rfl) (by kernel_rfl) (by kernel_rfl) (by kernel_rfl) (fun _ _ _ h => h) (Or.inl ⟨by kernel_rfl, ?_⟩) hS ?_
                rotate_left
                · (intro wS hSw; (try dsimp only at hSw); go_simp; (try rw [if_neg (by omega)]); try with_reducible rfl)
                simp only [Act.put, List.setIfInBounds_toArray, List.set_cons_zero, List.set_cons_succ]
                refine AtT.taked (i := 14) (v := ?_) (some 96) rfl rfl (by kernel_rfl) (by kernel_rfl) (by kernel_rfl) (by kernel_rfl) (fun _ _ _ h => h) (Or.inl ⟨by kernel_rfl, ?_⟩) hS ?_
                rotate_left
                · (intro wS hSw; (try dsimp only at hSw); go_simp; (try rw [if_neg (by omega)]); try with_reducible rfl)
                simp only [Act.put, List.setIfInBounds_toArray, List.set_cons_zero, List.set_cons_succ]
                refine AtT.taked (i := 15) (v := ?_) (some 97) rfl rfl (by kernel_rfl) (by kernel_rfl) (by kernel_rfl) (by kernel_rfl) (fun _ _ _ h => h) (Or.inl ⟨by kernel_rfl, ?_⟩) hS ?_
                rotate_left
                · (intro wS hSw; (try dsimp only at hSw); have r5 := (hSw.ow .here).cellStock hju; rw [HY.out] at r5; have r6 := r5.1; have r7 := r5.2; dsimp only at r6 r7; go_simp; (try rw [if_neg (by omega)]); try with_reducible rfl)
                simp only [Act.put, List.setIfInBounds_toArray, List.set_cons_zero, List.set_cons_succ]
                refine AtT.last (by kernel_rfl) rfl (by kernel_rfl) ?_
                intro K hK
                clear hS
                have hce := ((hM.ow .here).cellStock hju).1
                have hcf := ((hM.ow .here).cellStock hju).2
                have hfe := (hM.ow .here).free
                go_simp
                refine hK.out _ _ ?_
                clear hK K
                have hM2 := hM.putStock hju ⟨yk, yc + d⟩ HYW.out .here
                clear hM
                go_wp2
                go_roundw
                case rel =>
                  have hl3 : (us.set j ⟨yk, yc + d⟩).length = us.length := by simp
                  refine ⟨k + 1, g, c6, by omega, by go_num, by rw [HS4.out, hl3], ?_⟩
                  rw [HS4.out, hl3]
                  exact hM2
                case measure => first | (simp [intOf]; done) | (simp [intOf]; omega)
              · have hbe : (yk == ok) = false := by simpa using hke
                rw [if_neg (by rintro ⟨-, e⟩; exact hke e)] at hs3
                have HS4 := Lib.hid hs3
                clear hs3
                go_upto_region 13 with fail
                apply Mem.atWpA
                · (repeat' (first | with_reducible exact hM | with_reducible exact hMp | with_reducible apply Mem.drew | with_reducible apply Mem.drewN | with_reducible apply Mem.alloc | with_reducible apply Mem.set | with_reducible exact Sto.row | ((with_reducible refine Sto.rowEq2 ?_ ?_); omega; rfl) | ((with_reducible refine Sto.rowEq ?_); omega) | with_reducible apply Sto.int | with_reducible apply Sto.there | with_reducible assumption | (unfold I64; omega) | (with_reducible (have hMx := Mem.undrew hM; exact hMx)) | (with_reducible (have hMx := Mem.undrew hMp; exact hMx))))
                clear hM
                intro wst hM
                (try simp only [World.size_alloc, World.size_setCell, World.heap_drewN, heapDrew, Nat.add_assoc, Nat.reduceAdd, List.setIfInBounds_toArray, List.set_cons_zero, List.set_cons_succ, List.cons_append, List.nil_append] at hM)
                refine AtT.startA hM hM 16 (by kernel_rfl) ?_
                clear hM
                intro wd hM
                have hS := hM
                refine AtT.taked (i := 0) (v := ?_) (some 65) rfl rfl (by kernel_rfl) (by kernel_rfl) (by kernel_rfl) (by kernel_rfl) (fun _ _ _ h => h) (Or.inl ⟨by kernel_rfl, ?_⟩) hS ?_
                rotate_left
                · (intro wS hSw; (try dsimp only at hSw); go_simp; (try rw [if_neg (by omega)]); try with_reducible rfl)
                simp only [Act.put, List.setIfInBounds_toArray, List.set_cons_zero, List.set_cons_succ]
                refine AtT.taked (i := 1) (v := ?_) (some 66) rfl rfl (by kernel_rfl) (by kernel_rfl) (by kernel_rfl) (by kernel_rfl) (fun _ _ _ h => h) (Or.inl ⟨by kernel_rfl, ?_⟩) hS ?_
                rotate_left
                · (intro wS hSw; (try dsimp only at hSw); go_simp; (try rw [if_neg (by omega)]); try with_reducible rfl)
                simp only [Act.put, List.setIfInBounds_toArray, List.set_cons_zero, List.set_cons_succ]
                refine AtT.taked (i := 2) (v := ?_) (some 67) rfl rfl (by kernel_rfl) (by kernel_rfl) (by kernel_rfl) (by kernel_rfl) (fun _ _ _ h => h) (Or.inl ⟨by kernel_rfl, ?_⟩) hS ?_
                rotate_left
                · (intro wS hSw; (try dsimp only at hSw); go_simp; (try rw [if_neg (by omega)]); try with_reducible rfl)
                simp only [Act.put, List.setIfInBounds_toArray, List.set_cons_zero, List.set_cons_succ]
                refine AtT.taked (i := 3) (v := ?_) (some 68) rfl rfl (by kernel_rfl) (by kernel_rfl) (by kernel_rfl) (by kernel_rfl) (fun _ _ _ h => h) (Or.inl ⟨by kernel_rfl, ?_⟩) hS ?_
                rotate_left
                · (intro wS hSw; (try dsimp only at hSw); go_simp; (try rw [if_neg (by omega)]); try with_reducible rfl)
                simp only [Act.put, List.setIfInBounds_toArray, List.set_cons_zero, List.set_cons_succ]
                refine AtT.taked (i := 4) (v := ?_) (some 69) rfl rfl (by kernel_rfl) (by kernel_rfl) (by kernel_rfl) (by kernel_rfl) (fun _ _ _ h => h) (Or.inl ⟨by kernel_rfl, ?_⟩) hS ?_
                rotate_left
                · (intro wS hSw; (try dsimp only at hSw); go_simp; (try rw [if_neg (by omega)]); try with_reducible rfl)
                simp only [Act.put, List.setIfInBounds_toArray, List.set_cons_zero, List.set_cons_succ]
                refine AtT.taked (i := 5) (v := ?_) (some 70) rfl rfl (by kernel_rfl) (by kernel_rfl) (by kernel_rfl) (by kernel_rfl) (fun _ _ _ h => h) (Or.inl ⟨by kernel_rfl, ?_⟩) hS ?_
                rotate_left
                · (intro wS hSw; (try dsimp only at hSw); go_simp; (try rw [if_neg (by omega)]); try with_reducible rfl)
                simp only [Act.put, List.setIfInBounds_toArray, List.set_cons_zero, List.set_cons_succ]
                refine AtT.taked (i := 6) (v := ?_) (some 71) rfl rfl (by kernel_rfl) (by kernel_rfl) (by kernel_rfl) (by kernel_rfl) (fun _ _ _ h => h) (Or.inl ⟨by kernel_rfl, ?_⟩) hS ?_
                rotate_left
                · (intro wS hSw; (try dsimp only at hSw); go_simp; (try rw [if_neg (by omega)]); try with_reducible rfl)
                simp only [Act.put, List.setIfInBounds_toArray, List.set_cons_zero, List.set_cons_succ]
                refine AtT.taked (i := 7) (v := ?_) (some 72) rfl rfl (by kernel_rfl) (by kernel_rfl) (by kernel_rfl) (by kernel_rfl) (fun _ _ _ h => h) (Or.inl ⟨by kernel_rfl, ?_⟩) hS ?_
                rotate_left
                · (intro wS hSw; (try dsimp only at hSw); have r4 := ((h1.ext hSw.below).cellOrder hlt).2.2.1; rw [HV.out] at r4; have r5 := ((hSw.ow .here).cellStock hju).1; rw [HY.out] at r5; dsimp only at r4 r5; go_simp; (try rw [if_neg (by omega)]); try with_reducible rfl)
                simp only [Act.put, List.setIfInBounds_toArray, List.set_cons_zero, List.set_cons_succ]
                refine AtT.taked (i := 8) (v := ?_) (some 73) rfl rfl (by kernel_rfl) (by kernel_rfl) (by kernel_rfl) (by kernel_rfl) (fun _ _ _ h => h) (Or.inl ⟨by kernel_rfl, ?_⟩) hS ?_
                rotate_left
                · (intro wS hSw; (try dsimp only at hSw); go_simp; (try rw [if_neg (by omega)]); try with_reducible rfl)
                simp only [Act.put, List.setIfInBounds_toArray, List.set_cons_zero, List.set_cons_succ]
                refine AtT.taked (i := 9) (v := ?_) (some 74) rfl rfl (by kernel_rfl) (by kernel_rfl) (by kernel_rfl) (by kernel_rfl) (fun _ _ _ h => h) (Or.inl ⟨by kernel_rfl, ?_⟩) hS ?_
                rotate_left
                · (intro wS hSw; (try dsimp only at hSw); have r4 := ((h1.ext hSw.below).cellOrder hlt).2.2.1; rw [HV.out] at r4; have r5 := ((hSw.ow .here).cellStock hju).1; rw [HY.out] at r5; dsimp only at r4 r5; go_simp; (try rw [if_neg (by omega)]); try with_reducible rfl)
                simp only [Act.put, List.setIfInBounds_toArray, List.set_cons_zero, List.set_cons_succ]
                refine AtT.taked (i := 10) (v := ?_) (some 75) rfl rfl (by kernel_rfl) (by kernel_rfl) (by kernel_rfl) (by kernel_rfl) (fun _ _ _ h => h) (Or.inl ⟨by kernel_rfl, ?_⟩) hS ?_
                rotate_left
                · (intro wS hSw; (try dsimp only at hSw); go_simp; (try rw [if_neg (by omega)]); try with_reducible rfl)
                simp only [Act.put, List.setIfInBounds_toArray, List.set_cons_zero, List.set_cons_succ]
                refine AtT.taked (i := 11) (v := ?_) (some 76) rfl rfl (by kernel_rfl) (by kernel_rfl) (by kernel_rfl) (by kernel_rfl) (fun _ _ _ h => h) (Or.inl ⟨by kernel_rfl, ?_⟩) hS ?_
                rotate_left
                · (intro wS hSw; (try dsimp only at hSw); go_simp; (try rw [if_neg (by omega)]); try with_reducible rfl)
                simp only [Act.put, List.setIfInBounds_toArray, List.set_cons_zero, List.set_cons_succ]
                refine AtT.taked (i := 12) (v := ?_) (some 77) rfl rfl (by kernel_rfl) (by kernel_rfl) (by kernel_rfl) (by kernel_rfl) (fun _ _ _ h => h) (Or.inl ⟨by kernel_rfl, ?_⟩) hS ?_
                rotate_left
                · (intro wS hSw; (try dsimp only at hSw); have r4 := ((h1.ext hSw.below).cellOrder hlt).2.2.1; rw [HV.out] at r4; have r5 := ((hSw.ow .here).cellStock hju).1; rw [HY.out] at r5; dsimp only at r4 r5; go_simp; (try rw [if_neg (by omega)]); try with_reducible rfl)
                simp only [Act.put, List.setIfInBounds_toArray, List.set_cons_zero, List.set_cons_succ]
                refine AtT.taked (i := 13) (v := ?_) (some 78) rfl rfl (by kernel_rfl) (by kernel_rfl) (by kernel_rfl) (by kernel_rfl) (fun _ _ _ h => h) (Or.inl ⟨by kernel_rfl, ?_⟩) hS ?_
                rotate_left
                · (intro wS hSw; (try dsimp only at hSw); go_simp; (try rw [if_neg (by omega)]); try with_reducible rfl)
                simp only [Act.put, List.setIfInBounds_toArray, List.set_cons_zero, List.set_cons_succ]
                refine AtT.taked (i := 14) (v := ?_) (some 79) rfl rfl (by kernel_rfl) (by kernel_rfl) (by kernel_rfl) (by kernel_rfl) (fun _ _ _ h => h) (Or.inl ⟨by kernel_rfl, ?_⟩) hS ?_
                rotate_left
                · (intro wS hSw; (try dsimp only at hSw); have r4 := ((h1.ext hSw.below).cellOrder hlt).2.2.1; rw [HV.out] at r4; have r5 := ((hSw.ow .here).cellStock hju).1; rw [HY.out] at r5; dsimp only at r4 r5; go_simp; (try rw [if_neg (by omega)]); try with_reducible rfl)
                simp only [Act.put, List.setIfInBounds_toArray, List.set_cons_zero, List.set_cons_succ]
                refine AtT.taked (i := 15) (v := ?_) (some 80) rfl rfl (by kernel_rfl) (by kernel_rfl) (by kernel_rfl) (by kernel_rfl) (fun _ _ _ h => h) (Or.inl ⟨by kernel_rfl, ?_⟩) hS ?_
                rotate_left
                · (intro wS hSw; (try dsimp only at hSw); go_simp; (try rw [if_neg (by omega)]); try with_reducible rfl)
                simp only [Act.put, List.setIfInBounds_toArray, List.set_cons_zero, List.set_cons_succ]
                refine AtT.last (by kernel_rfl) rfl (by kernel_rfl) ?_
                intro K hK
                clear hS
                go_simp
                refine hK.out _ _ ?_
                clear hK K
                as_aux_lemma =>
                  have hcp := (hM.ow .here).rd.cap
                  have hcm := (hM.ow .here).rd.capm
                  unfold maxLen at hcm
                  have hkc : j < c6 := by omega
                  have hck : ¬ c6 = j := by omega
                  have j2 : (j : Int) ≤ (us.length : Int) := by omega
                  have j3 : (j : Int) ≤ (c6 : Int) := by omega
                  have HYW := Lib.hid (show FStock.wf (⟨ok, d⟩ : StockI) from ⟨hwk, by show I64 d; unfold I64; omega⟩)
                  go_upto_region 15 with fail
                  apply Mem.atWpA
                  · (repeat' (first | with_reducible exact hM | with_reducible exact hMp | with_reducible apply Mem.drew | with_reducible apply Mem.drewN | with_reducible apply Mem.alloc | with_reducible apply Mem.set | with_reducible exact Sto.row | ((with_reducible refine Sto.rowEq2 ?_ ?_); omega; rfl) | ((with_reducible refine Sto.rowEq ?_); omega) | with_reducible apply Sto.int | with_reducible apply Sto.there | with_reducible assumption | (unfold I64; omega) | (with_reducible (have hMx := Mem.undrew hM; exact hMx)) | (with_reducible (have hMx := Mem.undrew hMp; exact hMx))))
                  clear hM
                  intro wst hM
                  (try simp only [World.size_alloc, World.size_setCell, World.heap_drewN, heapDrew, Nat.add_assoc, Nat.reduceAdd, List.setIfInBounds_toArray, List.set_cons_zero, List.set_cons_succ, List.cons_append, List.nil_append] at hM)
                  refine AtT.startA hM hM 18 (by kernel_rfl) ?_
                  clear hM
                  intro wd hM
                  have hS := hM
                  refine AtT.taked (i := 1) (v := ?_) (some 99) rfl rfl (by kernel_rfl) (by kernel_rfl) (by kernel_rfl) (by kernel_rfl) (fun _ _ _ h => h) (Or.inl ⟨by kernel_rfl, ?_⟩) hS ?_
                  rotate_left
                  · (intro wS hSw; (try dsimp only at hSw); go_simp; (try rw [if_neg (by omega)]); try with_reducible rfl)
                  simp only [Act.put, List.setIfInBounds_toArray, List.set_cons_zero, List.set_cons_succ]
                  refine AtT.taked (i := 2) (v := ?_) (some 100) rfl rfl (by kernel_rfl) (by kernel_rfl) (by kernel_rfl) (by kernel_rfl) (fun _ _ _ h => h) (Or.inl ⟨by kernel_rfl, ?_⟩) hS ?_
                  rotate_left
                  · (intro wS hSw; (try dsimp only at hSw); go_simp; (try rw [if_neg (by omega)]); try with_reducible rfl)
                  simp only [Act.put, List.setIfInBounds_toArray, List.set_cons_zero, List.set_cons_succ]
                  refine AtT.taked (i := 3) (v := ?_) (some 101) rfl rfl (by kernel_rfl) (by kernel_rfl) (by kernel_rfl) (by kernel_rfl) (fun _ _ _ h => h) (Or.inl ⟨by kernel_rfl, ?_⟩) hS ?_
                  rotate_left
                  · (intro wS hSw; (try dsimp only at hSw); have r4 := ((h1.ext hSw.below).cellOrder hlt).2.2.1; rw [HV.out] at r4; dsimp only at r4; go_simp; (try rw [if_neg (by omega)]); try with_reducible rfl)
                  simp only [Act.put, List.setIfInBounds_toArray, List.set_cons_zero, List.set_cons_succ]
                  refine AtT.taked (i := 5) (v := ?_) (some 103) rfl rfl (by kernel_rfl) (by kernel_rfl) (by kernel_rfl) (by kernel_rfl) (fun _ _ _ h => h) (Or.inl ⟨by kernel_rfl, ?_⟩) hS ?_
                  rotate_left
                  · (intro wS hSw; (try dsimp only at hSw); go_simp; (try rw [if_neg (by omega)]); try with_reducible rfl)
                  simp only [Act.put, List.setIfInBounds_toArray, List.set_cons_zero, List.set_cons_succ]
                  refine AtT.taked (i := 6) (v := ?_) (some 104) rfl rfl (by kernel_rfl) (by kernel_rfl) (by kernel_rfl) (by kernel_rfl) (fun _ _ _ h => h) (Or.inl ⟨by kernel_rfl, ?_⟩) hS ?_
                  rotate_left
                  · (intro wS hSw; (try dsimp only at hSw); go_simp; (try rw [if_neg (by omega)]); try with_reducible rfl)
                  simp only [Act.put, List.setIfInBounds_toArray, List.set_cons_zero, List.set_cons_succ]
                  refine AtT.taked (i := 7) (v := ?_) (some 105) rfl rfl (by kernel_rfl) (by kernel_rfl) (by kernel_rfl) (by kernel_rfl) (fun _ _ _ h => h) (Or.inl ⟨by kernel_rfl, ?_⟩) hS ?_
                  rotate_left
                  · (intro wS hSw; (try dsimp only at hSw); have r4 := ((h1.ext hSw.below).cellOrder hlt).2.2.1; rw [HV.out] at r4; dsimp only at r4; go_simp; (try rw [if_neg (by omega)]); try with_reducible rfl)
                  simp only [Act.put, List.setIfInBounds_toArray, List.set_cons_zero, List.set_cons_succ]
                  refine AtT.taked (i := 8) (v := ?_) (some 106) rfl rfl (by kernel_rfl) (by kernel_rfl) (by kernel_rfl) (by kernel_rfl) (fun _ _ _ h => h) (Or.inl ⟨by kernel_rfl, ?_⟩) hS ?_
                  rotate_left
                  · (intro wS hSw; (try dsimp only at hSw); go_simp; (try rw [if_neg (by omega)]); try with_reducible rfl)
                  simp only [Act.put, List.setIfInBounds_toArray, List.set_cons_zero, List.set_cons_succ]
                  refine AtT.taked (i := 9) (v := ?_) (some 107) rfl rfl (by kernel_rfl) (by kernel_rfl) (by kernel_rfl) (by kernel_rfl) (fun _ _ _ h => h) (Or.inl ⟨by kernel_rfl, ?_⟩) hS ?_
                  rotate_left
                  · (intro wS hSw; (try dsimp only at hSw); have r4 := ((h1.ext hSw.below).cellOrder hlt).2.2.1; rw [HV.out] at r4; dsimp only at r4; go_simp; (try rw [if_neg (by omega)]); try with_reducible rfl)
                  simp only [Act.put, List.setIfInBounds_toArray, List.set_cons_zero, List.set_cons_succ]
                  refine AtT.taked (i := 10) (v := ?_) (some 108) rfl rfl (by kernel_rfl) (by kernel_rfl) (by kernel_rfl) (by kernel_rfl) (fun _ _ _ h => h) (Or.inl ⟨by kernel_rfl, ?_⟩) hS ?_
                  rotate_left
                  · (intro wS hSw; (try dsimp only at hSw); go_simp; (try rw [if_neg (by omega)]); try with_reducible rfl)
                  simp only [Act.put, List.setIfInBounds_toArray, List.set_cons_zero, List.set_cons_succ]
                  refine AtT.taked (i := 11) (v := ?_) (some 109) rfl rfl (by kernel_rfl) (by kernel_rfl) (by kernel_rfl) (by kernel_rfl) (fun _ _ _ h => h) (Or.inl ⟨by kernel_rfl, ?_⟩) hS ?_
                  rotate_left
                  · (intro wS hSw; (try dsimp only at hSw); go_simp; (try rw [if_neg (by omega)]); try with_reducible rfl)
                  simp only [Act.put, List.setIfInBounds_toArray, List.set_cons_zero, List.set_cons_succ]
                  refine AtT.taked (i := 14) (v := ?_) (some 112) rfl rfl (by kernel_rfl) (by kernel_rfl) (by kernel_rfl) (by kernel_rfl) (fun _ _ _ h => h) (Or.inl ⟨by kernel_rfl, ?_⟩) hS ?_
                  rotate_left
                  · (intro wS hSw; (try dsimp only at hSw); go_simp; (try rw [if_neg (by omega)]); try with_reducible rfl)
                  simp only [Act.put, List.setIfInBounds_toArray, List.set_cons_zero, List.set_cons_succ]
                  refine AtT.taked (i := 15) (v := ?_) (some 113) rfl rfl (by kernel_rfl) (by kernel_rfl) (by kernel_rfl) (by kernel_rfl) (fun _ _ _ h => h) (Or.inl ⟨by kernel_rfl, ?_⟩) hS ?_
                  rotate_left
                  · (intro wS hSw; (try dsimp only at hSw); go_simp; (try rw [if_neg (by omega)]); try with_reducible rfl)
                  simp only [Act.put, List.setIfInBounds_toArray, List.set_cons_zero, List.set_cons_succ]
                  refine AtT.taked (i := 16) (v := ?_) (some 114) rfl rfl (by kernel_rfl) (by kernel_rfl) (by kernel_rfl) (by kernel_rfl) (fun _ _ _ h => h) (Or.inl ⟨by kernel_rfl, ?_⟩) hS ?_
                  rotate_left
                  · (intro wS hSw; (try dsimp only at hSw); have r4 := ((h1.ext hSw.below).cellOrder hlt).2.2.1; rw [HV.out] at r4; dsimp only at r4; go_simp; (try rw [if_neg (by omega)]); try with_reducible rfl)
                  simp only [Act.put, List.setIfInBounds_toArray, List.set_cons_zero, List.set_cons_succ]
                  refine AtT.two (i := 0) (j := 12) (by kernel_rfl) rfl rfl rfl rfl ?_ ?_
                  · skip
                    intro K hK
                    go_simp
                    refine hK.out _ _ (by apply Mem.tail; (repeat' (first | with_reducible exact hM | with_reducible exact hMp | with_reducible apply Mem.drew | with_reducible apply Mem.drewN | with_reducible apply Mem.alloc | with_reducible apply Mem.set | with_reducible exact Sto.row | ((with_reducible refine Sto.rowEq2 ?_ ?_); omega; rfl) | ((with_reducible refine Sto.rowEq ?_); omega) | with_reducible apply Sto.int | with_reducible apply Sto.there | with_reducible assumption | (unfold I64; omega) | (with_reducible (have hMx := Mem.undrew hM; exact hMx)) | (with_reducible (have hMx := Mem.undrew hMp; exact hMx))))) ?_
                    clear hK K hS
                    have hMp := hM
                    apply Mem.atT
                    · (repeat' (first | with_reducible exact hM | with_reducible exact hMp | with_reducible apply Mem.drew | with_reducible apply Mem.drewN | with_reducible apply Mem.alloc | with_reducible apply Mem.set | with_reducible exact Sto.row | ((with_reducible refine Sto.rowEq2 ?_ ?_); omega; rfl) | ((with_reducible refine Sto.rowEq ?_); omega) | with_reducible apply Sto.int | with_reducible apply Sto.there | with_reducible assumption | (unfold I64; omega) | (with_reducible (have hMx := Mem.undrew hM; exact hMx)) | (with_reducible (have hMx := Mem.undrew hMp; exact hMx))))
                    clear hM
                    intro hM
                    (try simp only [World.size_alloc, World.size_setCell, World.heap_drewN, heapDrew, Nat.add_assoc, Nat.reduceAdd, List.setIfInBounds_toArray, List.set_cons_zero, List.set_cons_succ, List.cons_append, List.nil_append] at hM)
                    have hS := hM.tail
                    refine AtT.two (i := 4) (j := 12) (by kernel_rfl) rfl rfl rfl rfl ?_ ?_
                    · skip
                      intro K hK
                      refine step_appRM (F := FStock) (Mem.toOwAtS hM .here) (fun _ => .here) ((hM.ow (.there .here)).rd.takeO (k := j) (by omega)) (by show (0 + j) * 2 ≤ _; omega) i0 (.agg #[.string ⟨#[]⟩, .int .i64 0]) 24 hi hz0 hz1 hz2 rfl (by omega) rfl _ _ _ Try.underlying30 rfl rfl rfl ?_
                      clear hM
                      intro a3 c3 w3 hM
                      rw [Nat.zero_add, List.nil_append] at hM
                      rw [Nat.zero_add]
                      try dsimp only
                      refine hK.out _ _ (hM.tail) ?_
                      clear hK K hS
                      have hS := hM.tail
                      refine AtT.only (i := 12) (by kernel_rfl) rfl rfl ?_
                      intro K hK
                      go_simp
                      refine hK.out _ _ (by apply Mem.tail; apply Mem.tail; (repeat' (first | with_reducible exact hM | with_reducible exact hMp | with_reducible apply Mem.drew | with_reducible apply Mem.drewN | with_reducible apply Mem.alloc | with_reducible apply Mem.set | with_reducible exact Sto.row | ((with_reducible refine Sto.rowEq2 ?_ ?_); omega; rfl) | ((with_reducible refine Sto.rowEq ?_); omega) | with_reducible apply Sto.int | with_reducible apply Sto.there | with_reducible assumption | (unfold I64; omega) | (with_reducible (have hMx := Mem.undrew hM; exact hMx)) | (with_reducible (have hMx := Mem.undrew hMp; exact hMx))))) ?_
                      clear hK K hS
                      have hMp := hM
                      apply Mem.atT
                      · (repeat' (first | with_reducible exact hM | with_reducible exact hMp | with_reducible apply Mem.drew | with_reducible apply Mem.drewN | with_reducible apply Mem.alloc | with_reducible apply Mem.set | with_reducible exact Sto.row | ((with_reducible refine Sto.rowEq2 ?_ ?_); omega; rfl) | ((with_reducible refine Sto.rowEq ?_); omega) | with_reducible apply Sto.int | with_reducible apply Sto.there | with_reducible assumption | (unfold I64; omega) | (with_reducible (have hMx := Mem.undrew hM; exact hMx)) | (with_reducible (have hMx := Mem.undrew hMp; exact hMx))))
                      clear hM
                      intro hM
                      (try simp only [World.size_alloc, World.size_setCell, World.heap_drewN, heapDrew, Nat.add_assoc, Nat.reduceAdd, List.setIfInBounds_toArray, List.set_cons_zero, List.set_cons_succ, List.cons_append, List.nil_append] at hM)
                      have hS := hM.tail.tail
                      refine AtT.only (i := 13) (by kernel_rfl) rfl rfl ?_
                      intro K hK
                      refine step_appRM (F := FStock) hM (fun _ => (.there .here)) (hM.oneRec (⟨ok, d⟩ : StockI) .here rfl HYW.out (by decide)) (by show (j + 1) * 2 ≤ _; omega) i0 (.agg #[.string ⟨#[]⟩, .int .i64 0]) 24 hi hz0 hz1 hz2 rfl (by omega) rfl _ _ _ Try.underlying30 rfl rfl rfl ?_
                      clear hM
                      intro a4 c4 w4 hM
                      try dsimp only
                      refine hK.out _ _ (hM.tail.tail) ?_
                      clear hK K hS
                      have hS := hM.tail.tail
                      refine AtT.only (i := 17) (by kernel_rfl) rfl rfl ?_
                      intro K hK
                      refine step_appRM (F := FStock) hM (fun _ => (.there .here)) ((hM.ow (.there (.there .here))).rd.dropR (k := j) (by omega)) (by show (j + 1 + (us.length - j)) * 2 ≤ _; omega) i0 (.agg #[.string ⟨#[]⟩, .int .i64 0]) 24 hi hz0 hz1 hz2 rfl (by omega) rfl _ _ _ Try.underlying30 rfl rfl rfl ?_
                      clear hM
                      intro a7 c7 w7 hM
                      rw [show j + 1 + (us.length - j) = us.length + 1 by omega] at hM ⊢
                      obtain ⟨g7, rfl, -⟩ := (hM.ow (.there .here)).head (by omega)
                      try dsimp only
                      refine hK.out _ _ (hM.tail.tail) ?_
                      clear hK K hS
                      have hS := hM.tail.tail
                      refine AtT.last (by kernel_rfl) rfl (by kernel_rfl) ?_
                      intro K hK
                      clear hS
                      go_simp
                      refine hK.out _ _ ?_
                      clear hK K
                      have hl3 : (us.take j ++ [(⟨ok, d⟩ : StockI)] ++ us.drop j).length = us.length + 1 := by rw [List.length_append, List.length_append, List.length_singleton, List.length_take, List.length_drop]; omega
                      have hM9 := Lib.hid (Mem.pick (is := [1, 3]) hM (by decide) rfl)
                      clear hM
                      go_wp2
                      go_roundw
                      case rel => exact ⟨k + 1, g7, c7, by omega, by go_num, by rw [HS4.out, hl3], by rw [HS4.out, hl3]; exact hM9.out⟩
                      case measure => first | (simp [intOf]; done) | (simp [intOf]; omega)
                    · skip
                      intro K hK
                      go_simp
                      refine hK.out _ _ (by apply Mem.tail; apply Mem.tail; (repeat' (first | with_reducible exact hM | with_reducible exact hMp | with_reducible apply Mem.drew | with_reducible apply Mem.drewN | with_reducible apply Mem.alloc | with_reducible apply Mem.set | with_reducible exact Sto.row | ((with_reducible refine Sto.rowEq2 ?_ ?_); omega; rfl) | ((with_reducible refine Sto.rowEq ?_); omega) | with_reducible apply Sto.int | with_reducible apply Sto.there | with_reducible assumption | (unfold I64; omega) | (with_reducible (have hMx := Mem.undrew hM; exact hMx)) | (with_reducible (have hMx := Mem.undrew hMp; exact hMx))))) ?_
                      clear hK K hS
                      have hMp := hM
                      apply Mem.atT
                      · (repeat' (first | with_reducible exact hM | with_reducible exact hMp | with_reducible apply Mem.drew | with_reducible apply Mem.drewN | with_reducible apply Mem.alloc | with_reducible apply Mem.set | with_reducible exact Sto.row | ((with_reducible refine Sto.rowEq2 ?_ ?_); omega; rfl) | ((with_reducible refine Sto.rowEq ?_); omega) | with_reducible apply Sto.int | with_reducible apply Sto.there | with_reducible assumption | (unfold I64; omega) | (with_reducible (have hMx := Mem.undrew hM; exact hMx)) | (with_reducible (have hMx := Mem.undrew hMp; exact hMx))))
                      clear hM
                      intro hM
                      (try simp only [World.size_alloc, World.size_setCell, World.heap_drewN, heapDrew, Nat.add_assoc, Nat.reduceAdd, List.setIfInBounds_toArray, List.set_cons_zero, List.set_cons_succ, List.cons_append, List.nil_append] at hM)
                      have hS := hM.tail.tail
                      refine AtT.only (i := 4) (by kernel_rfl) rfl rfl ?_
                      intro K hK
                      refine step_appRM (F := FStock) (Mem.toOwAtS hM (.there .here)) (fun _ => (.there .here)) ((hM.ow (.there (.there .here))).rd.takeO (k := j) (by omega)) (by show (0 + j) * 2 ≤ _; omega) i0 (.agg #[.string ⟨#[]⟩, .int .i64 0]) 24 hi hz0 hz1 hz2 rfl (by omega) rfl _ _ _ Try.underlying30 rfl rfl rfl ?_
                      clear hM
                      intro a3 c3 w3 hM
                      rw [Nat.zero_add, List.nil_append] at hM
                      rw [Nat.zero_add]
                      try dsimp only
                      refine hK.out _ _ (hM.tail.tail) ?_
                      clear hK K hS
                      have hS := hM.tail.tail
                      refine AtT.only (i := 13) (by kernel_rfl) rfl rfl ?_
                      intro K hK
                      refine step_appRM (F := FStock) hM (fun _ => (.there .here)) (hM.oneRec (⟨ok, d⟩ : StockI) .here rfl HYW.out (by decide)) (by show (j + 1) * 2 ≤ _; omega) i0 (.agg #[.string ⟨#[]⟩, .int .i64 0]) 24 hi hz0 hz1 hz2 rfl (by omega) rfl _ _ _ Try.underlying30 rfl rfl rfl ?_
                      clear hM
                      intro a4 c4 w4 hM
                      try dsimp only
                      refine hK.out _ _ (hM.tail.tail) ?_
                      clear hK K hS
                      have hS := hM.tail.tail
                      refine AtT.only (i := 17) (by kernel_rfl) rfl rfl ?_
                      intro K hK
                      refine step_appRM (F := FStock) hM (fun _ => (.there .here)) ((hM.ow (.there (.there .here))).rd.dropR (k := j) (by omega)) (by show (j + 1 + (us.length - j)) * 2 ≤ _; omega) i0 (.agg #[.string ⟨#[]⟩, .int .i64 0]) 24 hi hz0 hz1 hz2 rfl (by omega) rfl _ _ _ Try.underlying30 rfl rfl rfl ?_
                      clear hM
                      intro a7 c7 w7 hM
                      rw [show j + 1 + (us.length - j) = us.length + 1 by omega] at hM ⊢
                      obtain ⟨g7, rfl, -⟩ := (hM.ow (.there .here)).head (by omega)
                      try dsimp only
                      refine hK.out _ _ (hM.tail.tail) ?_
                      clear hK K hS
                      have hS := hM.tail.tail
                      refine AtT.last (by kernel_rfl) rfl (by kernel_rfl) ?_
                      intro K hK
                      clear hS
                      go_simp
                      refine hK.out _ _ ?_
                      clear hK K
                      have hl3 : (us.take j ++ [(⟨ok, d⟩ : StockI)] ++ us.drop j).length = us.length + 1 := by rw [List.length_append, List.length_append, List.length_singleton, List.length_take, List.length_drop]; omega
                      have hM9 := Lib.hid (Mem.pick (is := [1, 3]) hM (by decide) rfl)
                      clear hM
                      go_wp2
                      go_roundw
                      case rel => exact ⟨k + 1, g7, c7, by omega, by go_num, by rw [HS4.out, hl3], by rw [HS4.out, hl3]; exact hM9.out⟩
                      case measure => first | (simp [intOf]; done) | (simp [intOf]; omega)
                  · skip
                    intro K hK
                    go_simp
                    refine hK.out _ _ (by apply Mem.tail; (repeat' (first | with_reducible exact hM | with_reducible exact hMp | with_reducible apply Mem.drew | with_reducible apply Mem.drewN | with_reducible apply Mem.alloc | with_reducible apply Mem.set | with_reducible exact Sto.row | ((with_reducible refine Sto.rowEq2 ?_ ?_); omega; rfl) | ((with_reducible refine Sto.rowEq ?_); omega) | with_reducible apply Sto.int | with_reducible apply Sto.there | with_reducible assumption | (unfold I64; omega) | (with_reducible (have hMx := Mem.undrew hM; exact hMx)) | (with_reducible (have hMx := Mem.undrew hMp; exact hMx))))) ?_
                    clear hK K hS
                    have hMp := hM
                    apply Mem.atT
                    · (repeat' (first | with_reducible exact hM | with_reducible exact hMp | with_reducible apply Mem.drew | with_reducible apply Mem.drewN | with_reducible apply Mem.alloc | with_reducible apply Mem.set | with_reducible exact Sto.row | ((with_reducible refine Sto.rowEq2 ?_ ?_); omega; rfl) | ((with_reducible refine Sto.rowEq ?_); omega) | with_reducible apply Sto.int | with_reducible apply Sto.there | with_reducible assumption | (unfold I64; omega) | (with_reducible (have hMx := Mem.undrew hM; exact hMx)) | (with_reducible (have hMx := Mem.undrew hMp; exact hMx))))
                    clear hM
                    intro hM
                    (try simp only [World.size_alloc, World.size_setCell, World.heap_drewN, heapDrew, Nat.add_assoc, Nat.reduceAdd, List.setIfInBounds_toArray, List.set_cons_zero, List.set_cons_succ, List.cons_append, List.nil_append] at hM)
                    have hS := hM.tail
                    refine AtT.only (i := 0) (by kernel_rfl) rfl rfl ?_
                    intro K hK
                    go_simp
                    refine hK.out _ _ (by apply Mem.tail; apply Mem.tail; (repeat' (first | with_reducible exact hM | with_reducible exact hMp | with_reducible apply Mem.drew | with_reducible apply Mem.drewN | with_reducible apply Mem.alloc | with_reducible apply Mem.set | with_reducible exact Sto.row | ((with_reducible refine Sto.rowEq2 ?_ ?_); omega; rfl) | ((with_reducible refine Sto.rowEq ?_); omega) | with_reducible apply Sto.int | with_reducible apply Sto.there | with_reducible assumption | (unfold I64; omega) | (with_reducible (have hMx := Mem.undrew hM; exact hMx)) | (with_reducible (have hMx := Mem.undrew hMp; exact hMx))))) ?_
                    clear hK K hS
                    have hMp := hM
                    apply Mem.atT
                    · (repeat' (first | with_reducible exact hM | with_reducible exact hMp | with_reducible apply Mem.drew | with_reducible apply Mem.drewN | with_reducible apply Mem.alloc | with_reducible apply Mem.set | with_reducible exact Sto.row | ((with_reducible refine Sto.rowEq2 ?_ ?_); omega; rfl) | ((with_reducible refine Sto.rowEq ?_); omega) | with_reducible apply Sto.int | with_reducible apply Sto.there | with_reducible assumption | (unfold I64; omega) | (with_reducible (have hMx := Mem.undrew hM; exact hMx)) | (with_reducible (have hMx := Mem.undrew hMp; exact hMx))))
                    clear hM
                    intro hM
                    (try simp only [World.size_alloc, World.size_setCell, World.heap_drewN, heapDrew, Nat.add_assoc, Nat.reduceAdd, List.setIfInBounds_toArray, List.set_cons_zero, List.set_cons_succ, List.cons_append, List.nil_append] at hM)
                    have hS := hM.tail.tail
                    refine AtT.only (i := 4) (by kernel_rfl) rfl rfl ?_
                    intro K hK
                    refine step_appRM (F := FStock) (Mem.toOwAtS hM .here) (fun _ => .here) ((hM.ow (.there (.there .here))).rd.takeO (k := j) (by omega)) (by show (0 + j) * 2 ≤ _; omega) i0 (.agg #[.string ⟨#[]⟩, .int .i64 0]) 24 hi hz0 hz1 hz2 rfl (by omega) rfl _ _ _ Try.underlying30 rfl rfl rfl ?_
                    clear hM
                    intro a3 c3 w3 hM
                    rw [Nat.zero_add, List.nil_append] at hM
                    rw [Nat.zero_add]
                    try dsimp only
                    refine hK.out _ _ (hM.tail.tail) ?_
                    clear hK K hS
                    have hS := hM.tail.tail
                    refine AtT.only (i := 13) (by kernel_rfl) rfl rfl ?_
                    intro K hK
                    refine step_appRM (F := FStock) hM (fun _ => .here) (hM.oneRec (⟨ok, d⟩ : StockI) (.there .here) rfl HYW.out (by decide)) (by show (j + 1) * 2 ≤ _; omega) i0 (.agg #[.string ⟨#[]⟩, .int .i64 0]) 24 hi hz0 hz1 hz2 rfl (by omega) rfl _ _ _ Try.underlying30 rfl rfl rfl ?_
                    clear hM
                    intro a4 c4 w4 hM
                    try dsimp only
                    refine hK.out _ _ (hM.tail.tail) ?_
                    clear hK K hS
                    have hS := hM.tail.tail
                    refine AtT.only (i := 17) (by kernel_rfl) rfl rfl ?_
                    intro K hK
                    refine step_appRM (F := FStock) hM (fun _ => .here) ((hM.ow (.there (.there .here))).rd.dropR (k := j) (by omega)) (by show (j + 1 + (us.length - j)) * 2 ≤ _; omega) i0 (.agg #[.string ⟨#[]⟩, .int .i64 0]) 24 hi hz0 hz1 hz2 rfl (by omega) rfl _ _ _ Try.underlying30 rfl rfl rfl ?_
                    clear hM
                    intro a7 c7 w7 hM
                    rw [show j + 1 + (us.length - j) = us.length + 1 by omega] at hM ⊢
                    obtain ⟨g7, rfl, -⟩ := (hM.ow .here).head (by omega)
                    try dsimp only
                    refine hK.out _ _ (hM.tail.tail) ?_
                    clear hK K hS
                    have hS := hM.tail.tail
                    refine AtT.last (by kernel_rfl) rfl (by kernel_rfl) ?_
                    intro K hK
                    clear hS
                    go_simp
                    refine hK.out _ _ ?_
                    clear hK K
                    have hl3 : (us.take j ++ [(⟨ok, d⟩ : StockI)] ++ us.drop j).length = us.length + 1 := by rw [List.length_append, List.length_append, List.length_singleton, List.length_take, List.length_drop]; omega
                    have hM9 := Lib.hid (Mem.pick (is := [0, 3]) hM (by decide) rfl)
                    clear hM
                    go_wp2
                    go_roundw
                    case rel => exact ⟨k + 1, g7, c7, by omega, by go_num, by rw [HS4.out, hl3], by rw [HS4.out, hl3]; exact hM9.out⟩
                    case measure => first | (simp [intOf]; done) | (simp [intOf]; omega)
            · obtain rfl : j = us.length := by omega
              have hs3 := HS3.out
              rw [if_neg (by rintro ⟨h, -⟩; omega)] at hs3
              have HS4 := Lib.hid hs3
              clear hs3
              have kz : decide (us.length < us.length) = false := by simp
              have j0 : (0 : Int) ≤ (us.length : Int) := by omega
              go_upto_region 11 with fail
              apply Mem.atWpA
              · (repeat' (first | with_reducible exact hM | with_reducible exact hMp | with_reducible apply Mem.drew | with_reducible apply Mem.drewN | with_reducible apply Mem.alloc | with_reducible apply Mem.set | with_reducible exact Sto.row | ((with_reducible refine Sto.rowEq2 ?_ ?_); omega; rfl) | ((with_reducible refine Sto.rowEq ?_); omega) | with_reducible apply Sto.int | with_reducible apply Sto.there | with_reducible assumption | (unfold I64; omega) | (with_reducible (have hMx := Mem.undrew hM; exact hMx)) | (with_reducible (have hMx := Mem.undrew hMp; exact hMx))))
              clear hM
              intro wst hM
              (try simp only [World.size_alloc, World.size_setCell, World.heap_drewN, heapDrew, Nat.add_assoc, Nat.reduceAdd, List.setIfInBounds_toArray, List.set_cons_zero, List.set_cons_succ, List.cons_append, List.nil_append] at hM)
              refine AtT.startA hM hM 16 (by kernel_rfl) ?_
              clear hM
              intro wd hM
              have hS := hM
              refine AtT.taked (i := 0) (v := ?_) (some 46) rfl rfl (by kernel_rfl) (by kernel_rfl) (by kernel_rfl) (by kernel_rfl) (fun _ _ _ h => h) (Or.inl ⟨by kernel_rfl, ?_⟩) hS ?_
              rotate_left
              · (intro wS hSw; (try dsimp only at hSw); go_simp; (try rw [if_neg (by omega)]); try with_reducible rfl)
              simp only [Act.put, List.setIfInBounds_toArray, List.set_cons_zero, List.set_cons_succ]
              refine AtT.taked (i := 1) (v := ?_) (some 47) rfl rfl (by kernel_rfl) (by kernel_rfl) (by kernel_rfl) (by kernel_rfl) (fun _ _ _ h => h) (Or.inl ⟨by kernel_rfl, ?_⟩) hS ?_
              rotate_left
              · (intro wS hSw; (try dsimp only at hSw); go_simp; (try rw [if_neg (by omega)]); try with_reducible rfl)
              simp only [Act.put, List.setIfInBounds_toArray, List.set_cons_zero, List.set_cons_succ]
              refine AtT.taked (i := 2) (v := ?_) (some 48) rfl rfl (by kernel_rfl) (by kernel_rfl) (by kernel_rfl) (by kernel_rfl) (fun _ _ _ h => h) (Or.inl ⟨by kernel_rfl, ?_⟩) hS ?_
              rotate_left
              · (intro wS hSw; (try dsimp only at hSw); go_simp; (try rw [if_neg (by omega)]); try with_reducible rfl)
              simp only [Act.put, List.setIfInBounds_toArray, List.set_cons_zero, List.set_cons_succ]
              refine AtT.taked (i := 3) (v := ?_) (some 49) rfl rfl (by kernel_rfl) (by kernel_rfl) (by kernel_rfl) (by kernel_rfl) (fun _ _ _ h => h) (Or.inl ⟨by kernel_rfl, ?_⟩) hS ?_
              rotate_left
              · (intro wS hSw; (try dsimp only at hSw); go_simp; (try rw [if_neg (by omega)]); try with_reducible rfl)
              simp only [Act.put, List.setIfInBounds_toArray, List.set_cons_zero, List.set_cons_succ]
              refine AtT.taked (i := 4) (v := ?_) (some 50) rfl rfl (by kernel_rfl) (by kernel_rfl) (by kernel_rfl) (by kernel_rfl) (fun _ _ _ h => h) (Or.inl ⟨by kernel_rfl, ?_⟩) hS ?_
              rotate_left
              · (intro wS hSw; (try dsimp only at hSw); go_simp; (try rw [if_neg (by omega)]); try with_reducible rfl)
              simp only [Act.put, List.setIfInBounds_toArray, List.set_cons_zero, List.set_cons_succ]
              refine AtT.taked (i := 5) (v := undef) (some 51) rfl rfl (by kernel_rfl) (by kernel_rfl) (by kernel_rfl) (by kernel_rfl) (fun _ _ _ h => h) (Or.inr ⟨by kernel_rfl, rfl⟩) hS ?_
              simp only [Act.put, List.setIfInBounds_toArray, List.set_cons_zero, List.set_cons_succ]
              refine AtT.taked (i := 6) (v := undef) (some 52) rfl rfl (by kernel_rfl) (by kernel_rfl) (by kernel_rfl) (by kernel_rfl) (fun _ _ _ h => h) (Or.inr ⟨by kernel_rfl, rfl⟩) hS ?_
              simp only [Act.put, List.setIfInBounds_toArray, List.set_cons_zero, List.set_cons_succ]
              refine AtT.taked (i := 7) (v := undef) (some 53) rfl rfl (by kernel_rfl) (by kernel_rfl) (by kernel_rfl) (by kernel_rfl) (fun _ _ _ h => h) (Or.inr ⟨by kernel_rfl, rfl⟩) hS ?_
              simp only [Act.put, List.setIfInBounds_toArray, List.set_cons_zero, List.set_cons_succ]
              refine AtT.taked (i := 8) (v := undef) (some 54) rfl rfl (by kernel_rfl) (by kernel_rfl) (by kernel_rfl) (by kernel_rfl) (fun _ _ _ h => h) (Or.inr ⟨by kernel_rfl, rfl⟩) hS ?_
              simp only [Act.put, List.setIfInBounds_toArray, List.set_cons_zero, List.set_cons_succ]
              refine AtT.taked (i := 9) (v := undef) (some 55) rfl rfl (by kernel_rfl) (by kernel_rfl) (by kernel_rfl) (by kernel_rfl) (fun _ _ _ h => h) (Or.inr ⟨by kernel_rfl, rfl⟩) hS ?_
              simp only [Act.put, List.setIfInBounds_toArray, List.set_cons_zero, List.set_cons_succ]
              refine AtT.taked (i := 10) (v := undef) (some 56) rfl rfl (by kernel_rfl) (by kernel_rfl) (by kernel_rfl) (by kernel_rfl) (fun _ _ _ h => h) (Or.inr ⟨by kernel_rfl, rfl⟩) hS ?_
              simp only [Act.put, List.setIfInBounds_toArray, List.set_cons_zero, List.set_cons_succ]
              refine AtT.taked (i := 11) (v := undef) (some 57) rfl rfl (by kernel_rfl) (by kernel_rfl) (by kernel_rfl) (by kernel_rfl) (fun _ _ _ h => h) (Or.inr ⟨by kernel_rfl, rfl⟩) hS ?_
              simp only [Act.put, List.setIfInBounds_toArray, List.set_cons_zero, List.set_cons_succ]
              refine AtT.taked (i := 12) (v := undef) (some 58) rfl rfl (by kernel_rfl) (by kernel_rfl) (by kernel_rfl) (by kernel_rfl) (fun _ _ _ h => h) (Or.inr ⟨by kernel_rfl, rfl⟩) hS ?_
              simp only [Act.put, List.setIfInBounds_toArray, List.set_cons_zero, List.set_cons_succ]
              refine AtT.taked (i := 13) (v := undef) (some 59) rfl rfl (by kernel_rfl) (by kernel_rfl) (by kernel_rfl) (by kernel_rfl) (fun _ _ _ h => h) (Or.inr ⟨by kernel_rfl, rfl⟩) hS ?_
              simp only [Act.put, List.setIfInBounds_toArray, List.set_cons_zero, List.set_cons_succ]
              refine AtT.taked (i := 14) (v := undef) (some 60) rfl rfl (by kernel_rfl) (by kernel_rfl) (by kernel_rfl) (by kernel_rfl) (fun _ _ _ h => h) (Or.inr ⟨by kernel_rfl, rfl⟩) hS ?_
              simp only [Act.put, List.setIfInBounds_toArray, List.set_cons_zero, List.set_cons_succ]
              refine AtT.taked (i := 15) (v := undef) (some 61) rfl rfl (by kernel_rfl) (by kernel_rfl) (by kernel_rfl) (by kernel_rfl) (fun _ _ _ h => h) (Or.inr ⟨by kernel_rfl, rfl⟩) hS ?_
              simp only [Act.put, List.setIfInBounds_toArray, List.set_cons_zero, List.set_cons_succ]
              refine AtT.last (by kernel_rfl) rfl (by kernel_rfl) ?_
              intro K hK
              clear hS
              go_simp
              refine hK.out _ _ ?_
              clear hK K
              go_upto_region 13 with fail
              apply Mem.atWpA
              · (repeat' (first | with_reducible exact hM | with_reducible exact hMp | with_reducible apply Mem.drew | with_reducible apply Mem.drewN | with_reducible apply Mem.alloc | with_reducible apply Mem.set | with_reducible exact Sto.row | ((with_reducible refine Sto.rowEq2 ?_ ?_); omega; rfl) | ((with_reducible refine Sto.rowEq ?_); omega) | with_reducible apply Sto.int | with_reducible apply Sto.there | with_reducible assumption | (unfold I64; omega) | (with_reducible (have hMx := Mem.undrew hM; exact hMx)) | (with_reducible (have hMx := Mem.undrew hMp; exact hMx))))
              clear hM
              intro wst hM
              (try simp only [World.size_alloc, World.size_setCell, World.heap_drewN, heapDrew, Nat.add_assoc, Nat.reduceAdd, List.setIfInBounds_toArray, List.set_cons_zero, List.set_cons_succ, List.cons_append, List.nil_append] at hM)
              refine AtT.startA hM hM 16 (by kernel_rfl) ?_
              clear hM
              intro wd hM
              have hS := hM
              refine AtT.taked (i := 0) (v := ?_) (some 65) rfl rfl (by kernel_rfl) (by kernel_rfl) (by kernel_rfl) (by kernel_rfl) (fun _ _ _ h => h) (Or.inl ⟨by kernel_rfl, ?_⟩) hS ?_
              rotate_left
              · (intro wS hSw; (try dsimp only at hSw); go_simp; (try rw [if_neg (by omega)]); try with_reducible rfl)
              simp only [Act.put, List.setIfInBounds_toArray, List.set_cons_zero, List.set_cons_succ]
              refine AtT.taked (i := 1) (v := ?_) (some 66) rfl rfl (by kernel_rfl) (by kernel_rfl) (by kernel_rfl) (by kernel_rfl) (fun _ _ _ h => h) (Or.inl ⟨by kernel_rfl, ?_⟩) hS ?_
              rotate_left
              · (intro wS hSw; (try dsimp only at hSw); go_simp; (try rw [if_neg (by omega)]); try with_reducible rfl)
              simp only [Act.put, List.setIfInBounds_toArray, List.set_cons_zero, List.set_cons_succ]
              refine AtT.taked (i := 2) (v := ?_) (some 67) rfl rfl (by kernel_rfl) (by kernel_rfl) (by kernel_rfl) (by kernel_rfl) (fun _ _ _ h => h) (Or.inl ⟨by kernel_rfl, ?_⟩) hS ?_
              rotate_left
              · (intro wS hSw; (try dsimp only at hSw); go_simp; (try rw [if_neg (by omega)]); try with_reducible rfl)
              simp only [Act.put, List.setIfInBounds_toArray, List.set_cons_zero, List.set_cons_succ]
              refine AtT.taked (i := 3) (v := ?_) (some 68) rfl rfl (by kernel_rfl) (by kernel_rfl) (by kernel_rfl) (by kernel_rfl) (fun _ _ _ h => h) (Or.inl ⟨by kernel_rfl, ?_⟩) hS ?_
              rotate_left
              · (intro wS hSw; (try dsimp only at hSw); go_simp; (try rw [if_neg (by omega)]); try with_reducible rfl)
              simp only [Act.put, List.setIfInBounds_toArray, List.set_cons_zero, List.set_cons_succ]
              refine AtT.taked (i := 4) (v := ?_) (some 69) rfl rfl (by kernel_rfl) (by kernel_rfl) (by kernel_rfl) (by kernel_rfl) (fun _ _ _ h => h) (Or.inl ⟨by kernel_rfl, ?_⟩) hS ?_
              rotate_left
              · (intro wS hSw; (try dsimp only at hSw); go_simp; (try rw [if_neg (by omega)]); try with_reducible rfl)
              simp only [Act.put, List.setIfInBounds_toArray, List.set_cons_zero, List.set_cons_succ]
              refine AtT.taked (i := 5) (v := undef) (some 70) rfl rfl (by kernel_rfl) (by kernel_rfl) (by kernel_rfl) (by kernel_rfl) (fun _ _ _ h => h) (Or.inr ⟨by kernel_rfl, rfl⟩) hS ?_
              simp only [Act.put, List.setIfInBounds_toArray, List.set_cons_zero, List.set_cons_succ]
              refine AtT.taked (i := 6) (v := undef) (some 71) rfl rfl (by kernel_rfl) (by kernel_rfl) (by kernel_rfl) (by kernel_rfl) (fun _ _ _ h => h) (Or.inr ⟨by kernel_rfl, rfl⟩) hS ?_
              simp only [Act.put, List.setIfInBounds_toArray, List.set_cons_zero, List.set_cons_succ]
              refine AtT.taked (i := 7) (v := undef) (some 72) rfl rfl (by kernel_rfl) (by kernel_rfl) (by kernel_rfl) (by kernel_rfl) (fun _ _ _ h => h) (Or.inr ⟨by kernel_rfl, rfl⟩) hS ?_
              simp only [Act.put, List.setIfInBounds_toArray, List.set_cons_zero, List.set_cons_succ]
              refine AtT.taked (i := 8) (v := undef) (some 73) rfl rfl (by kernel_rfl) (by kernel_rfl) (by kernel_rfl) (by kernel_rfl) (fun _ _ _ h => h) (Or.inr ⟨by kernel_rfl, rfl⟩) hS ?_
              simp only [Act.put, List.setIfInBounds_toArray, List.set_cons_zero, List.set_cons_succ]
              refine AtT.taked (i := 9) (v := undef) (some 74) rfl rfl (by kernel_rfl) (by kernel_rfl) (by kernel_rfl) (by kernel_rfl) (fun _ _ _ h => h) (Or.inr ⟨by kernel_rfl, rfl⟩) hS ?_
              simp only [Act.put, List.setIfInBounds_toArray, List.set_cons_zero, List.set_cons_succ]
              refine AtT.taked (i := 10) (v := undef) (some 75) rfl rfl (by kernel_rfl) (by kernel_rfl) (by kernel_rfl) (by kernel_rfl) (fun _ _ _ h => h) (Or.inr ⟨by kernel_rfl, rfl⟩) hS ?_
              simp only [Act.put, List.setIfInBounds_toArray, List.set_cons_zero, List.set_cons_succ]
              refine AtT.taked (i := 11) (v := undef) (some 76) rfl rfl (by kernel_rfl) (by kernel_rfl) (by kernel_rfl) (by kernel_rfl) (fun _ _ _ h => h) (Or.inr ⟨by kernel_rfl, rfl⟩) hS ?_
              simp only [Act.put, List.setIfInBounds_toArray, List.set_cons_zero, List.set_cons_succ]
              refine AtT.taked (i := 12) (v := undef) (some 77) rfl rfl (by kernel_rfl) (by kernel_rfl) (by kernel_rfl) (by kernel_rfl) (fun _ _ _ h => h) (Or.inr ⟨by kernel_rfl, rfl⟩) hS ?_
              simp only [Act.put, List.setIfInBounds_toArray, List.set_cons_zero, List.set_cons_succ]
              refine AtT.taked (i := 13) (v := undef) (some 78) rfl rfl (by kernel_rfl) (by kernel_rfl) (by kernel_rfl) (by kernel_rfl) (fun _ _ _ h => h) (Or.inr ⟨by kernel_rfl, rfl⟩) hS ?_
              simp only [Act.put, List.setIfInBounds_toArray, List.set_cons_zero, List.set_cons_succ]
              refine AtT.taked (i := 14) (v := undef) (some 79) rfl rfl (by kernel_rfl) (by kernel_rfl) (by kernel_rfl) (by kernel_rfl) (fun _ _ _ h => h) (Or.inr ⟨by kernel_rfl, rfl⟩) hS ?_
              simp only [Act.put, List.setIfInBounds_toArray, List.set_cons_zero, List.set_cons_succ]
              refine AtT.taked (i := 15) (v := undef) (some 80) rfl rfl (by kernel_rfl) (by kernel_rfl) (by kernel_rfl) (by kernel_rfl) (fun _ _ _ h => h) (Or.inr ⟨by kernel_rfl, rfl⟩) hS ?_
              simp only [Act.put, List.setIfInBounds_toArray, List.set_cons_zero, List.set_cons_succ]
              refine AtT.last (by kernel_rfl) rfl (by kernel_rfl) ?_
              intro K hK
              clear hS
              go_simp
              refine hK.out _ _ ?_
              clear hK K
              by_cases hcap : us.length = c6
              · skip
                as_aux_lemma =>
                  have hcp := (hM.ow .here).rd.cap
                  have hcm := (hM.ow .here).rd.capm
                  unfold maxLen at hcm
                  obtain rfl : c6 = us.length := hcap.symm
                  have HYW := Lib.hid (show FStock.wf (⟨ok, d⟩ : StockI) from ⟨hwk, by show I64 d; unfold I64; omega⟩)
                  go_upto_region 15 with fail
                  apply Mem.atWpA
                  · (repeat' (first | with_reducible exact hM | with_reducible exact hMp | with_reducible apply Mem.drew | with_reducible apply Mem.drewN | with_reducible apply Mem.alloc | with_reducible apply Mem.set | with_reducible exact Sto.row | ((with_reducible refine Sto.rowEq2 ?_ ?_); omega; rfl) | ((with_reducible refine Sto.rowEq ?_); omega) | with_reducible apply Sto.int | with_reducible apply Sto.there | with_reducible assumption | (unfold I64; omega) | (with_reducible (have hMx := Mem.undrew hM; exact hMx)) | (with_reducible (have hMx := Mem.undrew hMp; exact hMx))))
                  clear hM
                  intro wst hM
                  (try simp only [World.size_alloc, World.size_setCell, World.heap_drewN, heapDrew, Nat.add_assoc, Nat.reduceAdd, List.setIfInBounds_toArray, List.set_cons_zero, List.set_cons_succ, List.cons_append, List.nil_append] at hM)
                  refine AtT.startA hM hM 18 (by kernel_rfl) ?_
                  clear hM
                  intro wd hM
                  have hS := hM
                  refine AtT.taked (i := 1) (v := ?_) (some 99) rfl rfl (by kernel_rfl) (by kernel_rfl) (by kernel_rfl) (by kernel_rfl) (fun _ _ _ h => h) (Or.inl ⟨by kernel_rfl, ?_⟩) hS ?_
                  rotate_left
                  · (intro wS hSw; (try dsimp only at hSw); go_simp; (try rw [if_neg (by omega)]); try with_reducible rfl)
                  simp only [Act.put, List.setIfInBounds_toArray, List.set_cons_zero, List.set_cons_succ]
                  refine AtT.taked (i := 2) (v := ?_) (some 100) rfl rfl (by kernel_rfl) (by kernel_rfl) (by kernel_rfl) (by kernel_rfl) (fun _ _ _ h => h) (Or.inl ⟨by kernel_rfl, ?_⟩) hS ?_
                  rotate_left
                  · (intro wS hSw; (try dsimp only at hSw); go_simp; (try rw [if_neg (by omega)]); try with_reducible rfl)
                  simp only [Act.put, List.setIfInBounds_toArray, List.set_cons_zero, List.set_cons_succ]
                  refine AtT.taked (i := 3) (v := ?_) (some 101) rfl rfl (by kernel_rfl) (by kernel_rfl) (by kernel_rfl) (by kernel_rfl) (fun _ _ _ h => h) (Or.inl ⟨by kernel_rfl, ?_⟩) hS ?_
                  rotate_left
                  · (intro wS hSw; (try dsimp only at hSw); have r4 := ((h1.ext hSw.below).cellOrder hlt).2.2.1; rw [HV.out] at r4; dsimp only at r4; go_simp; (try rw [if_neg (by omega)]); try with_reducible rfl)
                  simp only [Act.put, List.setIfInBounds_toArray, List.set_cons_zero, List.set_cons_succ]
                  refine AtT.taked (i := 5) (v := ?_) (some 103) rfl rfl (by kernel_rfl) (by kernel_rfl) (by kernel_rfl) (by kernel_rfl) (fun _ _ _ h => h) (Or.inl ⟨by kernel_rfl, ?_⟩) hS ?_
                  rotate_left
                  · (intro wS hSw; (try dsimp only at hSw); go_simp; (try rw [if_neg (by omega)]); try with_reducible rfl)
                  simp only [Act.put, List.setIfInBounds_toArray, List.set_cons_zero, List.set_cons_succ]
                  refine AtT.taked (i := 6) (v := ?_) (some 104) rfl rfl (by kernel_rfl) (by kernel_rfl) (by kernel_rfl) (by kernel_rfl) (fun _ _ _ h => h) (Or.inl ⟨by kernel_rfl, ?_⟩) hS ?_
                  rotate_left
                  · (intro wS hSw; (try dsimp only at hSw); go_simp; (try rw [if_neg (by omega)]); try with_reducible rfl)
                  simp only [Act.put, List.setIfInBounds_toArray, List.set_cons_zero, List.set_cons_succ]
                  refine AtT.taked (i := 7) (v := ?_) (some 105) rfl rfl (by kernel_rfl) (by kernel_rfl) (by kernel_rfl) (by kernel_rfl) (fun _ _ _ h => h) (Or.inl ⟨by kernel_rfl, ?_⟩) hS ?_
                  rotate_left
                  · (intro wS hSw; (try dsimp only at hSw); have r4 := ((h1.ext hSw.below).cellOrder hlt).2.2.1; rw [HV.out] at r4; dsimp only at r4; go_simp; (try rw [if_neg (by omega)]); try with_reducible rfl)
                  simp only [Act.put, List.setIfInBounds_toArray, List.set_cons_zero, List.set_cons_succ]
                  refine AtT.taked (i := 8) (v := ?_) (some 106) rfl rfl (by kernel_rfl) (by kernel_rfl) (by kernel_rfl) (by kernel_rfl) (fun _ _ _ h => h) (Or.inl ⟨by kernel_rfl, ?_⟩) hS ?_
                  rotate_left
                  · (intro wS hSw; (try dsimp only at hSw); go_simp; (try rw [if_neg (by omega)]); try with_reducible rfl)
                  simp only [Act.put, List.setIfInBounds_toArray, List.set_cons_zero, List.set_cons_succ]
                  refine AtT.taked (i := 9) (v := ?_) (some 107) rfl rfl (by kernel_rfl) (by kernel_rfl) (by kernel_rfl) (by kernel_rfl) (fun _ _ _ h => h) (Or.inl ⟨by kernel_rfl, ?_⟩) hS ?_
                  rotate_left
                  · (intro wS hSw; (try dsimp only at hSw); have r4 := ((h1.ext hSw.below).cellOrder hlt).2.2.1; rw [HV.out] at r4; dsimp only at r4; go_simp; (try rw [if_neg (by omega)]); try with_reducible rfl)
                  simp only [Act.put, List.setIfInBounds_toArray, List.set_cons_zero, List.set_cons_succ]
                  refine AtT.taked (i := 10) (v := ?_) (some 108) rfl rfl (by kernel_rfl) (by kernel_rfl) (by kernel_rfl) (by kernel_rfl) (fun _ _ _ h => h) (Or.inl ⟨by kernel_rfl, ?_⟩) hS ?_
                  rotate_left
                  · (intro wS hSw; (try dsimp only at hSw); go_simp; (try rw [if_neg (by omega)]); try with_reducible rfl)
                  simp only [Act.put, List.setIfInBounds_toArray, List.set_cons_zero, List.set_cons_succ]
                  refine AtT.taked (i := 11) (v := ?_) (some 109) rfl rfl (by kernel_rfl) (by kernel_rfl) (by kernel_rfl) (by kernel_rfl) (fun _ _ _ h => h) (Or.inl ⟨by kernel_rfl, ?_⟩) hS ?_
                  rotate_left
                  · (intro wS hSw; (try dsimp only at hSw); go_simp; (try rw [if_neg (by omega)]); try with_reducible rfl)
                  simp only [Act.put, List.setIfInBounds_toArray, List.set_cons_zero, List.set_cons_succ]
                  refine AtT.taked (i := 14) (v := ?_) (some 112) rfl rfl (by kernel_rfl) (by kernel_rfl) (by kernel_rfl) (by kernel_rfl) (fun _ _ _ h => h) (Or.inl ⟨by kernel_rfl, ?_⟩) hS ?_
                  rotate_left
                  · (intro wS hSw; (try dsimp only at hSw); go_simp; (try rw [if_neg (by omega)]); try with_reducible rfl)
                  simp only [Act.put, List.setIfInBounds_toArray, List.set_cons_zero, List.set_cons_succ]
                  refine AtT.taked (i := 15) (v := ?_) (some 113) rfl rfl (by kernel_rfl) (by kernel_rfl) (by kernel_rfl) (by kernel_rfl) (fun _ _ _ h => h) (Or.inl ⟨by kernel_rfl, ?_⟩) hS ?_
                  rotate_left
                  · (intro wS hSw; (try dsimp only at hSw); go_simp; (try rw [if_neg (by omega)]); try with_reducible rfl)
                  simp only [Act.put, List.setIfInBounds_toArray, List.set_cons_zero, List.set_cons_succ]
                  refine AtT.taked (i := 16) (v := ?_) (some 114) rfl rfl (by kernel_rfl) (by kernel_rfl) (by kernel_rfl) (by kernel_rfl) (fun _ _ _ h => h) (Or.inl ⟨by kernel_rfl, ?_⟩) hS ?_
                  rotate_left
                  · (intro wS hSw; (try dsimp only at hSw); have r4 := ((h1.ext hSw.below).cellOrder hlt).2.2.1; rw [HV.out] at r4; dsimp only at r4; go_simp; (try rw [if_neg (by omega)]); try with_reducible rfl)
                  simp only [Act.put, List.setIfInBounds_toArray, List.set_cons_zero, List.set_cons_succ]
                  refine AtT.two (i := 0) (j := 12) (by kernel_rfl) rfl rfl rfl rfl ?_ ?_
                  · skip
                    intro K hK
                    go_simp
                    refine hK.out _ _ (by apply Mem.tail; (repeat' (first | with_reducible exact hM | with_reducible exact hMp | with_reducible apply Mem.drew | with_reducible apply Mem.drewN | with_reducible apply Mem.alloc | with_reducible apply Mem.set | with_reducible exact Sto.row | ((with_reducible refine Sto.rowEq2 ?_ ?_); omega; rfl) | ((with_reducible refine Sto.rowEq ?_); omega) | with_reducible apply Sto.int | with_reducible apply Sto.there | with_reducible assumption | (unfold I64; omega) | (with_reducible (have hMx := Mem.undrew hM; exact hMx)) | (with_reducible (have hMx := Mem.undrew hMp; exact hMx))))) ?_
                    clear hK K hS
                    have hMp := hM
                    apply Mem.atT
                    · (repeat' (first | with_reducible exact hM | with_reducible exact hMp | with_reducible apply Mem.drew | with_reducible apply Mem.drewN | with_reducible apply Mem.alloc | with_reducible apply Mem.set | with_reducible exact Sto.row | ((with_reducible refine Sto.rowEq2 ?_ ?_); omega; rfl) | ((with_reducible refine Sto.rowEq ?_); omega) | with_reducible apply Sto.int | with_reducible apply Sto.there | with_reducible assumption | (unfold I64; omega) | (with_reducible (have hMx := Mem.undrew hM; exact hMx)) | (with_reducible (have hMx := Mem.undrew hMp; exact hMx))))
                    clear hM
                    intro hM
                    (try simp only [World.size_alloc, World.size_setCell, World.heap_drewN, heapDrew, Nat.add_assoc, Nat.reduceAdd, List.setIfInBounds_toArray, List.set_cons_zero, List.set_cons_succ, List.cons_append, List.nil_append] at hM)
                    have hS := hM.tail
                    refine AtT.two (i := 4) (j := 12) (by kernel_rfl) rfl rfl rfl rfl ?_ ?_
                    · skip
                      intro K hK
                      refine step_appRM (F := FStock) (Mem.toOwAtS hM .here) (fun _ => .here) ((hM.ow (.there .here)).rd.takeO (k := us.length) (by omega)) (by show (0 + us.length) * 2 ≤ _; omega) i0 (.agg #[.string ⟨#[]⟩, .int .i64 0]) 24 hi hz0 hz1 hz2 rfl (by omega) rfl _ _ _ Try.underlying30 rfl rfl rfl ?_
                      clear hM
                      intro a3 c3 w3 hM
                      rw [Nat.zero_add, List.nil_append] at hM
                      rw [Nat.zero_add]
                      try dsimp only
                      refine hK.out _ _ (hM.tail) ?_
                      clear hK K hS
                      have hS := hM.tail
                      refine AtT.only (i := 12) (by kernel_rfl) rfl rfl ?_
                      intro K hK
                      go_simp
                      refine hK.out _ _ (by apply Mem.tail; apply Mem.tail; (repeat' (first | with_reducible exact hM | with_reducible exact hMp | with_reducible apply Mem.drew | with_reducible apply Mem.drewN | with_reducible apply Mem.alloc | with_reducible apply Mem.set | with_reducible exact Sto.row | ((with_reducible refine Sto.rowEq2 ?_ ?_); omega; rfl) | ((with_reducible refine Sto.rowEq ?_); omega) | with_reducible apply Sto.int | with_reducible apply Sto.there | with_reducible assumption | (unfold I64; omega) | (with_reducible (have hMx := Mem.undrew hM; exact hMx)) | (with_reducible (have hMx := Mem.undrew hMp; exact hMx))))) ?_
                      clear hK K hS
                      have hMp := hM
                      apply Mem.atT
                      · (repeat' (first | with_reducible exact hM | with_reducible exact hMp | with_reducible apply Mem.drew | with_reducible apply Mem.drewN | with_reducible apply Mem.alloc | with_reducible apply Mem.set | with_reducible exact Sto.row | ((with_reducible refine Sto.rowEq2 ?_ ?_); omega; rfl) | ((with_reducible refine Sto.rowEq ?_); omega) | with_reducible apply Sto.int | with_reducible apply Sto.there | with_reducible assumption | (unfold I64; omega) | (with_reducible (have hMx := Mem.undrew hM; exact hMx)) | (with_reducible (have hMx := Mem.undrew hMp; exact hMx))))
                      clear hM
                      intro hM
                      (try simp only [World.size_alloc, World.size_setCell, World.heap_drewN, heapDrew, Nat.add_assoc, Nat.reduceAdd, List.setIfInBounds_toArray, List.set_cons_zero, List.set_cons_succ, List.cons_append, List.nil_append] at hM)
                      have hS := hM.tail.tail
                      refine AtT.only (i := 13) (by kernel_rfl) rfl rfl ?_
                      intro K hK
                      refine step_appRM (F := FStock) hM (fun _ => (.there .here)) (hM.oneRec (⟨ok, d⟩ : StockI) .here rfl HYW.out (by decide)) (by show (us.length + 1) * 2 ≤ _; omega) i0 (.agg #[.string ⟨#[]⟩, .int .i64 0]) 24 hi hz0 hz1 hz2 rfl (by omega) rfl _ _ _ Try.underlying30 rfl rfl rfl ?_
                      clear hM
                      intro a4 c4 w4 hM
                      try dsimp only
                      refine hK.out _ _ (hM.tail.tail) ?_
                      clear hK K hS
                      have hS := hM.tail.tail
                      refine AtT.only (i := 17) (by kernel_rfl) rfl rfl ?_
                      intro K hK
                      refine step_appRM (F := FStock) hM (fun _ => (.there .here)) (show Rd FStock _ (some ⟨g, 0, none⟩) 0 0 (us.drop us.length) by rw [List.drop_length]; exact Rd.noneR (by unfold maxLen; omega) (by simp)) (by show (us.length + 1 + 0) * 2 ≤ _; omega) i0 (.agg #[.string ⟨#[]⟩, .int .i64 0]) 24 hi hz0 hz1 hz2 rfl (by omega) rfl _ _ _ Try.underlying30 rfl rfl rfl ?_
                      clear hM
                      intro a7 c7 w7 hM
                      rw [show us.length + 1 + 0 = us.length + 1 by omega] at hM ⊢
                      obtain ⟨g7, rfl, -⟩ := (hM.ow (.there .here)).head (by omega)
                      try dsimp only
                      refine hK.out _ _ (hM.tail.tail) ?_
                      clear hK K hS
                      have hS := hM.tail.tail
                      refine AtT.last (by kernel_rfl) rfl (by kernel_rfl) ?_
                      intro K hK
                      clear hS
                      go_simp
                      refine hK.out _ _ ?_
                      clear hK K
                      have hl3 : (us.take us.length ++ [(⟨ok, d⟩ : StockI)] ++ us.drop us.length).length = us.length + 1 := by rw [List.length_append, List.length_append, List.length_singleton, List.length_take, List.length_drop]; omega
                      have hM9 := Lib.hid (Mem.pick (is := [1, 3]) hM (by decide) rfl)
                      clear hM
                      go_wp2
                      go_roundw
                      case rel => exact ⟨k + 1, g7, c7, by omega, by go_num, by rw [HS4.out, hl3], by rw [HS4.out, hl3]; exact hM9.out⟩
                      case measure => first | (simp [intOf]; done) | (simp [intOf]; omega)
                    · skip
                      intro K hK
                      go_simp
                      refine hK.out _ _ (by apply Mem.tail; apply Mem.tail; (repeat' (first | with_reducible exact hM | with_reducible exact hMp | with_reducible apply Mem.drew | with_reducible apply Mem.drewN | with_reducible apply Mem.alloc | with_reducible apply Mem.set | with_reducible exact Sto.row | ((with_reducible refine Sto.rowEq2 ?_ ?_); omega; rfl) | ((with_reducible refine Sto.rowEq ?_); omega) | with_reducible apply Sto.int | with_reducible apply Sto.there | with_reducible assumption | (unfold I64; omega) | (with_reducible (have hMx := Mem.undrew hM; exact hMx)) | (with_reducible (have hMx := Mem.undrew hMp; exact hMx))))) ?_
                      clear hK K hS
                      have hMp := hM
                      apply Mem.atT
                      · (repeat' (first | with_reducible exact hM | with_reducible exact hMp | with_reducible apply Mem.drew | with_reducible apply Mem.drewN | with_reducible apply Mem.alloc | with_reducible apply Mem.set | with_reducible exact Sto.row | ((with_reducible refine Sto.rowEq2 ?_ ?_); omega; rfl) | ((with_reducible refine Sto.rowEq ?_); omega) | with_reducible apply Sto.int | with_reducible apply Sto.there | with_reducible assumption | (unfold I64; omega) | (with_reducible (have hMx := Mem.undrew hM; exact hMx)) | (with_reducible (have hMx := Mem.undrew hMp; exact hMx))))
                      clear hM
                      intro hM
                      (try simp only [World.size_alloc, World.size_setCell, World.heap_drewN, heapDrew, Nat.add_assoc, Nat.reduceAdd, List.setIfInBounds_toArray, List.set_cons_zero, List.set_cons_succ, List.cons_append, List.nil_append] at hM)
                      have hS := hM.tail.tail
                      refine AtT.only (i := 4) (by kernel_rfl) rfl rfl ?_
                      intro K hK
                      refine step_appRM (F := FStock) (Mem.toOwAtS hM (.there .here)) (fun _ => (.there .here)) ((hM.ow (.there (.there .here))).rd.takeO (k := us.length) (by omega)) (by show (0 + us.length) * 2 ≤ _; omega) i0 (.agg #[.string ⟨#[]⟩, .int .i64 0]) 24 hi hz0 hz1 hz2 rfl (by omega) rfl _ _ _ Try.underlying30 rfl rfl rfl ?_
                      clear hM
                      intro a3 c3 w3 hM
                      rw [Nat.zero_add, List.nil_append] at hM
                      rw [Nat.zero_add]
                      try dsimp only
                      refine hK.out _ _ (hM.tail.tail) ?_
                      clear hK K hS
                      have hS := hM.tail.tail
                      refine AtT.only (i := 13) (by kernel_rfl) rfl rfl ?_
                      intro K hK
                      refine step_appRM (F := FStock) hM (fun _ => (.there .here)) (hM.oneRec (⟨ok, d⟩ : StockI) .here rfl HYW.out (by decide)) (by show (us.length + 1) * 2 ≤ _; omega) i0 (.agg #[.string ⟨#[]⟩, .int .i64 0]) 24 hi hz0 hz1 hz2 rfl (by omega) rfl _ _ _ Try.underlying30 rfl rfl rfl ?_
                      clear hM
                      intro a4 c4 w4 hM
                      try dsimp only
                      refine hK.out _ _ (hM.tail.tail) ?_
                      clear hK K hS
                      have hS := hM.tail.tail
                      refine AtT.only (i := 17) (by kernel_rfl) rfl rfl ?_
                      intro K hK
                      refine step_appRM (F := FStock) hM (fun _ => (.there .here)) (show Rd FStock _ (some ⟨g, 0, none⟩) 0 0 (us.drop us.length) by rw [List.drop_length]; exact Rd.noneR (by unfold maxLen; omega) (by simp)) (by show (us.length + 1 + 0) * 2 ≤ _; omega) i0 (.agg #[.string ⟨#[]⟩, .int .i64 0]) 24 hi hz0 hz1 hz2 rfl (by omega) rfl _ _ _ Try.underlying30 rfl rfl rfl ?_
                      clear hM
                      intro a7 c7 w7 hM
                      rw [show us.length + 1 + 0 = us.length + 1 by omega] at hM ⊢
                      obtain ⟨g7, rfl, -⟩ := (hM.ow (.there .here)).head (by omega)
                      try dsimp only
                      refine hK.out _ _ (hM.tail.tail) ?_
                      clear hK K hS
                      have hS := hM.tail.tail
                      refine AtT.last (by kernel_rfl) rfl (by kernel_rfl) ?_
                      intro K hK
                      clear hS
                      go_simp
                      refine hK.out _ _ ?_
                      clear hK K
                      have hl3 : (us.take us.length ++ [(⟨ok, d⟩ : StockI)] ++ us.drop us.length).length = us.length + 1 := by rw [List.length_append, List.length_append, List.length_singleton, List.length_take, List.length_drop]; omega
                      have hM9 := Lib.hid (Mem.pick (is := [1, 3]) hM (by decide) rfl)
                      clear hM
                      go_wp2
                      go_roundw
                      case rel => exact ⟨k + 1, g7, c7, by omega, by go_num, by rw [HS4.out, hl3], by rw [HS4.out, hl3]; exact hM9.out⟩
                      case measure => first | (simp [intOf]; done) | (simp [intOf]; omega)
                  · skip
                    intro K hK
                    go_simp
                    refine hK.out _ _ (by apply Mem.tail; (repeat' (first | with_reducible exact hM | with_reducible exact hMp | with_reducible apply Mem.drew | with_reducible apply Mem.drewN | with_reducible apply Mem.alloc | with_reducible apply Mem.set | with_reducible exact Sto.row | ((with_reducible refine Sto.rowEq2 ?_ ?_); omega; rfl) | ((with_reducible refine Sto.rowEq ?_); omega) | with_reducible apply Sto.int | with_reducible apply Sto.there | with_reducible assumption | (unfold I64; omega) | (with_reducible (have hMx := Mem.undrew hM; exact hMx)) | (with_reducible (have hMx := Mem.undrew hMp; exact hMx))))) ?_
                    clear hK K hS
                    have hMp := hM
                    apply Mem.atT
                    · (repeat' (first | with_reducible exact hM | with_reducible exact hMp | with_reducible apply Mem.drew | with_reducible apply Mem.drewN | with_reducible apply Mem.alloc | with_reducible apply Mem.set | with_reducible exact Sto.row | ((with_reducible refine Sto.rowEq2 ?_ ?_); omega; rfl) | ((with_reducible refine Sto.rowEq ?_); omega) | with_reducible apply Sto.int | with_reducible apply Sto.there | with_reducible assumption | (unfold I64; omega) | (with_reducible (have hMx := Mem.undrew hM; exact hMx)) | (with_reducible (have hMx := Mem.undrew hMp; exact hMx))))
                    clear hM
                    intro hM
                    (try simp only [World.size_alloc, World.size_setCell, World.heap_drewN, heapDrew, Nat.add_assoc, Nat.reduceAdd, List.setIfInBounds_toArray, List.set_cons_zero, List.set_cons_succ, List.cons_append, List.nil_append] at hM)
                    have hS := hM.tail
                    refine AtT.only (i := 0) (by kernel_rfl) rfl rfl ?_
                    intro K hK
                    go_simp
                    refine hK.out _ _ (by apply Mem.tail; apply Mem.tail; (repeat' (first | with_reducible exact hM | with_reducible exact hMp | with_reducible apply Mem.drew | with_reducible apply Mem.drewN | with_reducible apply Mem.alloc | with_reducible apply Mem.set | with_reducible exact Sto.row | ((with_reducible refine Sto.rowEq2 ?_ ?_); omega; rfl) | ((with_reducible refine Sto.rowEq ?_); omega) | with_reducible apply Sto.int | with_reducible apply Sto.there | with_reducible assumption | (unfold I64; omega) | (with_reducible (have hMx := Mem.undrew hM; exact hMx)) | (with_reducible (have hMx := Mem.undrew hMp; exact hMx))))) ?_
                    clear hK K hS
                    have hMp := hM
                    apply Mem.atT
                    · (repeat' (first | with_reducible exact hM | with_reducible exact hMp | with_reducible apply Mem.drew | with_reducible apply Mem.drewN | with_reducible apply Mem.alloc | with_reducible apply Mem.set | with_reducible exact Sto.row | ((with_reducible refine Sto.rowEq2 ?_ ?_); omega; rfl) | ((with_reducible refine Sto.rowEq ?_); omega) | with_reducible apply Sto.int | with_reducible apply Sto.there | with_reducible assumption | (unfold I64; omega) | (with_reducible (have hMx := Mem.undrew hM; exact hMx)) | (with_reducible (have hMx := Mem.undrew hMp; exact hMx))))
                    clear hM
                    intro hM
                    (try simp only [World.size_alloc, World.size_setCell, World.heap_drewN, heapDrew, Nat.add_assoc, Nat.reduceAdd, List.setIfInBounds_toArray, List.set_cons_zero, List.set_cons_succ, List.cons_append, List.nil_append] at hM)
                    have hS := hM.tail.tail
                    refine AtT.only (i := 4) (by kernel_rfl) rfl rfl ?_
                    intro K hK
                    refine step_appRM (F := FStock) (Mem.toOwAtS hM .here) (fun _ => .here) ((hM.ow (.there (.there .here))).rd.takeO (k := us.length) (by omega)) (by show (0 + us.length) * 2 ≤ _; omega) i0 (.agg #[.string ⟨#[]⟩, .int .i64 0]) 24 hi hz0 hz1 hz2 rfl (by omega) rfl _ _ _ Try.underlying30 rfl rfl rfl ?_
                    clear hM
                    intro a3 c3 w3 hM
                    rw [Nat.zero_add, List.nil_append] at hM
                    rw [Nat.zero_add]
                    try dsimp only
                    refine hK.out _ _ (hM.tail.tail) ?_
                    clear hK K hS
                    have hS := hM.tail.tail
                    refine AtT.only (i := 13) (by kernel_rfl) rfl rfl ?_
                    intro K hK
                    refine step_appRM (F := FStock) hM (fun _ => .here) (hM.oneRec (⟨ok, d⟩ : StockI) (.there .here) rfl HYW.out (by decide)) (by show (us.length + 1) * 2 ≤ _; omega) i0 (.agg #[.string ⟨#[]⟩, .int .i64 0]) 24 hi hz0 hz1 hz2 rfl (by omega) rfl _ _ _ Try.underlying30 rfl rfl rfl ?_
                    clear hM
                    intro a4 c4 w4 hM
                    try dsimp only
                    refine hK.out _ _ (hM.tail.tail) ?_
                    clear hK K hS
                    have hS := hM.tail.tail
                    refine AtT.only (i := 17) (by kernel_rfl) rfl rfl ?_
                    intro K hK
                    refine step_appRM (F := FStock) hM (fun _ => .here) (show Rd FStock _ (some ⟨g, 0, none⟩) 0 0 (us.drop us.length) by rw [List.drop_length]; exact Rd.noneR (by unfold maxLen; omega) (by simp)) (by show (us.length + 1 + 0) * 2 ≤ _; omega) i0 (.agg #[.string ⟨#[]⟩, .int .i64 0]) 24 hi hz0 hz1 hz2 rfl (by omega) rfl _ _ _ Try.underlying30 rfl rfl rfl ?_
                    clear hM
                    intro a7 c7 w7 hM
                    rw [show us.length + 1 + 0 = us.length + 1 by omega] at hM ⊢
                    obtain ⟨g7, rfl, -⟩ := (hM.ow .here).head (by omega)
                    try dsimp only
                    refine hK.out _ _ (hM.tail.tail) ?_
                    clear hK K hS
                    have hS := hM.tail.tail
                    refine AtT.last (by kernel_rfl) rfl (by kernel_rfl) ?_
                    intro K hK
                    clear hS
                    go_simp
                    refine hK.out _ _ ?_
                    clear hK K
                    have hl3 : (us.take us.length ++ [(⟨ok, d⟩ : StockI)] ++ us.drop us.length).length = us.length + 1 := by rw [List.length_append, List.length_append, List.length_singleton, List.length_take, List.length_drop]; omega
                    have hM9 := Lib.hid (Mem.pick (is := [0, 3]) hM (by decide) rfl)
                    clear hM
                    go_wp2
                    go_roundw
                    case rel => exact ⟨k + 1, g7, c7, by omega, by go_num, by rw [HS4.out, hl3], by rw [HS4.out, hl3]; exact hM9.out⟩
                    case measure => first | (simp [intOf]; done) | (simp [intOf]; omega)
              · skip
                as_aux_lemma =>
                  have hcp := (hM.ow .here).rd.cap
                  have hcm := (hM.ow .here).rd.capm
                  unfold maxLen at hcm
                  have hkc : us.length < c6 := by omega
                  have hck : ¬ c6 = us.length := by omega
                  have j3 : (us.length : Int) ≤ (c6 : Int) := by omega
                  have HYW := Lib.hid (show FStock.wf (⟨ok, d⟩ : StockI) from ⟨hwk, by show I64 d; unfold I64; omega⟩)
                  go_upto_region 15 with fail
                  apply Mem.atWpA
                  · (repeat' (first | with_reducible exact hM | with_reducible exact hMp | with_reducible apply Mem.drew | with_reducible apply Mem.drewN | with_reducible apply Mem.alloc | with_reducible apply Mem.set | with_reducible exact Sto.row | ((with_reducible refine Sto.rowEq2 ?_ ?_); omega; rfl) | ((with_reducible refine Sto.rowEq ?_); omega) | with_reducible apply Sto.int | with_reducible apply Sto.there | with_reducible assumption | (unfold I64; omega) | (with_reducible (have hMx := Mem.undrew hM; exact hMx)) | (with_reducible (have hMx := Mem.undrew hMp; exact hMx))))
                  clear hM
                  intro wst hM
                  (try simp only [World.size_alloc, World.size_setCell, World.heap_drewN, heapDrew, Nat.add_assoc, Nat.reduceAdd, List.setIfInBounds_toArray, List.set_cons_zero, List.set_cons_succ, List.cons_append, List.nil_append] at hM)
                  refine AtT.startA hM hM 18 (by kernel_rfl) ?_
                  clear hM
                  intro wd hM
                  have hS := hM
                  refine AtT.taked (i := 1) (v := ?_) (some 99) rfl rfl (by kernel_rfl) (by kernel_rfl) (by kernel_rfl) (by kernel_rfl) (fun _ _ _ h => h) (Or.inl ⟨by kernel_rfl, ?_⟩) hS ?_
                  rotate_left
                  · (intro wS hSw; (try dsimp only at hSw); go_simp; (try rw [if_neg (by omega)]); try with_reducible rfl)
                  simp only [Act.put, List.setIfInBounds_toArray, List.set_cons_zero, List.set_cons_succ]
                  refine AtT.taked (i := 2) (v := ?_) (some 100) rfl rfl (by kernel_rfl) (by kernel_rfl) (by kernel_rfl) (by kernel_rfl) (fun _ _ _ h => h) (Or.inl ⟨by kernel_rfl, ?_⟩) hS ?_
                  rotate_left
                  · (intro wS hSw; (try dsimp only at hSw); go_simp; (try rw [if_neg (by omega)]); try with_reducible rfl)
                  simp only [Act.put, List.setIfInBounds_toArray, List.set_cons_zero, List.set_cons_succ]
                  refine AtT.taked (i := 3) (v := ?_) (some 101) rfl rfl (by kernel_rfl) (by kernel_rfl) (by kernel_rfl) (by kernel_rfl) (fun _ _ _ h => h) (Or.inl ⟨by kernel_rfl, ?_⟩) hS ?_
                  rotate_left
                  · (intro wS hSw; (try dsimp only at hSw); have r4 := ((h1.ext hSw.below).cellOrder hlt).2.2.1; rw [HV.out] at r4; dsimp only at r4; go_simp; (try rw [if_neg (by omega)]); try with_reducible rfl)
                  simp only [Act.put, List.setIfInBounds_toArray, List.set_cons_zero, List.set_cons_succ]
                  refine AtT.taked (i := 5) (v := ?_) (some 103) rfl rfl (by kernel_rfl) (by kernel_rfl) (by kernel_rfl) (by kernel_rfl) (fun _ _ _ h => h) (Or.inl ⟨by kernel_rfl, ?_⟩) hS ?_
                  rotate_left
                  · (intro wS hSw; (try dsimp only at hSw); go_simp; (try rw [if_neg (by omega)]); try with_reducible rfl)
                  simp only [Act.put, List.setIfInBounds_toArray, List.set_cons_zero, List.set_cons_succ]
                  refine AtT.taked (i := 6) (v := ?_) (some 104) rfl rfl (by kernel_rfl) (by kernel_rfl) (by kernel_rfl) (by kernel_rfl) (fun _ _ _ h => h) (Or.inl ⟨by kernel_rfl, ?_⟩) hS ?_
                  rotate_left
                  · (intro wS hSw; (try dsimp only at hSw); go_simp; (try rw [if_neg (by omega)]); try with_reducible rfl)
                  simp only [Act.put, List.setIfInBounds_toArray, List.set_cons_zero, List.set_cons_succ]
                  refine AtT.taked (i := 7) (v := ?_) (some 105) rfl rfl (by kernel_rfl) (by kernel_rfl) (by kernel_rfl) (by kernel_rfl) (fun _ _ _ h => h) (Or.inl ⟨by kernel_rfl, ?_⟩) hS ?_
                  rotate_left
                  · (intro wS hSw; (try dsimp only at hSw); have r4 := ((h1.ext hSw.below).cellOrder hlt).2.2.1; rw [HV.out] at r4; dsimp only at r4; go_simp; (try rw [if_neg (by omega)]); try with_reducible rfl)
                  simp only [Act.put, List.setIfInBounds_toArray, List.set_cons_zero, List.set_cons_succ]
                  refine AtT.taked (i := 8) (v := ?_) (some 106) rfl rfl (by kernel_rfl) (by kernel_rfl) (by kernel_rfl) (by kernel_rfl) (fun _ _ _ h => h) (Or.inl ⟨by kernel_rfl, ?_⟩) hS ?_
                  rotate_left
                  · (intro wS hSw; (try dsimp only at hSw); go_simp; (try rw [if_neg (by omega)]); try with_reducible rfl)
                  simp only [Act.put, List.setIfInBounds_toArray, List.set_cons_zero, List.set_cons_succ]
                  refine AtT.taked (i := 9) (v := ?_) (some 107) rfl rfl (by kernel_rfl) (by kernel_rfl) (by kernel_rfl) (by kernel_rfl) (fun _ _ _ h => h) (Or.inl ⟨by kernel_rfl, ?_⟩) hS ?_
                  rotate_left
                  · (intro wS hSw; (try dsimp only at hSw); have r4 := ((h1.ext hSw.below).cellOrder hlt).2.2.1; rw [HV.out] at r4; dsimp only at r4; go_simp; (try rw [if_neg (by omega)]); try with_reducible rfl)
                  simp only [Act.put, List.setIfInBounds_toArray, List.set_cons_zero, List.set_cons_succ]
                  refine AtT.taked (i := 10) (v := ?_) (some 108) rfl rfl (by kernel_rfl) (by kernel_rfl) (by kernel_rfl) (by kernel_rfl) (fun _ _ _ h => h) (Or.inl ⟨by kernel_rfl, ?_⟩) hS ?_
                  rotate_left
                  · (intro wS hSw; (try dsimp only at hSw); go_simp; (try rw [if_neg (by omega)]); try with_reducible rfl)
                  simp only [Act.put, List.setIfInBounds_toArray, List.set_cons_zero, List.set_cons_succ]
                  refine AtT.taked (i := 11) (v := ?_) (some 109) rfl rfl (by kernel_rfl) (by kernel_rfl) (by kernel_rfl) (by kernel_rfl) (fun _ _ _ h => h) (Or.inl ⟨by kernel_rfl, ?_⟩) hS ?_
                  rotate_left
                  · (intro wS hSw; (try dsimp only at hSw); go_simp; (try rw [if_neg (by omega)]); try with_reducible rfl)
                  simp only [Act.put, List.setIfInBounds_toArray, List.set_cons_zero, List.set_cons_succ]
                  refine AtT.taked (i := 14) (v := ?_) (some 112) rfl rfl (by kernel_rfl) (by kernel_rfl) (by kernel_rfl) (by kernel_rfl) (fun _ _ _ h => h) (Or.inl ⟨by kernel_rfl, ?_⟩) hS ?_
                  rotate_left
                  · (intro wS hSw; (try dsimp only at hSw); go_simp; (try rw [if_neg (by omega)]); try with_reducible rfl)
                  simp only [Act.put, List.setIfInBounds_toArray, List.set_cons_zero, List.set_cons_succ]
                  refine AtT.taked (i := 15) (v := ?_) (some 113) rfl rfl (by kernel_rfl) (by kernel_rfl) (by kernel_rfl) (by kernel_rfl) (fun _ _ _ h => h) (Or.inl ⟨by kernel_rfl, ?_⟩) hS ?_
                  rotate_left
                  · (intro wS hSw; (try dsimp only at hSw); go_simp; (try rw [if_neg (by omega)]); try with_reducible rfl)
                  simp only [Act.put, List.setIfInBounds_toArray, List.set_cons_zero, List.set_cons_succ]
                  refine AtT.taked (i := 16) (v := ?_) (some 114) rfl rfl (by kernel_rfl) (by kernel_rfl) (by kernel_rfl) (by kernel_rfl) (fun _ _ _ h => h) (Or.inl ⟨by kernel_rfl, ?_⟩) hS ?_
                  rotate_left
                  · (intro wS hSw; (try dsimp only at hSw); have r4 := ((h1.ext hSw.below).cellOrder hlt).2.2.1; rw [HV.out] at r4; dsimp only at r4; go_simp; (try rw [if_neg (by omega)]); try with_reducible rfl)
                  simp only [Act.put, List.setIfInBounds_toArray, List.set_cons_zero, List.set_cons_succ]
                  refine AtT.two (i := 0) (j := 12) (by kernel_rfl) rfl rfl rfl rfl ?_ ?_
                  · skip
                    intro K hK
                    go_simp
                    refine hK.out _ _ (by apply Mem.tail; (repeat' (first | with_reducible exact hM | with_reducible exact hMp | with_reducible apply Mem.drew | with_reducible apply Mem.drewN | with_reducible apply Mem.alloc | with_reducible apply Mem.set | with_reducible exact Sto.row | ((with_reducible refine Sto.rowEq2 ?_ ?_); omega; rfl) | ((with_reducible refine Sto.rowEq ?_); omega) | with_reducible apply Sto.int | with_reducible apply Sto.there | with_reducible assumption | (unfold I64; omega) | (with_reducible (have hMx := Mem.undrew hM; exact hMx)) | (with_reducible (have hMx := Mem.undrew hMp; exact hMx))))) ?_
                    clear hK K hS
                    have hMp := hM
                    apply Mem.atT
                    · (repeat' (first | with_reducible exact hM | with_reducible exact hMp | with_reducible apply Mem.drew | with_reducible apply Mem.drewN | with_reducible apply Mem.alloc | with_reducible apply Mem.set | with_reducible exact Sto.row | ((with_reducible refine Sto.rowEq2 ?_ ?_); omega; rfl) | ((with_reducible refine Sto.rowEq ?_); omega) | with_reducible apply Sto.int | with_reducible apply Sto.there | with_reducible assumption | (unfold I64; omega) | (with_reducible (have hMx := Mem.undrew hM; exact hMx)) | (with_reducible (have hMx := Mem.undrew hMp; exact hMx))))
                    clear hM
                    intro hM
                    (try simp only [World.size_alloc, World.size_setCell, World.heap_drewN, heapDrew, Nat.add_assoc, Nat.reduceAdd, List.setIfInBounds_toArray, List.set_cons_zero, List.set_cons_succ, List.cons_append, List.nil_append] at hM)
                    have hS := hM.tail
                    refine AtT.two (i := 4) (j := 12) (by kernel_rfl) rfl rfl rfl rfl ?_ ?_
                    · skip
                      intro K hK
                      refine step_appRM (F := FStock) (Mem.toOwAtS hM .here) (fun _ => .here) ((hM.ow (.there .here)).rd.takeO (k := us.length) (by omega)) (by show (0 + us.length) * 2 ≤ _; omega) i0 (.agg #[.string ⟨#[]⟩, .int .i64 0]) 24 hi hz0 hz1 hz2 rfl (by omega) rfl _ _ _ Try.underlying30 rfl rfl rfl ?_
                      clear hM
                      intro a3 c3 w3 hM
                      rw [Nat.zero_add, List.nil_append] at hM
                      rw [Nat.zero_add]
                      try dsimp only
                      refine hK.out _ _ (hM.tail) ?_
                      clear hK K hS
                      have hS := hM.tail
                      refine AtT.only (i := 12) (by kernel_rfl) rfl rfl ?_
                      intro K hK
                      go_simp
                      refine hK.out _ _ (by apply Mem.tail; apply Mem.tail; (repeat' (first | with_reducible exact hM | with_reducible exact hMp | with_reducible apply Mem.drew | with_reducible apply Mem.drewN | with_reducible apply Mem.alloc | with_reducible apply Mem.set | with_reducible exact Sto.row | ((with_reducible refine Sto.rowEq2 ?_ ?_); omega; rfl) | ((with_reducible refine Sto.rowEq ?_); omega) | with_reducible apply Sto.int | with_reducible apply Sto.there | with_reducible assumption | (unfold I64; omega) | (with_reducible (have hMx := Mem.undrew hM; exact hMx)) | (with_reducible (have hMx := Mem.undrew hMp; exact hMx))))) ?_
                      clear hK K hS
                      have hMp := hM
                      apply Mem.atT
                      · (repeat' (first | with_reducible exact hM | with_reducible exact hMp | with_reducible apply Mem.drew | with_reducible apply Mem.drewN | with_reducible apply Mem.alloc | with_reducible apply Mem.set | with_reducible exact Sto.row | ((with_reducible refine Sto.rowEq2 ?_ ?_); omega; rfl) | ((with_reducible refine Sto.rowEq ?_); omega) | with_reducible apply Sto.int | with_reducible apply Sto.there | with_reducible assumption | (unfold I64; omega) | (with_reducible (have hMx := Mem.undrew hM; exact hMx)) | (with_reducible (have hMx := Mem.undrew hMp; exact hMx))))
                      clear hM
                      intro hM
                      (try simp only [World.size_alloc, World.size_setCell, World.heap_drewN, heapDrew, Nat.add_assoc, Nat.reduceAdd, List.setIfInBounds_toArray, List.set_cons_zero, List.set_cons_succ, List.cons_append, List.nil_append] at hM)
                      have hS := hM.tail.tail
                      refine AtT.only (i := 13) (by kernel_rfl) rfl rfl ?_
                      intro K hK
                      refine step_appRM (F := FStock) hM (fun _ => (.there .here)) (hM.oneRec (⟨ok, d⟩ : StockI) .here rfl HYW.out (by decide)) (by show (us.length + 1) * 2 ≤ _; omega) i0 (.agg #[.string ⟨#[]⟩, .int .i64 0]) 24 hi hz0 hz1 hz2 rfl (by omega) rfl _ _ _ Try.underlying30 rfl rfl rfl ?_
                      clear hM
                      intro a4 c4 w4 hM
                      try dsimp only
                      refine hK.out _ _ (hM.tail.tail) ?_
                      clear hK K hS
                      have hS := hM.tail.tail
                      refine AtT.only (i := 17) (by kernel_rfl) rfl rfl ?_
                      intro K hK
                      refine step_appRM (F := FStock) hM (fun _ => (.there .here)) (show Rd FStock _ (some ⟨g, us.length * 2, none⟩) 0 (c6 - us.length) (us.drop us.length) by have h := (hM.ow (.there (.there .here))).rd.dropR (k := us.length) (Nat.le_refl _); rw [Nat.sub_self] at h; exact h) (by show (us.length + 1 + 0) * 2 ≤ _; omega) i0 (.agg #[.string ⟨#[]⟩, .int .i64 0]) 24 hi hz0 hz1 hz2 rfl (by omega) rfl _ _ _ Try.underlying30 rfl rfl rfl ?_
                      clear hM
                      intro a7 c7 w7 hM
                      rw [show us.length + 1 + 0 = us.length + 1 by omega] at hM ⊢
                      obtain ⟨g7, rfl, -⟩ := (hM.ow (.there .here)).head (by omega)
                      try dsimp only
                      refine hK.out _ _ (hM.tail.tail) ?_
                      clear hK K hS
                      have hS := hM.tail.tail
                      refine AtT.last (by kernel_rfl) rfl (by kernel_rfl) ?_
                      intro K hK
                      clear hS
                      go_simp
                      refine hK.out _ _ ?_
                      clear hK K
                      have hl3 : (us.take us.length ++ [(⟨ok, d⟩ : StockI)] ++ us.drop us.length).length = us.length + 1 := by rw [List.length_append, List.length_append, List.length_singleton, List.length_take, List.length_drop]; omega
                      have hM9 := Lib.hid (Mem.pick (is := [1, 3]) hM (by decide) rfl)
                      clear hM
                      go_wp2
                      go_roundw
                      case rel => exact ⟨k + 1, g7, c7, by omega, by go_num, by rw [HS4.out, hl3], by rw [HS4.out, hl3]; exact hM9.out⟩
                      case measure => first | (simp [intOf]; done) | (simp [intOf]; omega)
                    · skip
                      intro K hK
                      go_simp
                      refine hK.out _ _ (by apply Mem.tail; apply Mem.tail; (repeat' (first | with_reducible exact hM | with_reducible exact hMp | with_reducible apply Mem.drew | with_reducible apply Mem.drewN | with_reducible apply Mem.alloc | with_reducible apply Mem.set | with_reducible exact Sto.row | ((with_reducible refine Sto.rowEq2 ?_ ?_); omega; rfl) | ((with_reducible refine Sto.rowEq ?_); omega) | with_reducible apply Sto.int | with_reducible apply Sto.there | with_reducible assumption | (unfold I64; omega) | (with_reducible (have hMx := Mem.undrew hM; exact hMx)) | (with_reducible (have hMx := Mem.undrew hMp; exact hMx))))) ?_
                      clear hK K hS
                      have hMp := hM
                      apply Mem.atT
                      · (repeat' (first | with_reducible exact hM | with_reducible exact hMp | with_reducible apply Mem.drew | with_reducible apply Mem.drewN | with_reducible apply Mem.alloc | with_reducible apply Mem.set | with_reducible exact Sto.row | ((with_reducible refine Sto.rowEq2 ?_ ?_); omega; rfl) | ((with_reducible refine Sto.rowEq ?_); omega) | with_reducible apply Sto.int | with_reducible apply Sto.there | with_reducible assumption | (unfold I64; omega) | (with_reducible (have hMx := Mem.undrew hM; exact hMx)) | (with_reducible (have hMx := Mem.undrew hMp; exact hMx))))
                      clear hM
                      intro hM
                      (try simp only [World.size_alloc, World.size_setCell, World.heap_drewN, heapDrew, Nat.add_assoc, Nat.reduceAdd, List.setIfInBounds_toArray, List.set_cons_zero, List.set_cons_succ, List.cons_append, List.nil_append] at hM)
                      have hS := hM.tail.tail
                      refine AtT.only (i := 4) (by kernel_rfl) rfl rfl ?_
                      intro K hK
                      refine step_appRM (F := FStock) (Mem.toOwAtS hM (.there .here)) (fun _ => (.there .here)) ((hM.ow (.there (.there .here))).rd.takeO (k := us.length) (by omega)) (by show (0 + us.length) * 2 ≤ _; omega) i0 (.agg #[.string ⟨#[]⟩, .int .i64 0]) 24 hi hz0 hz1 hz2 rfl (by omega) rfl _ _ _ Try.underlying30 rfl rfl rfl ?_
                      clear hM
                      intro a3 c3 w3 hM
                      rw [Nat.zero_add, List.nil_append] at hM
                      rw [Nat.zero_add]
                      try dsimp only
                      refine hK.out _ _ (hM.tail.tail) ?_
                      clear hK K hS
                      have hS := hM.tail.tail
                      refine AtT.only (i := 13) (by kernel_rfl) rfl rfl ?_
                      intro K hK
                      refine step_appRM (F := FStock) hM (fun _ => (.there .here)) (hM.oneRec (⟨ok, d⟩ : StockI) .here rfl HYW.out (by decide)) (by show (us.length + 1) * 2 ≤ _; omega) i0 (.agg #[.string ⟨#[]⟩, .int .i64 0]) 24 hi hz0 hz1 hz2 rfl (by omega) rfl _ _ _ Try.underlying30 rfl rfl rfl ?_
                      clear hM
                      intro a4 c4 w4 hM
                      try dsimp only
                      refine hK.out _ _ (hM.tail.tail) ?_
                      clear hK K hS
                      have hS := hM.tail.tail
                      refine AtT.only (i := 17) (by kernel_rfl) rfl rfl ?_
                      intro K hK
                      refine step_appRM (F := FStock) hM (fun _ => (.there .here)) (show Rd FStock _ (some ⟨g, us.length * 2, none⟩) 0 (c6 - us.length) (us.drop us.length) by have h := (hM.ow (.there (.there .here))).rd.dropR (k := us.length) (Nat.le_refl _); rw [Nat.sub_self] at h; exact h) (by show (us.length + 1 + 0) * 2 ≤ _; omega) i0 (.agg #[.string ⟨#[]⟩, .int .i64 0]) 24 hi hz0 hz1 hz2 rfl (by omega) rfl _ _ _ Try.underlying30 rfl rfl rfl ?_
                      clear hM
                      intro a7 c7 w7 hM
                      rw [show us.length + 1 + 0 = us.length + 1 by omega] at hM ⊢
                      obtain ⟨g7, rfl, -⟩ := (hM.ow (.there .here)).head (by omega)
                      try dsimp only
                      refine hK.out _ _ (hM.tail.tail) ?_
                      clear hK K hS
                      have hS := hM.tail.tail
                      refine AtT.last (by kernel_rfl) rfl (by kernel_rfl) ?_
                      intro K hK
                      clear hS
                      go_simp
                      refine hK.out _ _ ?_
                      clear hK K
                      have hl3 : (us.take us.length ++ [(⟨ok, d⟩ : StockI)] ++ us.drop us.length).length = us.length + 1 := by rw [List.length_append, List.length_append, List.length_singleton, List.length_take, List.length_drop]; omega
                      have hM9 := Lib.hid (Mem.pick (is := [1, 3]) hM (by decide) rfl)
                      clear hM
                      go_wp2
                      go_roundw
                      case rel => exact ⟨k + 1, g7, c7, by omega, by go_num, by rw [HS4.out, hl3], by rw [HS4.out, hl3]; exact hM9.out⟩
                      case measure => first | (simp [intOf]; done) | (simp [intOf]; omega)
                  · skip
                    intro K hK
                    go_simp
                    refine hK.out _ _ (by apply Mem.tail; (repeat' (first | with_reducible exact hM | with_reducible exact hMp | with_reducible apply Mem.drew | with_reducible apply Mem.drewN | with_reducible apply Mem.alloc | with_reducible apply Mem.set | with_reducible exact Sto.row | ((with_reducible refine Sto.rowEq2 ?_ ?_); omega; rfl) | ((with_reducible refine Sto.rowEq ?_); omega) | with_reducible apply Sto.int | with_reducible apply Sto.there | with_reducible assumption | (unfold I64; omega) | (with_reducible (have hMx := Mem.undrew hM; exact hMx)) | (with_reducible (have hMx := Mem.undrew hMp; exact hMx))))) ?_
                    clear hK K hS
                    have hMp := hM
                    apply Mem.atT
                    · (repeat' (first | with_reducible exact hM | with_reducible exact hMp | with_reducible apply Mem.drew | with_reducible apply Mem.drewN | with_reducible apply Mem.alloc | with_reducible apply Mem.set | with_reducible exact Sto.row | ((with_reducible refine Sto.rowEq2 ?_ ?_); omega; rfl) | ((with_reducible refine Sto.rowEq ?_); omega) | with_reducible apply Sto.int | with_reducible apply Sto.there | with_reducible assumption | (unfold I64; omega) | (with_reducible (have hMx := Mem.undrew hM; exact hMx)) | (with_reducible (have hMx := Mem.undrew hMp; exact hMx))))
                    clear hM
                    intro hM
                    (try simp only [World.size_alloc, World.size_setCell, World.heap_drewN, heapDrew, Nat.add_assoc, Nat.reduceAdd, List.setIfInBounds_toArray, List.set_cons_zero, List.set_cons_succ, List.cons_append, List.nil_append] at hM)
                    have hS := hM.tail
                    refine AtT.only (i := 0) (by kernel_rfl) rfl rfl ?_
                    intro K hK
                    go_simp
                    refine hK.out _ _ (by apply Mem.tail; apply Mem.tail; (repeat' (first | with_reducible exact hM | with_reducible exact hMp | with_reducible apply Mem.drew | with_reducible apply Mem.drewN | with_reducible apply Mem.alloc | with_reducible apply Mem.set | with_reducible exact Sto.row | ((with_reducible refine Sto.rowEq2 ?_ ?_); omega; rfl) | ((with_reducible refine Sto.rowEq ?_); omega) | with_reducible apply Sto.int | with_reducible apply Sto.there | with_reducible assumption | (unfold I64; omega) | (with_reducible (have hMx := Mem.undrew hM; exact hMx)) | (with_reducible (have hMx := Mem.undrew hMp; exact hMx))))) ?_
                    clear hK K hS
                    have hMp := hM
                    apply Mem.atT
                    · (repeat' (first | with_reducible exact hM | with_reducible exact hMp | with_reducible apply Mem.drew | with_reducible apply Mem.drewN | with_reducible apply Mem.alloc | with_reducible apply Mem.set | with_reducible exact Sto.row | ((with_reducible refine Sto.rowEq2 ?_ ?_); omega; rfl) | ((with_reducible refine Sto.rowEq ?_); omega) | with_reducible apply Sto.int | with_reducible apply Sto.there | with_reducible assumption | (unfold I64; omega) | (with_reducible (have hMx := Mem.undrew hM; exact hMx)) | (with_reducible (have hMx := Mem.undrew hMp; exact hMx))))
                    clear hM
                    intro hM
                    (try simp only [World.size_alloc, World.size_setCell, World.heap_drewN, heapDrew, Nat.add_assoc, Nat.reduceAdd, List.setIfInBounds_toArray, List.set_cons_zero, List.set_cons_succ, List.cons_append, List.nil_append] at hM)
                    have hS := hM.tail.tail
                    refine AtT.only (i := 4) (by kernel_rfl) rfl rfl ?_
                    intro K hK
                    refine step_appRM (F := FStock) (Mem.toOwAtS hM .here) (fun _ => .here) ((hM.ow (.there (.there .here))).rd.takeO (k := us.length) (by omega)) (by show (0 + us.length) * 2 ≤ _; omega) i0 (.agg #[.string ⟨#[]⟩, .int .i64 0]) 24 hi hz0 hz1 hz2 rfl (by omega) rfl _ _ _ Try.underlying30 rfl rfl rfl ?_
                    clear hM
                    intro a3 c3 w3 hM
                    rw [Nat.zero_add, List.nil_append] at hM
                    rw [Nat.zero_add]
                    try dsimp only
                    refine hK.out _ _ (hM.tail.tail) ?_
                    clear hK K hS
                    have hS := hM.tail.tail
                    refine AtT.only (i := 13) (by kernel_rfl) rfl rfl ?_
                    intro K hK
                    refine step_appRM (F := FStock) hM (fun _ => .here) (hM.oneRec (⟨ok, d⟩ : StockI) (.there .here) rfl HYW.out (by decide)) (by show (us.length + 1) * 2 ≤ _; omega) i0 (.agg #[.string ⟨#[]⟩, .int .i64 0]) 24 hi hz0 hz1 hz2 rfl (by omega) rfl _ _ _ Try.underlying30 rfl rfl rfl ?_
                    clear hM
                    intro a4 c4 w4 hM
                    try dsimp only
                    refine hK.out _ _ (hM.tail.tail) ?_
                    clear hK K hS
                    have hS := hM.tail.tail
                    refine AtT.only (i := 17) (by kernel_rfl) rfl rfl ?_
                    intro K hK
                    refine step_appRM (F := FStock) hM (fun _ => .here) (show Rd FStock _ (some ⟨g, us.length * 2, none⟩) 0 (c6 - us.length) (us.drop us.length) by have h := (hM.ow (.there (.there .here))).rd.dropR (k := us.length) (Nat.le_refl _); rw [Nat.sub_self] at h; exact h) (by show (us.length + 1 + 0) * 2 ≤ _; omega) i0 (.agg #[.string ⟨#[]⟩, .int .i64 0]) 24 hi hz0 hz1 hz2 rfl (by omega) rfl _ _ _ Try.underlying30 rfl rfl rfl ?_
                    clear hM
                    intro a7 c7 w7 hM
                    rw [show us.length + 1 + 0 = us.length + 1 by omega] at hM ⊢
                    obtain ⟨g7, rfl, -⟩ := (hM.ow .here).head (by omega)
                    try dsimp only
                    refine hK.out _ _ (hM.tail.tail) ?_
                    clear hK K hS
                    have hS := hM.tail.tail
                    refine AtT.last (by kernel_rfl) rfl (by kernel_rfl) ?_
                    intro K hK
                    clear hS
                    go_simp
                    refine hK.out _ _ ?_
                    clear hK K
                    have hl3 : (us.take us.length ++ [(⟨ok, d⟩ : StockI)] ++ us.drop us.length).length = us.length + 1 := by rw [List.length_append, List.length_append, List.length_singleton, List.length_take, List.length_drop]; omega
                    have hM9 := Lib.hid (Mem.pick (is := [0, 3]) hM (by decide) rfl)
                    clear hM
                    go_wp2
                    go_roundw
                    case rel => exact ⟨k + 1, g7, c7, by omega, by go_num, by rw [HS4.out, hl3], by rw [HS4.out, hl3]; exact hM9.out⟩
                    case measure => first | (simp [intOf]; done) | (simp [intOf]; omega)
      · have HS2 := Lib.hid (show putAll (openTo os gs (k + 1)) = us by rw [HST.out, if_neg hgo])
        have hgz : ((oc - gk) == 0) = true := by rw [beq_iff_eq]; omega
        go_wp2
        go_roundw
        case rel =>
          refine ⟨k + 1, g, c6, by omega, by go_num, by rw [HS2.out], ?_⟩
          rw [HS2.out]
          exact hM
        case measure => simp [intOf]; omega
    · obtain rfl : k = n1 := by omega
      have hb1 := HB.out
      have hz1 := HZ.out
      have hlen := Nat.le_trans (putAll_len (openTo os gs k)) (openTo_le os gs k)
      generalize putAll (openTo os gs k) = us at hb1 hz1 hM hlen ⊢
      have hb2 := hb1.symm
      go_wp2_with fail
      apply Mem.atA
      · (repeat' (first | with_reducible exact hM | with_reducible exact hMp | with_reducible apply Mem.drew | with_reducible apply Mem.drewN | with_reducible apply Mem.alloc | with_reducible apply Mem.set | with_reducible exact Sto.row | ((with_reducible refine Sto.rowEq2 ?_ ?_); omega; rfl) | ((with_reducible refine Sto.rowEq ?_); omega) | with_reducible apply Sto.int | with_reducible apply Sto.there | with_reducible assumption | (unfold I64; omega) | (with_reducible (have hMx := Mem.undrew hM; exact hMx)) | (with_reducible (have hMx := Mem.undrew hMp; exact hMx))))
      clear hM
      intro wst hM
      (try simp only [World.size_alloc, World.size_setCell, World.heap_drewN, heapDrew, Nat.add_assoc, Nat.reduceAdd, List.setIfInBounds_toArray, List.set_cons_zero, List.set_cons_succ, List.cons_append, List.nil_append] at hM)
      (first | refine (l15Store_any _ _ _ us _ (hM.ow .here).rd).mono ?_)
      rw [hb2]
      rintro e wc7 ⟨rfl, hb⟩
      replace hM := hM.ext hb
      clear hb
      cases bv
      · have hrv : rv = [] := by rw [hz1, ← hb1]; rfl
        subst hrv
        clear hb1 hz1
        go_wp2
        go_ret2
        refine ⟨_, _, rfl, ?_⟩
        apply Mem.first
        apply Mem.toOwR
        (repeat' (first | with_reducible exact hM | with_reducible exact hMp | with_reducible apply Mem.drew | with_reducible apply Mem.drewN | with_reducible apply Mem.alloc | with_reducible apply Mem.set | with_reducible exact Sto.row | ((with_reducible refine Sto.rowEq2 ?_ ?_); omega; rfl) | ((with_reducible refine Sto.rowEq ?_); omega) | with_reducible apply Sto.int | with_reducible apply Sto.there | with_reducible assumption | (unfold I64; omega) | (with_reducible (have hMx := Mem.undrew hM; exact hMx)) | (with_reducible (have hMx := Mem.undrew hMp; exact hMx))))
      · have hrv : rv = us := by rw [hz1, ← hb1]; rfl
        subst hrv
        clear hb1 hz1
        go_wp2
        go_ret2
        exact ⟨_, _, rfl, hM.first⟩
end Go.Proofs.Ytfnaenekdenmkaa
