/-
  MissingKinds: the program's.
-/
import Derived.Test.YtfnaenekdenmkaaYMissS
import Derived.Test.YtfnaenekdenmkaaYOpnO
/-
  MissingKinds: the program's.
-/
namespace Go.Proofs.Ytfnaenekdenmkaa
set_option linter.unusedSimpArgs false
set_option linter.unusedVariables false
open Go.RowKit

def missB (os : List OrderI) (ss : List StockI) : Bool := openB os ss && (kindsL os ss).all fewB
def missR (os : List OrderI) (ss : List StockI) : List StockI := if missB os ss then kindsL os ss else []
theorem missR_le (os : List OrderI) (ss : List StockI) : (missR os ss).length ≤ 10 := by
  unfold missR
  cases h : missB os ss
  · simp
  · rw [if_pos rfl]
    unfold missB openB at h
    rw [Bool.and_eq_true, Bool.and_eq_true] at h
    exact Nat.le_trans (putAll_len _) (openL_len h.1.1)

theorem miss1_any (s : StockI) (o : OrderI) (b : Nat) (w : World) (hr : Row w b #[.int .i64 o.id, .string (bsA o.kd), .int .i64 o.ct, .int .i64 o.ur, .int .i64 o.tk]) :
    Calls Try.prog 75 #[s.val, .pointer (some ⟨b, 0, none⟩)] w fun e w' => e = .returned (.bool (s.kd == o.kd)) ∧ Below w.heap.size w w' := by
  have hM := Mem.start w
  have BL := bsA_list
  obtain ⟨sk, sc⟩ := s
  have HR := Lib.hid hr; clear hr
  go_enter Try.func75, Try.ntmps75
  go_upto_region 1 with fail
  apply Mem.atWpA
  · (repeat' (first | with_reducible exact hM | with_reducible exact hMp | with_reducible apply Mem.drew | with_reducible apply Mem.drewN | with_reducible apply Mem.alloc | with_reducible apply Mem.set | with_reducible exact Sto.row | ((with_reducible refine Sto.rowEq2 ?_ ?_); omega; rfl) | ((with_reducible refine Sto.rowEq ?_); omega) | with_reducible apply Sto.int | with_reducible apply Sto.there | with_reducible assumption | (unfold I64; omega) | (with_reducible (have hMx := Mem.undrew hM; exact hMx)) | (with_reducible (have hMx := Mem.undrew hMp; exact hMx))))
  clear hM
  intro wst hM
  (try simp only [World.size_alloc, World.size_setCell, World.heap_drewN, heapDrew, Nat.add_assoc, Nat.reduceAdd, List.setIfInBounds_toArray, List.set_cons_zero, List.set_cons_succ, List.cons_append, List.nil_append] at hM)
  have c1 := (HR.out.ext hM.below).cell 1
  obtain ⟨k0, f0, l0⟩ := hM.row .here
  go_wp2
  go_ret
  exact ⟨rfl, (by apply Mem.below; (repeat' (first | with_reducible exact hM | with_reducible exact hMp | with_reducible apply Mem.drew | with_reducible apply Mem.drewN | with_reducible apply Mem.alloc | with_reducible apply Mem.set | with_reducible exact Sto.row | ((with_reducible refine Sto.rowEq2 ?_ ?_); omega; rfl) | ((with_reducible refine Sto.rowEq ?_); omega) | with_reducible apply Sto.int | with_reducible apply Sto.there | with_reducible assumption | (unfold I64; omega) | (with_reducible (have hMx := Mem.undrew hM; exact hMx)) | (with_reducible (have hMx := Mem.undrew hMp; exact hMx)))))⟩
theorem miss2_any (x y : StockI) (w : World) :
    Calls Try.prog 77 #[x.val, y.val] w fun e w' => (∃ r : Int, e = .returned (.int .i64 r) ∧ decide (r < 0) = ltK x y) ∧ Below w.heap.size w w' := by
  have hM := Mem.start w
  obtain ⟨xk, xc⟩ := x
  obtain ⟨yk, yc⟩ := y
  go_enter Try.func77, Try.ntmps77
  go_wp2_with fail
  refine (compareS_any xk yk _).mono ?_
  rintro e w1 ⟨rfl, rfl⟩
  go_wp2
  go_ret
  exact ⟨⟨_, rfl, cmpB_neg xk yk⟩, (by apply Mem.below; (repeat' (first | with_reducible exact hM | with_reducible exact hMp | with_reducible apply Mem.drew | with_reducible apply Mem.drewN | with_reducible apply Mem.alloc | with_reducible apply Mem.set | with_reducible exact Sto.row | ((with_reducible refine Sto.rowEq2 ?_ ?_); omega; rfl) | ((with_reducible refine Sto.rowEq ?_); omega) | with_reducible apply Sto.int | with_reducible apply Sto.there | with_reducible assumption | (unfold I64; omega) | (with_reducible (have hMx := Mem.undrew hM; exact hMx)) | (with_reducible (have hMx := Mem.undrew hMp; exact hMx)))))⟩
theorem miss3_any (x : StockI) (w : World) :
    Calls Try.prog 80 #[x.val] w fun e w' => e = .returned (.bool (fewB x)) ∧ Below w.heap.size w w' := by
  have hM := Mem.start w
  obtain ⟨xk, xc⟩ := x
  go_enter Try.func80, Try.ntmps80
  go_wp2
  go_ret
  exact ⟨rfl, (by apply Mem.below; (repeat' (first | with_reducible exact hM | with_reducible exact hMp | with_reducible apply Mem.drew | with_reducible apply Mem.drewN | with_reducible apply Mem.alloc | with_reducible apply Mem.set | with_reducible exact Sto.row | ((with_reducible refine Sto.rowEq2 ?_ ?_); omega; rfl) | ((with_reducible refine Sto.rowEq ?_); omega) | with_reducible apply Sto.int | with_reducible apply Sto.there | with_reducible assumption | (unfold I64; omega) | (with_reducible (have hMx := Mem.undrew hM; exact hMx)) | (with_reducible (have hMx := Mem.undrew hMp; exact hMx)))))⟩
theorem answers_miss (o : OrderI) (b : Nat) (lf : List StockI) (w : World) (hr : Row w b #[.int .i64 o.id, .string (bsA o.kd), .int .i64 o.ct, .int .i64 o.ur, .int .i64 o.tk]) :
    AnswersStock 75 #[.pointer (some ⟨b, 0, none⟩)] (isK o.kd) lf w :=
  fun v _ w' hb => miss1_any v o b w' (hr.ext hb)
theorem compares_miss (B : Nat) (w0 : World) (G : List Ent) (xs : List StockI) : ComparesStock 77 #[] ltK B w0 G xs := fun x _ y _ w' _ => miss2_any x y w'
theorem answers_few (lf : List StockI) (w : World) : AnswersStock 80 #[] fewB lf w := fun v _ w' _ => miss3_any v w'


set_option maxRecDepth 100000 in
set_option maxHeartbeats 8000000 in
theorem implMissing_any (a1 : Option Addr) (n1 c1 : Nat) (os : List OrderI) (a2 : Option Addr) (n2 c2 : Nat) (ss : List StockI) (w : World) (h1 : Rd FOrder w a1 n1 c1 os) (h2 : Rd FStock w a2 n2 c2 ss) :
    Calls Try.prog 29 #[.slice a1 n1 c1, .slice a2 n2 c2] w fun e w' => ∃ a' c', e = .returned (.tuple #[.slice a' (missR os ss).length c', .bool (missB os ss)]) ∧ Mem w.heap.size w w' [owE FStock 46 a' (missR os ss).length c' (missR os ss)] := by
  have hM := Mem.start w
  have hmf : ∀ (fn : Fn) (first cap : Array Value) (w : World), (Instr.makeFunc fn first cap).run Try.prog w = .ok (.func fn first cap) w := fun _ _ _ _ => rfl
  cases ho : ordersB os
  · have e1 : missB os ss = false := by rw [missB, openB, ho]; rfl
    have e2 : missR os ss = [] := by rw [missR, e1]; rfl
    rw [e1, e2]
    have HO := Lib.hid ho; clear ho e1 e2
    go_enter Try.func29, Try.ntmps29
    go_wp2_with fail
    apply Mem.atA
    · (repeat' (first | with_reducible exact hM | with_reducible exact hMp | with_reducible apply Mem.drew | with_reducible apply Mem.drewN | with_reducible apply Mem.alloc | with_reducible apply Mem.set | with_reducible exact Sto.row | ((with_reducible refine Sto.rowEq2 ?_ ?_); omega; rfl) | ((with_reducible refine Sto.rowEq ?_); omega) | with_reducible apply Sto.int | with_reducible apply Sto.there | with_reducible assumption | (unfold I64; omega) | (with_reducible (have hMx := Mem.undrew hM; exact hMx)) | (with_reducible (have hMx := Mem.undrew hMp; exact hMx))))
    clear hM
    intro wst hM
    (try simp only [World.size_alloc, World.size_setCell, World.heap_drewN, heapDrew, Nat.add_assoc, Nat.reduceAdd, List.setIfInBounds_toArray, List.set_cons_zero, List.set_cons_succ, List.cons_append, List.nil_append] at hM)
    (first | refine (areOrders_any a1 n1 c1 os _ (h1.ext hM.below)).mono ?_)
    rw [HO.out]
    rintro e wc1 ⟨rfl, hb⟩
    replace hM := hM.ext hb
    clear hb
    go_wp2
    go_ret2
    exact ⟨none, 0, rfl, by apply Mem.nilOwO; (repeat' (first | with_reducible exact hM | with_reducible exact hMp | with_reducible apply Mem.drew | with_reducible apply Mem.drewN | with_reducible apply Mem.alloc | with_reducible apply Mem.set | with_reducible exact Sto.row | ((with_reducible refine Sto.rowEq2 ?_ ?_); omega; rfl) | ((with_reducible refine Sto.rowEq ?_); omega) | with_reducible apply Sto.int | with_reducible apply Sto.there | with_reducible assumption | (unfold I64; omega) | (with_reducible (have hMx := Mem.undrew hM; exact hMx)) | (with_reducible (have hMx := Mem.undrew hMp; exact hMx))))⟩
  cases hs : storeB ss
  · have e1 : missB os ss = false := by rw [missB, openB, ho, hs]; rfl
    have e2 : missR os ss = [] := by rw [missR, e1]; rfl
    rw [e1, e2]
    have HO := Lib.hid ho; have HS := Lib.hid hs
    clear ho hs e1 e2
    go_enter Try.func29, Try.ntmps29
    go_wp2_with fail
    apply Mem.atA
    · (repeat' (first | with_reducible exact hM | with_reducible exact hMp | with_reducible apply Mem.drew | with_reducible apply Mem.drewN | with_reducible apply Mem.alloc | with_reducible apply Mem.set | with_reducible exact Sto.row | ((with_reducible refine Sto.rowEq2 ?_ ?_); omega; rfl) | ((with_reducible refine Sto.rowEq ?_); omega) | with_reducible apply Sto.int | with_reducible apply Sto.there | with_reducible assumption | (unfold I64; omega) | (with_reducible (have hMx := Mem.undrew hM; exact hMx)) | (with_reducible (have hMx := Mem.undrew hMp; exact hMx))))
    clear hM
    intro wst hM
    (try simp only [World.size_alloc, World.size_setCell, World.heap_drewN, heapDrew, Nat.add_assoc, Nat.reduceAdd, List.setIfInBounds_toArray, List.set_cons_zero, List.set_cons_succ, List.cons_append, List.nil_append] at hM)
    (first | refine (areOrders_any a1 n1 c1 os _ (h1.ext hM.below)).mono ?_)
    rw [HO.out]
    rintro e wc2 ⟨rfl, hb⟩
    replace hM := hM.ext hb
    clear hb
    go_wp2_with fail
    apply Mem.atA
    · (repeat' (first | with_reducible exact hM | with_reducible exact hMp | with_reducible apply Mem.drew | with_reducible apply Mem.drewN | with_reducible apply Mem.alloc | with_reducible apply Mem.set | with_reducible exact Sto.row | ((with_reducible refine Sto.rowEq2 ?_ ?_); omega; rfl) | ((with_reducible refine Sto.rowEq ?_); omega) | with_reducible apply Sto.int | with_reducible apply Sto.there | with_reducible assumption | (unfold I64; omega) | (with_reducible (have hMx := Mem.undrew hM; exact hMx)) | (with_reducible (have hMx := Mem.undrew hMp; exact hMx))))
    clear hM
    intro wst hM
    (try simp only [World.size_alloc, World.size_setCell, World.heap_drewN, heapDrew, Nat.add_assoc, Nat.reduceAdd, List.setIfInBounds_toArray, List.set_cons_zero, List.set_cons_succ, List.cons_append, List.nil_append] at hM)
    (first | refine (isStore_any a2 n2 c2 ss _ (h2.ext hM.below)).mono ?_)
    rw [HS.out]
    rintro e wc3 ⟨rfl, hb⟩
    replace hM := hM.ext hb
    clear hb
    go_wp2
    go_ret2
    exact ⟨none, 0, rfl, by apply Mem.nilOwO; (repeat' (first | with_reducible exact hM | with_reducible exact hMp | with_reducible apply Mem.drew | with_reducible apply Mem.drewN | with_reducible apply Mem.alloc | with_reducible apply Mem.set | with_reducible exact Sto.row | ((with_reducible refine Sto.rowEq2 ?_ ?_); omega; rfl) | ((with_reducible refine Sto.rowEq ?_); omega) | with_reducible apply Sto.int | with_reducible apply Sto.there | with_reducible assumption | (unfold I64; omega) | (with_reducible (have hMx := Mem.undrew hM; exact hMx)) | (with_reducible (have hMx := Mem.undrew hMp; exact hMx))))⟩
  have hob : openB os ss = true := by rw [openB, ho, hs]; rfl
  have hol := openL_len (ss := ss) ho
  have hok := openL_ok ho hs
  have e1 : missB os ss = (putAll (openL os ss)).all fewB := by rw [missB, hob]; rfl
  have e2 : missR os ss = if (putAll (openL os ss)).all fewB then putAll (openL os ss) else [] := by rw [missR, e1]; rfl
  have HO := Lib.hid ho; have HS := Lib.hid hs
  clear ho hs hob
  obtain ⟨ol, hq⟩ : ∃ ol, openL os ss = ol := ⟨_, rfl⟩
  rw [hq] at hol hok e1 e2
  have HQ := Lib.hid hq; have HOK := Lib.hid hok
  clear hq hok
  obtain ⟨bv, hbv⟩ : ∃ b, missB os ss = b := ⟨_, rfl⟩
  obtain ⟨rv, hrv⟩ : ∃ b, missR os ss = b := ⟨_, rfl⟩
  rw [hbv] at e1 ⊢
  rw [hrv] at e2 ⊢
  have HB := Lib.hid e1; have HZ := Lib.hid e2
  clear e1 e2 hbv hrv
  obtain ⟨i0, hi, hz0, hz1, hz2⟩ := info_parts Try.info46
  go_enter Try.func29, Try.ntmps29
  go_wp2_with fail
  apply Mem.atA
  · (repeat' (first | with_reducible exact hM | with_reducible exact hMp | with_reducible apply Mem.drew | with_reducible apply Mem.drewN | with_reducible apply Mem.alloc | with_reducible apply Mem.set | with_reducible exact Sto.row | ((with_reducible refine Sto.rowEq2 ?_ ?_); omega; rfl) | ((with_reducible refine Sto.rowEq ?_); omega) | with_reducible apply Sto.int | with_reducible apply Sto.there | with_reducible assumption | (unfold I64; omega) | (with_reducible (have hMx := Mem.undrew hM; exact hMx)) | (with_reducible (have hMx := Mem.undrew hMp; exact hMx))))
  clear hM
  intro wst hM
  (try simp only [World.size_alloc, World.size_setCell, World.heap_drewN, heapDrew, Nat.add_assoc, Nat.reduceAdd, List.setIfInBounds_toArray, List.set_cons_zero, List.set_cons_succ, List.cons_append, List.nil_append] at hM)
  (first | refine (areOrders_any a1 n1 c1 os _ (h1.ext hM.below)).mono ?_)
  rw [HO.out]
  rintro e wc4 ⟨rfl, hb⟩
  replace hM := hM.ext hb
  clear hb
  go_wp2_with fail
  apply Mem.atA
  · (repeat' (first | with_reducible exact hM | with_reducible exact hMp | with_reducible apply Mem.drew | with_reducible apply Mem.drewN | with_reducible apply Mem.alloc | with_reducible apply Mem.set | with_reducible exact Sto.row | ((with_reducible refine Sto.rowEq2 ?_ ?_); omega; rfl) | ((with_reducible refine Sto.rowEq ?_); omega) | with_reducible apply Sto.int | with_reducible apply Sto.there | with_reducible assumption | (unfold I64; omega) | (with_reducible (have hMx := Mem.undrew hM; exact hMx)) | (with_reducible (have hMx := Mem.undrew hMp; exact hMx))))
  clear hM
  intro wst hM
  (try simp only [World.size_alloc, World.size_setCell, World.heap_drewN, heapDrew, Nat.add_assoc, Nat.reduceAdd, List.setIfInBounds_toArray, List.set_cons_zero, List.set_cons_succ, List.cons_append, List.nil_append] at hM)
  (first | refine (isStore_any a2 n2 c2 ss _ (h2.ext hM.below)).mono ?_)
  rw [HS.out]
  rintro e wc5 ⟨rfl, hb⟩
  replace hM := hM.ext hb
  clear hb
  go_upto_region 4 with fail
  apply Mem.atWpA
  · (repeat' (first | with_reducible exact hM | with_reducible exact hMp | with_reducible apply Mem.drew | with_reducible apply Mem.drewN | with_reducible apply Mem.alloc | with_reducible apply Mem.set | with_reducible exact Sto.row | ((with_reducible refine Sto.rowEq2 ?_ ?_); omega; rfl) | ((with_reducible refine Sto.rowEq ?_); omega) | with_reducible apply Sto.int | with_reducible apply Sto.there | with_reducible assumption | (unfold I64; omega) | (with_reducible (have hMx := Mem.undrew hM; exact hMx)) | (with_reducible (have hMx := Mem.undrew hMp; exact hMx))))
  clear hM
  intro wst hM
  (try simp only [World.size_alloc, World.size_setCell, World.heap_drewN, heapDrew, Nat.add_assoc, Nat.reduceAdd, List.setIfInBounds_toArray, List.set_cons_zero, List.set_cons_succ, List.cons_append, List.nil_append] at hM)
  replace hM := Mem.toOwR (F := FStock) hM
  go_wp2_with fail
  apply Mem.atA
  · (repeat' (first | with_reducible exact hM | with_reducible exact hMp | with_reducible apply Mem.drew | with_reducible apply Mem.drewN | with_reducible apply Mem.alloc | with_reducible apply Mem.set | with_reducible exact Sto.row | ((with_reducible refine Sto.rowEq2 ?_ ?_); omega; rfl) | ((with_reducible refine Sto.rowEq ?_); omega) | with_reducible apply Sto.int | with_reducible apply Sto.there | with_reducible assumption | (unfold I64; omega) | (with_reducible (have hMx := Mem.undrew hM; exact hMx)) | (with_reducible (have hMx := Mem.undrew hMp; exact hMx))))
  clear hM
  intro wst hM
  (try simp only [World.size_alloc, World.size_setCell, World.heap_drewN, heapDrew, Nat.add_assoc, Nat.reduceAdd, List.setIfInBounds_toArray, List.set_cons_zero, List.set_cons_succ, List.cons_append, List.nil_append] at hM)
  (first | refine (open_any a1 n1 c1 os a2 n2 c2 ss _ (h1.ext hM.below) (h2.ext hM.below) HO.out HS.out).mono ?_)
  rintro e wc6 ⟨a5, c5, rfl, hm⟩
  replace hM := hM.join hm
  clear hm
  (try simp only [World.size_alloc, World.size_setCell, World.heap_drewN, heapDrew, Nat.add_assoc, Nat.reduceAdd, List.setIfInBounds_toArray, List.set_cons_zero, List.set_cons_succ, List.cons_append, List.nil_append] at hM)
  rw [HQ.out] at hM ⊢
  replace hM := Mem.pick (is := [1, 0]) hM (by decide) rfl
  go_wp2_with fail
  go_loopw [6, 23] (fun s6 s23 wr => ∃ (k g c6 : Nat), k ≤ ol.length ∧ s23 = .int .i64 k ∧ s6 = .slice (some ⟨g, 0, none⟩) (addAll (ol.take k)).length c6 ∧ Mem w.heap.size w wr [owE FStock 46 (some ⟨g, 0, none⟩) (addAll (ol.take k)).length c6 (addAll (ol.take k)), owE FOrder 48 a5 ol.length c5 ol]) (fun _ s23 _ => ol.length - (intOf s23).toNat)
  case atStart => exact ⟨0, _, _, Nat.zero_le _, rfl, rfl, hM⟩
  case round =>
    clear hM
    obtain ⟨k, g, c6, hk, rfl, rfl, hM⟩ := hrel
    by_cases hlt : k < ol.length
    · obtain ⟨g5, rfl, -⟩ := (hM.ow (.there .here)).head (by omega)
      have hoo := HOK.out _ (getD_memO (d := OrderI.zero) hlt)
      have htk : ol.take (k + 1) = ol.take k ++ [ol.getD k OrderI.zero] := take_succV hlt
      have hadd : addAll (ol.take (k + 1)) = addK (ol.getD k OrderI.zero).kd (ol.getD k OrderI.zero).ct (addAll (ol.take k)) := by rw [htk, addAll_snoc]
      have hrow := addAll_ok _ (ol.take k) rfl (fun o h => HOK.out o (List.mem_of_mem_take h))
      have hlen : (addAll (ol.take k)).length ≤ 10 := Nat.le_trans (addAll_len _) (by rw [List.length_take]; omega)
      have htl : (ol.take k).length ≤ 10 := by rw [List.length_take]; omega
      generalize (ol.take k).length = tl at hrow htl
      obtain ⟨us, hus⟩ : ∃ us, addAll (ol.take k) = us := ⟨_, rfl⟩
      rw [hus] at hM hadd hrow hlen ⊢
      clear htk hus
      rw [addK_pl] at hadd
      obtain ⟨v, hv⟩ : ∃ v, ol.getD k OrderI.zero = v := ⟨_, rfl⟩
      rw [hv] at hadd hoo
      have HV := Lib.hid hv; have HA := Lib.hid hadd; have HR := Lib.hid hrow; have HOO := Lib.hid hoo
      clear hv hadd hrow hoo
      obtain ⟨oi, ok, oc, ou, ot⟩ := v
      have hc := (hM.ow (.there .here)).cellOrder hlt
      rw [HV.out] at hc
      obtain ⟨x0, x1, x2, x3, x4⟩ := hc
      dsimp only at x0 x1 x2 x3 x4
      have hct := HOO.out.2
      dsimp only at hct
      have ki0 : (0 : Int) ≤ (k : Int) := by omega
      have ki1 : (k : Int) < (ol.length : Int) := by omega
      have hwk : ok.length ≤ maxLen := ((hM.ow (.there .here)).rd.wf _ (getD_memO (d := OrderI.zero) hlt) |> fun h => by rw [HV.out] at h; exact h.2.1)
      go_upto_region 7 with fail
      apply Mem.atWpA
      · (repeat' (first | with_reducible exact hM | with_reducible exact hMp | with_reducible apply Mem.drew | with_reducible apply Mem.drewN | with_reducible apply Mem.alloc | with_reducible apply Mem.set | with_reducible exact Sto.row | ((with_reducible refine Sto.rowEq2 ?_ ?_); omega; rfl) | ((with_reducible refine Sto.rowEq ?_); omega) | with_reducible apply Sto.int | with_reducible apply Sto.there | with_reducible assumption | (unfold I64; omega) | (with_reducible (have hMx := Mem.undrew hM; exact hMx)) | (with_reducible (have hMx := Mem.undrew hMp; exact hMx))))
      clear hM
      intro wst hM
      (try simp only [World.size_alloc, World.size_setCell, World.heap_drewN, heapDrew, Nat.add_assoc, Nat.reduceAdd, List.setIfInBounds_toArray, List.set_cons_zero, List.set_cons_succ, List.cons_append, List.nil_append] at hM)
      clear x0 x1 x2 x3 x4
      go_wp2_with fail
      apply Mem.atA
      · (repeat' (first | with_reducible exact hM | with_reducible exact hMp | with_reducible apply Mem.drew | with_reducible apply Mem.drewN | with_reducible apply Mem.alloc | with_reducible apply Mem.set | with_reducible exact Sto.row | ((with_reducible refine Sto.rowEq2 ?_ ?_); omega; rfl) | ((with_reducible refine Sto.rowEq ?_); omega) | with_reducible apply Sto.int | with_reducible apply Sto.there | with_reducible assumption | (unfold I64; omega) | (with_reducible (have hMx := Mem.undrew hM; exact hMx)) | (with_reducible (have hMx := Mem.undrew hMp; exact hMx))))
      clear hM
      intro wst hM
      (try simp only [World.size_alloc, World.size_setCell, World.heap_drewN, heapDrew, Nat.add_assoc, Nat.reduceAdd, List.setIfInBounds_toArray, List.set_cons_zero, List.set_cons_succ, List.cons_append, List.nil_append] at hM)
      refine (indexStock_any 75 _ (isK ok) (some ⟨g, 0, none⟩) us.length c6 us _ (hM.ow (.there .here)).rd (enters Try.func75 (by kernel_rfl) rfl) (answers_miss ⟨oi, ok, oc, ou, ot⟩ _ us _ (hM.row .here))).mono ?_
      rintro e w3 ⟨rfl, hb⟩
      replace hM := hM.ext hb
      clear hb
      cases hh : hasK us ok
      · have hr : idxR (isK ok) us = -1 := idxR_neg hh
        rw [hr]
        have HA2 := Lib.hid (show addAll (ol.take (k + 1)) = us ++ [⟨ok, oc⟩] by rw [HA.out, hh]; rfl)
        clear hr hh
        go_upto_region 9 with fail
        apply Mem.atWpA
        · (repeat' (first | with_reducible exact hM | with_reducible exact hMp | with_reducible apply Mem.drew | with_reducible apply Mem.drewN | with_reducible apply Mem.alloc | with_reducible apply Mem.set | with_reducible exact Sto.row | ((with_reducible refine Sto.rowEq2 ?_ ?_); omega; rfl) | ((with_reducible refine Sto.rowEq ?_); omega) | with_reducible apply Sto.int | with_reducible apply Sto.there | with_reducible assumption | (unfold I64; omega) | (with_reducible (have hMx := Mem.undrew hM; exact hMx)) | (with_reducible (have hMx := Mem.undrew hMp; exact hMx))))
        clear hM
        intro wst hM
        (try simp only [World.size_alloc, World.size_setCell, World.heap_drewN, heapDrew, Nat.add_assoc, Nat.reduceAdd, List.setIfInBounds_toArray, List.set_cons_zero, List.set_cons_succ, List.cons_append, List.nil_append] at hM)
        have HYW := Lib.hid (show FStock.wf (⟨ok, 0⟩ : StockI) from ⟨hwk, by show I64 0; unfold I64; omega⟩)
        obtain ⟨k0, f0, l0⟩ := hM.row .here
        go_wp2_with (at_builtin; apply Mem.atL; (focus ((repeat' (first | with_reducible exact hM | with_reducible exact hMp | with_reducible apply Mem.drew | with_reducible apply Mem.drewN | with_reducible apply Mem.alloc | with_reducible apply Mem.set | with_reducible exact Sto.row | ((with_reducible refine Sto.rowEq2 ?_ ?_); omega; rfl) | ((with_reducible refine Sto.rowEq ?_); omega) | with_reducible apply Sto.int | with_reducible apply Sto.there | with_reducible assumption | (unfold I64; omega) | (with_reducible (have hMx := Mem.undrew hM; exact hMx)) | (with_reducible (have hMx := Mem.undrew hMp; exact hMx)))); done)); clear hM k0 f0 l0; intro hM; refine wpList_pushR (F := FStock) (⟨ok, 0⟩ : StockI) hM (fun _ => .there .here) rfl HYW.out (by decide) (by show (us.length + 1) * 2 ≤ _; omega) i0 (.agg #[.string ⟨#[]⟩, .int .i64 0]) 24 hi hz0 hz1 hz2 rfl (by omega) rfl _ _ _ Try.underlying30 rfl rfl rfl ?_)
        intro a7 c7 w7 hM
        obtain ⟨g7, rfl, -⟩ := (hM.ow (.there .here)).head (by omega)
        have HL3 := Lib.hid (show (us ++ [(⟨ok, oc⟩ : StockI)]).length = us.length + 1 by simp)
        have HST := Lib.hid (show (us ++ [(⟨ok, 0⟩ : StockI)]).set us.length ⟨ok, oc⟩ = us ++ [⟨ok, oc⟩] by rw [List.set_append_right _ _ (Nat.le_refl _), Nat.sub_self]; rfl)
        have hp1 : us.length < us.length + 1 := by omega
        have HY := Lib.hid (show (us ++ [(⟨ok, 0⟩ : StockI)]).getD us.length StockI.zero = ⟨ok, 0⟩ by rw [List.getD_eq_getElem?_getD, List.getElem?_append_right (Nat.le_refl _), Nat.sub_self]; rfl)
        have hq0 : (0 : Int) ≤ (us.length : Int) := by omega
        have hq1 : (us.length : Int) < ((us.length + 1 : Nat) : Int) := by omega
        have hq2 : (us.length : Int) < (us.length : Int) + 1 := by omega
        have hwr : IntKind.i64.wrap oc = oc := wrap_in (by omega)
        have HM3 := Lib.hid (fun w9 (h : Mem w.heap.size w w9 [rowE wr.heap.size 48 #[.int .i64 oi, .string (bsA ok), .int .i64 oc, .int .i64 ou, .int .i64 ot], owE FStock 46 (some ⟨g7, 0, none⟩) (us.length + 1) c7 (us ++ [⟨ok, 0⟩]), owE FOrder 48 (some ⟨g5, 0, none⟩) ol.length c5 ol]) => h.setStock1 hp1 oc (by unfold I64; omega) ⟨ok, 0⟩ HY.out HYW.out (.there .here))
        go_upto_region 10 with fail
        apply Mem.atWpA
        · (repeat' (first | with_reducible exact hM | with_reducible exact hMp | with_reducible apply Mem.drew | with_reducible apply Mem.drewN | with_reducible apply Mem.alloc | with_reducible apply Mem.set | with_reducible exact Sto.row | ((with_reducible refine Sto.rowEq2 ?_ ?_); omega; rfl) | ((with_reducible refine Sto.rowEq ?_); omega) | with_reducible apply Sto.int | with_reducible apply Sto.there | with_reducible assumption | (unfold I64; omega) | (with_reducible (have hMx := Mem.undrew hM; exact hMx)) | (with_reducible (have hMx := Mem.undrew hMp; exact hMx))))
        clear hM
        intro wst hM
        (try simp only [World.size_alloc, World.size_setCell, World.heap_drewN, heapDrew, Nat.add_assoc, Nat.reduceAdd, List.setIfInBounds_toArray, List.set_cons_zero, List.set_cons_succ, List.cons_append, List.nil_append] at hM)
        refine AtT.startA hM hM 10 (by kernel_rfl) ?_
        clear hM
        intro wd hM
        have hS := hM
        refine AtT.taked (i := 0) (v := ?_) (some 40) rfl rfl (by kernel_rfl) (by kernel_rfl) (by kernel_rfl) (by kernel_rfl) (fun _ _ _ h => h) (Or.inl ⟨by kernel_rfl, ?_⟩) hS ?_
        rotate_left
        · (intro wS hSw; (try dsimp only at hSw); go_simp; (try rw [if_neg (by omega)]); try with_reducible rfl)
        simp only [Act.put, List.setIfInBounds_toArray, List.set_cons_zero, List.set_cons_succ]
        refine AtT.taked (i := 1) (v := ?_) (some 41) rfl rfl (by kernel_rfl) (by kernel_rfl) (by kernel_rfl) (by kernel_rfl) (fun _ _ _ h => h) (Or.inl ⟨by kernel_rfl, ?_⟩) hS ?_
        rotate_left
        · (intro wS hSw; (try dsimp only at hSw); go_simp; (try rw [if_neg (by omega)]); try with_reducible rfl)
        simp only [Act.put, List.setIfInBounds_toArray, List.set_cons_zero, List.set_cons_succ]
        refine AtT.taked (i := 2) (v := ?_) (some 42) rfl rfl (by kernel_rfl) (by kernel_rfl) (by kernel_rfl) (by kernel_rfl) (fun _ _ _ h => h) (Or.inl ⟨by kernel_rfl, ?_⟩) hS ?_
        rotate_left
        · (intro wS hSw; (try dsimp only at hSw); have kr0 := (Mem.row hSw .here).cell; have r4 := ((hSw.ow (.there .here)).cellStock hp1).2; rw [HY.out] at r4; dsimp only at r4; go_simp; (try rw [if_neg (by omega)]); try with_reducible rfl)
        simp only [Act.put, List.setIfInBounds_toArray, List.set_cons_zero, List.set_cons_succ]
        refine AtT.taked (i := 3) (v := ?_) (some 43) rfl rfl (by kernel_rfl) (by kernel_rfl) (by kernel_rfl) (by kernel_rfl) (fun _ _ _ h => h) (Or.inl ⟨by kernel_rfl, ?_⟩) hS ?_
        rotate_left
        · (intro wS hSw; (try dsimp only at hSw); go_simp; (try rw [if_neg (by omega)]); try with_reducible rfl)
        simp only [Act.put, List.setIfInBounds_toArray, List.set_cons_zero, List.set_cons_succ]
        refine AtT.taked (i := 4) (v := ?_) (some 44) rfl rfl (by kernel_rfl) (by kernel_rfl) (by kernel_rfl) (by kernel_rfl) (fun _ _ _ h => h) (Or.inl ⟨by kernel_rfl, ?_⟩) hS ?_
        rotate_left
        · (intro wS hSw; (try dsimp only at hSw); have kr0 := (Mem.row hSw .here).cell; have r4 := ((hSw.ow (.there .here)).cellStock hp1).2; rw [HY.out] at r4; dsimp only at r4; go_simp; (try rw [if_neg (by omega)]); try with_reducible rfl)
        simp only [Act.put, List.setIfInBounds_toArray, List.set_cons_zero, List.set_cons_succ]
        refine AtT.taked (i := 5) (v := ?_) (some 45) rfl rfl (by kernel_rfl) (by kernel_rfl) (by kernel_rfl) (by kernel_rfl) (fun _ _ _ h => h) (Or.inl ⟨by kernel_rfl, ?_⟩) hS ?_
        rotate_left
        · (intro wS hSw; (try dsimp only at hSw); go_simp; (try rw [if_neg (by omega)]); try with_reducible rfl)
        simp only [Act.put, List.setIfInBounds_toArray, List.set_cons_zero, List.set_cons_succ]
        refine AtT.taked (i := 6) (v := ?_) (some 46) rfl rfl (by kernel_rfl) (by kernel_rfl) (by kernel_rfl) (by kernel_rfl) (fun _ _ _ h => h) (Or.inl ⟨by kernel_rfl, ?_⟩) hS ?_
        rotate_left
        · (intro wS hSw; (try dsimp only at hSw); have kr0 := (Mem.row hSw .here).cell; have r4 := ((hSw.ow (.there .here)).cellStock hp1).2; rw [HY.out] at r4; dsimp only at r4; go_simp; (try rw [if_neg (by omega)]); try with_reducible rfl)
        simp only [Act.put, List.setIfInBounds_toArray, List.set_cons_zero, List.set_cons_succ]
        refine AtT.taked (i := 7) (v := ?_) (some 47) rfl rfl (by kernel_rfl) (by kernel_rfl) (by kernel_rfl) (by kernel_rfl) (fun _ _ _ h => h) (Or.inl ⟨by kernel_rfl, ?_⟩) hS ?_
        rotate_left
        · (intro wS hSw; (try dsimp only at hSw); go_simp; (try rw [if_neg (by omega)]); try with_reducible rfl)
        simp only [Act.put, List.setIfInBounds_toArray, List.set_cons_zero, List.set_cons_succ]
        refine AtT.taked (i := 8) (v := ?_) (some 48) rfl rfl (by kernel_rfl) (by kernel_rfl) (by kernel_rfl) (by kernel_rfl) (fun _ _ _ h => h) (Or.inl ⟨by kernel_rfl, ?_⟩) hS ?_
        rotate_left
        · (intro wS hSw; (try dsimp only at hSw); have kr0 := (Mem.row hSw .here).cell; have r4 := ((hSw.ow (.there .here)).cellStock hp1).2; rw [HY.out] at r4; dsimp only at r4; go_simp; (try rw [if_neg (by omega)]); try with_reducible rfl)
        simp only [Act.put, List.setIfInBounds_toArray, List.set_cons_zero, List.set_cons_succ]
        refine AtT.taked (i := 9) (v := ?_) (some 49) rfl rfl (by kernel_rfl) (by kernel_rfl) (by kernel_rfl) (by kernel_rfl) (fun _ _ _ h => h) (Or.inl ⟨by kernel_rfl, ?_⟩) hS ?_
        rotate_left
        · (intro wS hSw; (try dsimp only at hSw); go_simp; (try rw [if_neg (by omega)]); try with_reducible rfl)
        simp only [Act.put, List.setIfInBounds_toArray, List.set_cons_zero, List.set_cons_succ]
        refine AtT.last (by kernel_rfl) rfl (by kernel_rfl) ?_
        intro K hK
        clear hS
        have kk0 := (hM.row .here).cell
        have ff0 := (hM.row .here).free
        have ll0 := (hM.row .here).lt
        have hce := ((hM.ow (.there .here)).cellStock hp1).2
        have hfe := (hM.ow (.there .here)).free
        go_simp
        clear kk0 ff0 ll0
        refine hK.out _ _ ?_
        clear hK K
        have hM2 := HM3.out _ hM
        clear hM
        go_wp2
        go_roundw
        case rel =>
          refine ⟨k + 1, g7, c7, by omega, by go_num, by rw [HA2.out, HL3.out], ?_⟩
          rw [HA2.out, HL3.out]
          exact (hM2.cast (by rw [HST.out])).tail
        case measure => first | (simp [intOf]; done) | (simp [intOf]; omega)
      · obtain ⟨hp1, hp2⟩ := hasK_pl hh
        have hr : idxR (isK ok) us = ((plK us ok : Nat) : Int) := idxR_pos hh
        rw [hr]
        have ha2 : addAll (ol.take (k + 1)) = us.set (plK us ok) ⟨ok, (us.getD (plK us ok) StockI.zero).ct + oc⟩ := by rw [HA.out, hh]; rfl
        clear hr hh
        generalize plK us ok = p at hp1 hp2 ha2
        have hro := HR.out _ (getD_memO (d := StockI.zero) hp1)
        obtain ⟨y, hy⟩ : ∃ y, us.getD p StockI.zero = y := ⟨_, rfl⟩
        rw [hy] at hp2 ha2 hro
        obtain ⟨yk, yc⟩ := y
        dsimp only at hp2 ha2
        subst hp2
        have hrb := hro.2
        dsimp only at hrb
        have HY := Lib.hid hy
        have HA2 := Lib.hid ha2
        clear hy ha2 hro
        have HL3 := Lib.hid (show (us.set p ⟨yk, yc + oc⟩).length = us.length by simp)
        have hq0 : (0 : Int) ≤ (p : Int) := by omega
        have hq1 : (p : Int) < (us.length : Int) := by omega
        have hwr : IntKind.i64.wrap (yc + oc) = yc + oc := wrap_in (by omega)
        have HYW := Lib.hid (show FStock.wf (⟨yk, yc⟩ : StockI) from ⟨hwk, by show I64 yc; unfold I64; omega⟩)
        have HST := Lib.hid (rfl : us.set p ⟨yk, yc + oc⟩ = us.set p ⟨yk, yc + oc⟩)
        have HM3 := Lib.hid (fun w9 (h : Mem w.heap.size w w9 [rowE wr.heap.size 48 #[.int .i64 oi, .string (bsA yk), .int .i64 oc, .int .i64 ou, .int .i64 ot], owE FStock 46 (some ⟨g, 0, none⟩) us.length c6 us, owE FOrder 48 (some ⟨g5, 0, none⟩) ol.length c5 ol]) => h.setStock1 hp1 (yc + oc) (by unfold I64; omega) ⟨yk, yc⟩ HY.out HYW.out (.there .here))
        go_upto_region 10 with fail
        apply Mem.atWpA
        · (repeat' (first | with_reducible exact hM | with_reducible exact hMp | with_reducible apply Mem.drew | with_reducible apply Mem.drewN | with_reducible apply Mem.alloc | with_reducible apply Mem.set | with_reducible exact Sto.row | ((with_reducible refine Sto.rowEq2 ?_ ?_); omega; rfl) | ((with_reducible refine Sto.rowEq ?_); omega) | with_reducible apply Sto.int | with_reducible apply Sto.there | with_reducible assumption | (unfold I64; omega) | (with_reducible (have hMx := Mem.undrew hM; exact hMx)) | (with_reducible (have hMx := Mem.undrew hMp; exact hMx))))
        clear hM
        intro wst hM
        (try simp only [World.size_alloc, World.size_setCell, World.heap_drewN, heapDrew, Nat.add_assoc, Nat.reduceAdd, List.setIfInBounds_toArray, List.set_cons_zero, List.set_cons_succ, List.cons_append, List.nil_append] at hM)
        refine AtT.startA hM hM 10 (by kernel_rfl) ?_
        clear hM
        intro wd hM
        have hS := hM
        refine AtT.taked (i := 0) (v := ?_) (some 40) rfl rfl (by kernel_rfl) (by kernel_rfl) (by kernel_rfl) (by kernel_rfl) (fun _ _ _ h => h) (Or.inl ⟨by kernel_rfl, ?_⟩) hS ?_
        rotate_left
        · (intro wS hSw; (try dsimp only at hSw); go_simp; (try rw [if_neg (by omega)]); try with_reducible rfl)
        simp only [Act.put, List.setIfInBounds_toArray, List.set_cons_zero, List.set_cons_succ]
        refine AtT.taked (i := 1) (v := ?_) (some 41) rfl rfl (by kernel_rfl) (by kernel_rfl) (by kernel_rfl) (by kernel_rfl) (fun _ _ _ h => h) (Or.inl ⟨by kernel_rfl, ?_⟩) hS ?_
        rotate_left
        · (intro wS hSw; (try dsimp only at hSw); go_simp; (try rw [if_neg (by omega)]); try with_reducible rfl)
        simp only [Act.put, List.setIfInBounds_toArray, List.set_cons_zero, List.set_cons_succ]
        refine AtT.taked (i := 2) (v := ?_) (some 42) rfl rfl (by kernel_rfl) (by kernel_rfl) (by kernel_rfl) (by kernel_rfl) (fun _ _ _ h => h) (Or.inl ⟨by kernel_rfl, ?_⟩) hS ?_
        rotate_left
        · (intro wS hSw; (try dsimp only at hSw); have kr0 := (Mem.row hSw .here).cell; have r4 := ((hSw.ow (.there .here)).cellStock hp1).2; rw [HY.out] at r4; dsimp only at r4; go_simp; (try rw [if_neg (by omega)]); try with_reducible rfl)
        simp only [Act.put, List.setIfInBounds_toArray, List.set_cons_zero, List.set_cons_succ]
        refine AtT.taked (i := 3) (v := ?_) (some 43) rfl rfl (by kernel_rfl) (by kernel_rfl) (by kernel_rfl) (by kernel_rfl) (fun _ _ _ h => h) (Or.inl ⟨by kernel_rfl, ?_⟩) hS ?_
        rotate_left
        · (intro wS hSw; (try dsimp only at hSw); go_simp; (try rw [if_neg (by omega)]); try with_reducible rfl)
        simp only [Act.put, List.setIfInBounds_toArray, List.set_cons_zero, List.set_cons_succ]
        refine AtT.taked (i := 4) (v := ?_) (some 44) rfl rfl (by kernel_rfl) (by kernel_rfl) (by kernel_rfl) (by kernel_rfl) (fun _ _ _ h => h) (Or.inl ⟨by kernel_rfl, ?_⟩) hS ?_
        rotate_left
        · (intro wS hSw; (try dsimp only at hSw); have kr0 := (Mem.row hSw .here).cell; have r4 := ((hSw.ow (.there .here)).cellStock hp1).2; rw [HY.out] at r4; dsimp only at r4; go_simp; (try rw [if_neg (by omega)]); try with_reducible rfl)
        simp only [Act.put, List.setIfInBounds_toArray, List.set_cons_zero, List.set_cons_succ]
        refine AtT.taked (i := 5) (v := ?_) (some 45) rfl rfl (by kernel_rfl) (by kernel_rfl) (by kernel_rfl) (by kernel_rfl) (fun _ _ _ h => h) (Or.inl ⟨by kernel_rfl, ?_⟩) hS ?_
        rotate_left
        · (intro wS hSw; (try dsimp only at hSw); go_simp; (try rw [if_neg (by omega)]); try with_reducible rfl)
        simp only [Act.put, List.setIfInBounds_toArray, List.set_cons_zero, List.set_cons_succ]
        refine AtT.taked (i := 6) (v := ?_) (some 46) rfl rfl (by kernel_rfl) (by kernel_rfl) (by kernel_rfl) (by kernel_rfl) (fun _ _ _ h => h) (Or.inl ⟨by kernel_rfl, ?_⟩) hS ?_
        rotate_left
        · (intro wS hSw; (try dsimp only at hSw); have kr0 := (Mem.row hSw .here).cell; have r4 := ((hSw.ow (.there .here)).cellStock hp1).2; rw [HY.out] at r4; dsimp only at r4; go_simp; (try rw [if_neg (by omega)]); try with_reducible rfl)
        simp only [Act.put, List.setIfInBounds_toArray, List.set_cons_zero, List.set_cons_succ]
        refine AtT.taked (i := 7) (v := ?_) (some 47) rfl rfl (by kernel_rfl) (by kernel_rfl) (by kernel_rfl) (by kernel_rfl) (fun _ _ _ h => h) (Or.inl ⟨by kernel_rfl, ?_⟩) hS ?_
        rotate_left
        · (intro wS hSw; (try dsimp only at hSw); go_simp; (try rw [if_neg (by omega)]); try with_reducible rfl)
        simp only [Act.put, List.setIfInBounds_toArray, List.set_cons_zero, List.set_cons_succ]
        refine AtT.taked (i := 8) (v := ?_) (some 48) rfl rfl (by kernel_rfl) (by kernel_rfl) (by kernel_rfl) (by kernel_rfl) (fun _ _ _ h => h) (Or.inl ⟨by kernel_rfl, ?_⟩) hS ?_
        rotate_left
        · (intro wS hSw; (try dsimp only at hSw); have kr0 := (Mem.row hSw .here).cell; have r4 := ((hSw.ow (.there .here)).cellStock hp1).2; rw [HY.out] at r4; dsimp only at r4; go_simp; (try rw [if_neg (by omega)]); try with_reducible rfl)
        simp only [Act.put, List.setIfInBounds_toArray, List.set_cons_zero, List.set_cons_succ]
        refine AtT.taked (i := 9) (v := ?_) (some 49) rfl rfl (by kernel_rfl) (by kernel_rfl) (by kernel_rfl) (by kernel_rfl) (fun _ _ _ h => h) (Or.inl ⟨by kernel_rfl, ?_⟩) hS ?_
        rotate_left
        · (intro wS hSw; (try dsimp only at hSw); go_simp; (try rw [if_neg (by omega)]); try with_reducible rfl)
        simp only [Act.put, List.setIfInBounds_toArray, List.set_cons_zero, List.set_cons_succ]
        refine AtT.last (by kernel_rfl) rfl (by kernel_rfl) ?_
        intro K hK
        clear hS
        have kk0 := (hM.row .here).cell
        have ff0 := (hM.row .here).free
        have ll0 := (hM.row .here).lt
        have hce := ((hM.ow (.there .here)).cellStock hp1).2
        have hfe := (hM.ow (.there .here)).free
        go_simp
        clear kk0 ff0 ll0
        refine hK.out _ _ ?_
        clear hK K
        have hM2 := HM3.out _ hM
        clear hM
        go_wp2
        go_roundw
        case rel =>
          refine ⟨k + 1, g, c6, by omega, by go_num, by rw [HA2.out, HL3.out], ?_⟩
          rw [HA2.out, HL3.out]
          exact hM2.tail
        case measure => first | (simp [intOf]; done) | (simp [intOf]; omega)
    · obtain rfl : k = ol.length := by omega
      rw [List.take_length] at hM ⊢
      have hal := addAll_len ol
      obtain ⟨us, hus⟩ : ∃ us, addAll ol = us := ⟨_, rfl⟩
      have hsrt := (all_facts ol).2.2.2
      rw [hus] at hM hsrt hal ⊢
      have HSR := Lib.hid hsrt; clear hsrt
      go_wp2_with fail
      refine (sortStock_any w.heap.size w _ g us.length c6 us 77 _ ltK _ hM (by omega) (enters Try.func77 (by kernel_rfl) rfl) (compares_miss _ _ _ _)).mono ?_
      rintro e w3 ⟨rfl, hm⟩
      replace hM := hm
      clear hm
      rw [HSR.out] at hM
      have hul : us.length = (putAll ol).length := by rw [← HSR.out, isortG_length]
      rw [hul] at hM ⊢
      clear hul hus
      obtain ⟨us2, hus2⟩ : ∃ u, putAll ol = u := ⟨_, rfl⟩
      have hbv := HB.out
      have hrv := HZ.out
      rw [hus2] at hM hbv hrv ⊢
      clear hus2
      have HB2 := Lib.hid hbv; have HZ2 := Lib.hid hrv
      clear hbv hrv
      go_wp2_with fail
      refine (allStock_any 80 _ fewB _ _ _ us2 _ (hM.ow .here).rd (enters Try.func80 (by kernel_rfl) rfl) (answers_few _ _)).mono ?_
      rintro e w3 ⟨rfl, hb⟩
      replace hM := hM.ext hb
      clear hb
      cases hf : us2.all fewB
      · obtain rfl : bv = false := by rw [HB2.out, hf]
        obtain rfl : rv = [] := by rw [HZ2.out, hf]; rfl
        clear hf
        go_wp2
        go_ret2
        exact ⟨none, 0, rfl, by apply Mem.nilOwO; exact hM.tail.tail⟩
      · obtain rfl : bv = true := by rw [HB2.out, hf]
        obtain rfl : rv = us2 := by rw [HZ2.out, hf]; rfl
        clear hf
        go_wp2
        go_ret2
        exact ⟨_, _, rfl, hM.first⟩
end Go.Proofs.Ytfnaenekdenmkaa
