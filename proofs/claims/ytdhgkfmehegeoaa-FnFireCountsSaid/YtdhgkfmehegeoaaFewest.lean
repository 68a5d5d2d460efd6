import Derived.Test.YtdhgkfmehegeoaaLargestS
namespace Go.Proofs.Ytdhgkfmehegeoaa
set_option linter.unusedSimpArgs false
set_option linter.unusedVariables false
open Go.RowKit

/-- the hectares of the first m of the largest fires -/
def prefH (xs : List FireI) (m : Nat) : Int := (((largeL xs).take m).map (hAt xs)).sum
theorem idxL_map (xs : List FireI) : (idxL xs.length).map (hAt xs) = xs.map FireI.hect := by
  apply List.ext_getElem?
  intro i
  by_cases hi : i < xs.length
  · simp [idxL, hi, hAt, List.getD]
  · simp [idxL, hi]
theorem prefH_all (xs : List FireI) : prefH xs xs.length = sumH xs := by
  rw [prefH, List.take_of_length_le (by rw [largeL_length]; exact Nat.le_refl _), largeL, outS_sum, idxL_map]
  rfl
theorem prefH_succ {xs : List FireI} {k : Nat} (hk : k < xs.length) : prefH xs (k + 1) = prefH xs k + hAt xs ((largeL xs).getD k 0) := by
  rw [prefH, take_succ' (by rw [largeL_length]; exact hk)]
  simp [prefH]
theorem hAt_bound {xs : List FireI} (h : ∀ x ∈ xs, fireB x = true) {i : Int} (h0 : 0 ≤ i) (h1 : i < xs.length) : 0 ≤ hAt xs i ∧ hAt xs i ≤ 100000 := by
  have hi : i.toNat < xs.length := by omega
  refine (fireB_true (h _ ?_)).2.2.1
  rw [List.getD_eq_getElem?_getD, List.getElem?_eq_getElem hi]
  exact List.getElem_mem _
theorem prefH_bound {xs : List FireI} (h : ∀ x ∈ xs, fireB x = true) : ∀ {m : Nat}, m ≤ xs.length → 0 ≤ prefH xs m ∧ prefH xs m ≤ 100000 * m
  | 0, _ => by simp [prefH]
  | m + 1, hm => by
    have h1 := prefH_bound h (m := m) (by omega)
    have h2 := outS_mem (gtH xs) xs.length _ (getD_mem (xs := largeL xs) (k := m) (by rw [largeL_length]; omega))
    have h3 := hAt_bound h h2.1 h2.2
    rw [prefH_succ (by omega)]
    omega
def enoughB (xs : List FireI) (p : Int) (m : Nat) : Bool := decide (p * sumH xs ≤ 100 * prefH xs m)
/-- the fewest fires with so many percent -/
def fewN (xs : List FireI) (p : Int) : Nat := (List.range (xs.length + 1)).findIdx (enoughB xs p)
theorem fewN_at {xs : List FireI} {p : Int} {m : Nat} (hm : m ≤ xs.length) (h0 : ∀ i, i < m → enoughB xs p i = false) (h1 : enoughB xs p m = true) : fewN xs p = m := by
  rw [fewN, List.findIdx_eq (by simp; omega)]
  refine ⟨by simpa using h1, fun j hj => ?_⟩
  have := h0 j hj
  simpa using this
theorem few_more {xs : List FireI} {p : Int} {m : Nat} (h : ∀ x ∈ xs, fireB x = true) (hp : p ≤ 100) (hm : m ≤ xs.length) (h1 : enoughB xs p m = false) : m < xs.length := by
  rcases Nat.lt_or_ge m xs.length with hl | hl
  · exact hl
  · obtain rfl : m = xs.length := by omega
    have hb := (sumH_bound h).1
    simp only [enoughB, decide_eq_false_iff_not, prefH_all] at h1
    exact absurd (Int.mul_le_mul_of_nonneg_right hp hb) h1
structure Few where
  n : Int
  ok : Bool
def fewestR (xs : List FireI) (p : Int) : Few := if seasonB xs && inB p 0 100 then ⟨(fewN xs p : Nat), true⟩ else ⟨0, false⟩

set_option maxRecDepth 100000 in
set_option maxHeartbeats 4000000 in
theorem implFewest_any (a : Option Addr) (n c : Nat) (xs : List FireI) (p : Int) (w : World) (h : Rd FFire w a n c xs) (_hp : I64 p) :
    Calls Try.prog 48 #[.slice a n c, .int .i64 p] w fun e w' => e = .returned (.tuple #[.int .i64 (fewestR xs p).n, .bool (fewestR xs p).ok]) ∧ Below w.heap.size w w' := by
  have hn := h.cap
  have hc := h.nroom
  have HL := Lib.hid h.len
  have hM := Mem.start w
  cases hs : seasonB xs
  · have HF := Lib.hid (show fewestR xs p = ⟨0, false⟩ by simp [fewestR, hs])
    go_enter Try.func48, Try.ntmps48
    go_wp2_with fail
    apply Mem.at
    · (repeat' (first | with_reducible exact hM | with_reducible exact hMp | with_reducible apply Mem.drew | with_reducible apply Mem.drewN | with_reducible apply Mem.alloc | with_reducible apply Mem.set | with_reducible exact Sto.row | ((with_reducible refine Sto.rowEq2 ?_ ?_); omega; rfl) | ((with_reducible refine Sto.rowEq ?_); omega) | with_reducible apply Sto.int | with_reducible apply Sto.there | with_reducible assumption | (unfold I64; omega) | (with_reducible (have hMx := Mem.undrew hM; exact hMx)) | (with_reducible (have hMx := Mem.undrew hMp; exact hMx))))
    clear hM
    intro hM
    (try simp only [World.size_alloc, World.size_setCell, World.heap_drewN, heapDrew, Nat.add_assoc, Nat.reduceAdd, List.setIfInBounds_toArray, List.set_cons_zero, List.set_cons_succ, List.cons_append, List.nil_append] at hM)
    refine (isSeason_any a n c xs _ (h.ext hM.below)).mono ?_
    rw [hs]
    rintro e w1 ⟨rfl, hb⟩
    replace hM := hM.ext hb
    clear hb
    go_wp2
    go_ret2
    exact ⟨by rw [HF.out]; rfl, (by apply Mem.below; (repeat' (first | with_reducible exact hM | with_reducible exact hMp | with_reducible apply Mem.drew | with_reducible apply Mem.drewN | with_reducible apply Mem.alloc | with_reducible apply Mem.set | with_reducible exact Sto.row | ((with_reducible refine Sto.rowEq2 ?_ ?_); omega; rfl) | ((with_reducible refine Sto.rowEq ?_); omega) | with_reducible apply Sto.int | with_reducible apply Sto.there | with_reducible assumption | (unfold I64; omega) | (with_reducible (have hMx := Mem.undrew hM; exact hMx)) | (with_reducible (have hMx := Mem.undrew hMp; exact hMx)))))⟩
  cases hp : inB p 0 100
  · have HF := Lib.hid (show fewestR xs p = ⟨0, false⟩ by simp [fewestR, hp])
    go_enter Try.func48, Try.ntmps48
    go_wp2_with fail
    apply Mem.at
    · (repeat' (first | with_reducible exact hM | with_reducible exact hMp | with_reducible apply Mem.drew | with_reducible apply Mem.drewN | with_reducible apply Mem.alloc | with_reducible apply Mem.set | with_reducible exact Sto.row | ((with_reducible refine Sto.rowEq2 ?_ ?_); omega; rfl) | ((with_reducible refine Sto.rowEq ?_); omega) | with_reducible apply Sto.int | with_reducible apply Sto.there | with_reducible assumption | (unfold I64; omega) | (with_reducible (have hMx := Mem.undrew hM; exact hMx)) | (with_reducible (have hMx := Mem.undrew hMp; exact hMx))))
    clear hM
    intro hM
    (try simp only [World.size_alloc, World.size_setCell, World.heap_drewN, heapDrew, Nat.add_assoc, Nat.reduceAdd, List.setIfInBounds_toArray, List.set_cons_zero, List.set_cons_succ, List.cons_append, List.nil_append] at hM)
    refine (isSeason_any a n c xs _ (h.ext hM.below)).mono ?_
    rw [hs]
    rintro e w1 ⟨rfl, hb⟩
    replace hM := hM.ext hb
    clear hb
    go_wp2_with fail
    apply Mem.at
    · (repeat' (first | with_reducible exact hM | with_reducible exact hMp | with_reducible apply Mem.drew | with_reducible apply Mem.drewN | with_reducible apply Mem.alloc | with_reducible apply Mem.set | with_reducible exact Sto.row | ((with_reducible refine Sto.rowEq2 ?_ ?_); omega; rfl) | ((with_reducible refine Sto.rowEq ?_); omega) | with_reducible apply Sto.int | with_reducible apply Sto.there | with_reducible assumption | (unfold I64; omega) | (with_reducible (have hMx := Mem.undrew hM; exact hMx)) | (with_reducible (have hMx := Mem.undrew hMp; exact hMx))))
    clear hM
    intro hM
    (try simp only [World.size_alloc, World.size_setCell, World.heap_drewN, heapDrew, Nat.add_assoc, Nat.reduceAdd, List.setIfInBounds_toArray, List.set_cons_zero, List.set_cons_succ, List.cons_append, List.nil_append] at hM)
    refine (in_any _ _ _ _).mono ?_
    rw [hp]
    rintro e w2 ⟨rfl, rfl⟩
    go_wp2
    go_ret2
    exact ⟨by rw [HF.out]; rfl, (by apply Mem.below; (repeat' (first | with_reducible exact hM | with_reducible exact hMp | with_reducible apply Mem.drew | with_reducible apply Mem.drewN | with_reducible apply Mem.alloc | with_reducible apply Mem.set | with_reducible exact Sto.row | ((with_reducible refine Sto.rowEq2 ?_ ?_); omega; rfl) | ((with_reducible refine Sto.rowEq ?_); omega) | with_reducible apply Sto.int | with_reducible apply Sto.there | with_reducible assumption | (unfold I64; omega) | (with_reducible (have hMx := Mem.undrew hM; exact hMx)) | (with_reducible (have hMx := Mem.undrew hMp; exact hMx)))))⟩
  obtain ⟨p0, p1⟩ := inB_true hp
  obtain ⟨v15, vall⟩ := seasonB_true hs
  have hsb := sumH_filter (fun _ => true) hs
  rw [show xs.filter (fun _ => true) = xs from List.filter_eq_self.2 (by simp)] at hsb
  have HF := Lib.hid (show fewestR xs p = ⟨(fewN xs p : Nat), true⟩ by simp [fewestR, hs, hp])
  have HPB := Lib.hid (fun m (hm : m ≤ n) => prefH_bound vall (m := m) (by rw [h.len]; exact hm))
  have HMO := Lib.hid (fun m (hm : m ≤ n) he => few_more (p := p) (m := m) vall p1 (by rw [h.len]; exact hm) he)
  have HLM := Lib.hid (outS_mem (gtH xs) xs.length)
  have HHB := Lib.hid (fun i h0 h1 => hAt_bound vall (i := i) h0 h1)
  rw [h.len] at v15
  have HV := Lib.hid vall; clear vall
  obtain ⟨t, ht⟩ : ∃ t, sumH xs = t := ⟨_, rfl⟩
  rw [ht] at hsb
  obtain ⟨t0, t1⟩ := hsb
  have HEN : Hid (∀ m, enoughB xs p m = decide (p * t ≤ 100 * prefH xs m)) := fun m => by rw [enoughB, ht]
  have HT := Lib.hid ht; clear ht
  obtain ⟨u0, u1⟩ := mul_bound (a := 100) (b := 1500000) p0 p1 t0 t1
  have HS := Lib.hid hs; have HP := Lib.hid hp; clear hs hp
  go_enter Try.func48, Try.ntmps48
  go_wp2_with fail
  apply Mem.at
  · (repeat' (first | with_reducible exact hM | with_reducible exact hMp | with_reducible apply Mem.drew | with_reducible apply Mem.drewN | with_reducible apply Mem.alloc | with_reducible apply Mem.set | with_reducible exact Sto.row | ((with_reducible refine Sto.rowEq2 ?_ ?_); omega; rfl) | ((with_reducible refine Sto.rowEq ?_); omega) | with_reducible apply Sto.int | with_reducible apply Sto.there | with_reducible assumption | (unfold I64; omega) | (with_reducible (have hMx := Mem.undrew hM; exact hMx)) | (with_reducible (have hMx := Mem.undrew hMp; exact hMx))))
  clear hM
  intro hM
  (try simp only [World.size_alloc, World.size_setCell, World.heap_drewN, heapDrew, Nat.add_assoc, Nat.reduceAdd, List.setIfInBounds_toArray, List.set_cons_zero, List.set_cons_succ, List.cons_append, List.nil_append] at hM)
  refine (isSeason_any a n c xs _ (h.ext hM.below)).mono ?_
  rw [HS.out]
  rintro e w1 ⟨rfl, hb⟩
  replace hM := hM.ext hb
  clear hb
  go_wp2_with fail
  apply Mem.at
  · (repeat' (first | with_reducible exact hM | with_reducible exact hMp | with_reducible apply Mem.drew | with_reducible apply Mem.drewN | with_reducible apply Mem.alloc | with_reducible apply Mem.set | with_reducible exact Sto.row | ((with_reducible refine Sto.rowEq2 ?_ ?_); omega; rfl) | ((with_reducible refine Sto.rowEq ?_); omega) | with_reducible apply Sto.int | with_reducible apply Sto.there | with_reducible assumption | (unfold I64; omega) | (with_reducible (have hMx := Mem.undrew hM; exact hMx)) | (with_reducible (have hMx := Mem.undrew hMp; exact hMx))))
  clear hM
  intro hM
  (try simp only [World.size_alloc, World.size_setCell, World.heap_drewN, heapDrew, Nat.add_assoc, Nat.reduceAdd, List.setIfInBounds_toArray, List.set_cons_zero, List.set_cons_succ, List.cons_append, List.nil_append] at hM)
  refine (in_any _ _ _ _).mono ?_
  rw [HP.out]
  rintro e w2 ⟨rfl, rfl⟩
  go_wp2_with fail
  apply Mem.at
  · (repeat' (first | with_reducible exact hM | with_reducible exact hMp | with_reducible apply Mem.drew | with_reducible apply Mem.drewN | with_reducible apply Mem.alloc | with_reducible apply Mem.set | with_reducible exact Sto.row | ((with_reducible refine Sto.rowEq2 ?_ ?_); omega; rfl) | ((with_reducible refine Sto.rowEq ?_); omega) | with_reducible apply Sto.int | with_reducible apply Sto.there | with_reducible assumption | (unfold I64; omega) | (with_reducible (have hMx := Mem.undrew hM; exact hMx)) | (with_reducible (have hMx := Mem.undrew hMp; exact hMx))))
  clear hM
  intro hM
  (try simp only [World.size_alloc, World.size_setCell, World.heap_drewN, heapDrew, Nat.add_assoc, Nat.reduceAdd, List.setIfInBounds_toArray, List.set_cons_zero, List.set_cons_succ, List.cons_append, List.nil_append] at hM)
  refine (implLargest_any a n c xs _ (h.ext hM.below) v15).mono ?_
  rintro e w3 ⟨a', c', rfl, hm⟩
  replace hM := hM.join hm
  clear hm
  (try simp only [World.size_alloc, World.size_setCell, World.heap_drewN, heapDrew, Nat.add_assoc, Nat.reduceAdd, List.setIfInBounds_toArray, List.set_cons_zero, List.set_cons_succ, List.cons_append, List.nil_append] at hM)
  go_wp2
  go_loopw [7, 8] (fun s7 s8 wr => ∃ m : Nat, m ≤ n ∧ s8 = .int .i64 m ∧ s7 = .int .i64 (prefH xs m) ∧ (∀ i, i < m → enoughB xs p i = false) ∧ Mem w.heap.size w wr [intE a' n c' (largeL xs)]) (fun _ s8 _ => n - (intOf s8).toNat)
  case atStart => exact ⟨0, Nat.zero_le _, rfl, rfl, fun i hi => by omega, hM⟩
  case round =>
    clear hM
    obtain ⟨m, hm, rfl, rfl, hno, hM⟩ := hrel
    have HNO := Lib.hid hno; clear hno
    have hpb := HPB.out m hm
    obtain ⟨s, hs⟩ : ∃ s, prefH xs m = s := ⟨_, rfl⟩
    have hen := HEN.out m
    rw [hs] at hpb hen
    rw [hs]
    have HSS := Lib.hid hs; clear hs
    have HE := Lib.hid hen; clear hen
    obtain ⟨s0, s1⟩ := hpb
    go_wp2_with fail
    apply Mem.at
    · (repeat' (first | with_reducible exact hM | with_reducible exact hMp | with_reducible apply Mem.drew | with_reducible apply Mem.drewN | with_reducible apply Mem.alloc | with_reducible apply Mem.set | with_reducible exact Sto.row | ((with_reducible refine Sto.rowEq2 ?_ ?_); omega; rfl) | ((with_reducible refine Sto.rowEq ?_); omega) | with_reducible apply Sto.int | with_reducible apply Sto.there | with_reducible assumption | (unfold I64; omega) | (with_reducible (have hMx := Mem.undrew hM; exact hMx)) | (with_reducible (have hMx := Mem.undrew hMp; exact hMx))))
    clear hM
    intro hM
    (try simp only [World.size_alloc, World.size_setCell, World.heap_drewN, heapDrew, Nat.add_assoc, Nat.reduceAdd, List.setIfInBounds_toArray, List.set_cons_zero, List.set_cons_succ, List.cons_append, List.nil_append] at hM)
    refine (hectares_any a n c xs _ (h.ext hM.below) v15 HV.out).mono ?_
    rw [HT.out]
    rintro e w4 ⟨rfl, hb⟩
    replace hM := hM.ext hb
    clear hb
    by_cases hq : p * t ≤ 100 * s
    · have hfew : fewN xs p = m := fewN_at (by rw [HL.out]; exact hm) HNO.out (by rw [HE.out]; simpa using hq)
      have HFW := Lib.hid hfew; clear hfew
      go_wp2
      go_ret2
      exact ⟨by rw [HF.out, HFW.out]; rfl, (by apply Mem.below; (repeat' (first | with_reducible exact hM | with_reducible exact hMp | with_reducible apply Mem.drew | with_reducible apply Mem.drewN | with_reducible apply Mem.alloc | with_reducible apply Mem.set | with_reducible exact Sto.row | ((with_reducible refine Sto.rowEq2 ?_ ?_); omega; rfl) | ((with_reducible refine Sto.rowEq ?_); omega) | with_reducible apply Sto.int | with_reducible apply Sto.there | with_reducible assumption | (unfold I64; omega) | (with_reducible (have hMx := Mem.undrew hM; exact hMx)) | (with_reducible (have hMx := Mem.undrew hMp; exact hMx)))))⟩
    · have hef : enoughB xs p m = false := by rw [HE.out]; simpa using hq
      have hlt := HMO.out m hm hef
      have hlen := HL.out
      have hmem := HLM.out _ (getD_mem (xs := largeL xs) (k := m) (by rw [largeL_length]; exact hlt))
      have hhb := HHB.out _ hmem.1 hmem.2
      have hsu := prefH_succ hlt
      rw [hlen] at hlt hmem
      have hnx : ∀ i, i < m + 1 → enoughB xs p i = false := fun i hi => by
        by_cases e : i = m
        · subst e; exact hef
        · exact HNO.out i (by omega)
      have HNX := Lib.hid hnx; clear hnx hef hlen
      obtain ⟨y, hy⟩ : ∃ y, (largeL xs).getD m 0 = y := ⟨_, rfl⟩
      rw [hy] at hmem hhb hsu
      obtain ⟨yn, rfl⟩ : ∃ yn : Nat, y = yn := ⟨y.toNat, by omega⟩
      have hyn : yn < n := by omega
      obtain ⟨bb, off, rfl, -⟩ := h.at' _ hyn
      obtain ⟨yv, hyv⟩ : ∃ yv, hAt xs yn = yv := ⟨_, rfl⟩
      have hcy : w4.cell? ⟨bb, off + yn * 4 + 2, none⟩ = some (.int .i64 yv) := by
        rw [← hyv]; exact ((h.ext hM.below).cellFire hyn).2.2.2.1
      rw [hyv] at hhb hsu
      rw [HSS.out] at hsu
      have HSU := Lib.hid hsu; clear hsu
      obtain ⟨g, rfl, -⟩ := (hM.ints .here).head (by omega)
      have hco : w4.cell? ⟨g, m, none⟩ = some (.int .i64 yn) := by rw [← hy]; exact (hM.ints .here).cellAt hlt
      have a0 : (0 : Int) ≤ (m : Int) := by omega
      have a1 : (m : Int) < (n : Int) := by omega
      have b0 : (0 : Int) ≤ (yn : Int) := by omega
      have b1 : (yn : Int) < (n : Int) := by omega
      obtain ⟨z0, z1⟩ := hhb
      clear hy hyv hmem
      go_wp2
      go_roundw
      case rel => exact ⟨m + 1, by omega, by go_num, by rw [HSU.out], HNX.out, hM⟩
      case measure => simp [intOf]; omega

set_option maxRecDepth 100000 in
set_option maxHeartbeats 4000000 in
theorem specFewest_any (a : Option Addr) (n c : Nat) (xs : List FireI) (p : Int) (w : World) (h : Rd FFire w a n c xs) (_hp : I64 p) :
    Calls Try.prog 49 #[.slice a n c, .int .i64 p] w fun e w' => e = .returned (.tuple #[.int .i64 (fewestR xs p).n, .bool (fewestR xs p).ok]) ∧ Below w.heap.size w w' := by
  have hn := h.cap
  have hc := h.nroom
  have HL := Lib.hid h.len
  have hM := Mem.start w
  cases hs : seasonB xs
  · have HF := Lib.hid (show fewestR xs p = ⟨0, false⟩ by simp [fewestR, hs])
    go_enter Try.func49, Try.ntmps49
    go_wp2_with fail
    apply Mem.at
    · (repeat' (first | with_reducible exact hM | with_reducible exact hMp | with_reducible apply Mem.drew | with_reducible apply Mem.drewN | with_reducible apply Mem.alloc | with_reducible apply Mem.set | with_reducible exact Sto.row | ((with_reducible refine Sto.rowEq2 ?_ ?_); omega; rfl) | ((with_reducible refine Sto.rowEq ?_); omega) | with_reducible apply Sto.int | with_reducible apply Sto.there | with_reducible assumption | (unfold I64; omega) | (with_reducible (have hMx := Mem.undrew hM; exact hMx)) | (with_reducible (have hMx := Mem.undrew hMp; exact hMx))))
    clear hM
    intro hM
    (try simp only [World.size_alloc, World.size_setCell, World.heap_drewN, heapDrew, Nat.add_assoc, Nat.reduceAdd, List.setIfInBounds_toArray, List.set_cons_zero, List.set_cons_succ, List.cons_append, List.nil_append] at hM)
    refine (l26Good_any a n c xs _ (h.ext hM.below)).mono ?_
    rw [hs]
    rintro e w1 ⟨rfl, hb⟩
    replace hM := hM.ext hb
    clear hb
    go_wp2
    go_ret2
    exact ⟨by rw [HF.out]; rfl, (by apply Mem.below; (repeat' (first | with_reducible exact hM | with_reducible exact hMp | with_reducible apply Mem.drew | with_reducible apply Mem.drewN | with_reducible apply Mem.alloc | with_reducible apply Mem.set | with_reducible exact Sto.row | ((with_reducible refine Sto.rowEq2 ?_ ?_); omega; rfl) | ((with_reducible refine Sto.rowEq ?_); omega) | with_reducible apply Sto.int | with_reducible apply Sto.there | with_reducible assumption | (unfold I64; omega) | (with_reducible (have hMx := Mem.undrew hM; exact hMx)) | (with_reducible (have hMx := Mem.undrew hMp; exact hMx)))))⟩
  cases hp : inB p 0 100
  · have HF := Lib.hid (show fewestR xs p = ⟨0, false⟩ by simp [fewestR, hp])
    go_enter Try.func49, Try.ntmps49
    go_wp2_with fail
    apply Mem.at
    · (repeat' (first | with_reducible exact hM | with_reducible exact hMp | with_reducible apply Mem.drew | with_reducible apply Mem.drewN | with_reducible apply Mem.alloc | with_reducible apply Mem.set | with_reducible exact Sto.row | ((with_reducible refine Sto.rowEq2 ?_ ?_); omega; rfl) | ((with_reducible refine Sto.rowEq ?_); omega) | with_reducible apply Sto.int | with_reducible apply Sto.there | with_reducible assumption | (unfold I64; omega) | (with_reducible (have hMx := Mem.undrew hM; exact hMx)) | (with_reducible (have hMx := Mem.undrew hMp; exact hMx))))
    clear hM
    intro hM
    (try simp only [World.size_alloc, World.size_setCell, World.heap_drewN, heapDrew, Nat.add_assoc, Nat.reduceAdd, List.setIfInBounds_toArray, List.set_cons_zero, List.set_cons_succ, List.cons_append, List.nil_append] at hM)
    refine (l26Good_any a n c xs _ (h.ext hM.below)).mono ?_
    rw [hs]
    rintro e w1 ⟨rfl, hb⟩
    replace hM := hM.ext hb
    clear hb
    go_wp2_with fail
    apply Mem.at
    · (repeat' (first | with_reducible exact hM | with_reducible exact hMp | with_reducible apply Mem.drew | with_reducible apply Mem.drewN | with_reducible apply Mem.alloc | with_reducible apply Mem.set | with_reducible exact Sto.row | ((with_reducible refine Sto.rowEq2 ?_ ?_); omega; rfl) | ((with_reducible refine Sto.rowEq ?_); omega) | with_reducible apply Sto.int | with_reducible apply Sto.there | with_reducible assumption | (unfold I64; omega) | (with_reducible (have hMx := Mem.undrew hM; exact hMx)) | (with_reducible (have hMx := Mem.undrew hMp; exact hMx))))
    clear hM
    intro hM
    (try simp only [World.size_alloc, World.size_setCell, World.heap_drewN, heapDrew, Nat.add_assoc, Nat.reduceAdd, List.setIfInBounds_toArray, List.set_cons_zero, List.set_cons_succ, List.cons_append, List.nil_append] at hM)
    refine (l1In_any _ _ _ _).mono ?_
    rw [hp]
    rintro e w2 ⟨rfl, rfl⟩
    go_wp2
    go_ret2
    exact ⟨by rw [HF.out]; rfl, (by apply Mem.below; (repeat' (first | with_reducible exact hM | with_reducible exact hMp | with_reducible apply Mem.drew | with_reducible apply Mem.drewN | with_reducible apply Mem.alloc | with_reducible apply Mem.set | with_reducible exact Sto.row | ((with_reducible refine Sto.rowEq2 ?_ ?_); omega; rfl) | ((with_reducible refine Sto.rowEq ?_); omega) | with_reducible apply Sto.int | with_reducible apply Sto.there | with_reducible assumption | (unfold I64; omega) | (with_reducible (have hMx := Mem.undrew hM; exact hMx)) | (with_reducible (have hMx := Mem.undrew hMp; exact hMx)))))⟩
  obtain ⟨p0, p1⟩ := inB_true hp
  obtain ⟨v15, vall⟩ := seasonB_true hs
  have hsb := sumH_filter (fun _ => true) hs
  rw [show xs.filter (fun _ => true) = xs from List.filter_eq_self.2 (by simp)] at hsb
  have HF := Lib.hid (show fewestR xs p = ⟨(fewN xs p : Nat), true⟩ by simp [fewestR, hs, hp])
  have HPB := Lib.hid (fun m (hm : m ≤ n) => prefH_bound vall (m := m) (by rw [h.len]; exact hm))
  have HMO := Lib.hid (fun m (hm : m ≤ n) he => few_more (p := p) (m := m) vall p1 (by rw [h.len]; exact hm) he)
  have HLM := Lib.hid (outS_mem (gtH xs) xs.length)
  have HHB := Lib.hid (fun i h0 h1 => hAt_bound vall (i := i) h0 h1)
  rw [h.len] at v15
  have HV := Lib.hid vall; clear vall
  obtain ⟨t, ht⟩ : ∃ t, sumH xs = t := ⟨_, rfl⟩
  rw [ht] at hsb
  obtain ⟨t0, t1⟩ := hsb
  have HEN : Hid (∀ m, enoughB xs p m = decide (p * t ≤ 100 * prefH xs m)) := fun m => by rw [enoughB, ht]
  have HT := Lib.hid ht; clear ht
  obtain ⟨u0, u1⟩ := mul_bound (a := 100) (b := 1500000) p0 p1 t0 t1
  have HS := Lib.hid hs; have HP := Lib.hid hp; clear hs hp
  go_enter Try.func49, Try.ntmps49
  go_wp2_with fail
  apply Mem.at
  · (repeat' (first | with_reducible exact hM | with_reducible exact hMp | with_reducible apply Mem.drew | with_reducible apply Mem.drewN | with_reducible apply Mem.alloc | with_reducible apply Mem.set | with_reducible exact Sto.row | ((with_reducible refine Sto.rowEq2 ?_ ?_); omega; rfl) | ((with_reducible refine Sto.rowEq ?_); omega) | with_reducible apply Sto.int | with_reducible apply Sto.there | with_reducible assumption | (unfold I64; omega) | (with_reducible (have hMx := Mem.undrew hM; exact hMx)) | (with_reducible (have hMx := Mem.undrew hMp; exact hMx))))
  clear hM
  intro hM
  (try simp only [World.size_alloc, World.size_setCell, World.heap_drewN, heapDrew, Nat.add_assoc, Nat.reduceAdd, List.setIfInBounds_toArray, List.set_cons_zero, List.set_cons_succ, List.cons_append, List.nil_append] at hM)
  refine (l26Good_any a n c xs _ (h.ext hM.below)).mono ?_
  rw [HS.out]
  rintro e w1 ⟨rfl, hb⟩
  replace hM := hM.ext hb
  clear hb
  go_wp2_with fail
  apply Mem.at
  · (repeat' (first | with_reducible exact hM | with_reducible exact hMp | with_reducible apply Mem.drew | with_reducible apply Mem.drewN | with_reducible apply Mem.alloc | with_reducible apply Mem.set | with_reducible exact Sto.row | ((with_reducible refine Sto.rowEq2 ?_ ?_); omega; rfl) | ((with_reducible refine Sto.rowEq ?_); omega) | with_reducible apply Sto.int | with_reducible apply Sto.there | with_reducible assumption | (unfold I64; omega) | (with_reducible (have hMx := Mem.undrew hM; exact hMx)) | (with_reducible (have hMx := Mem.undrew hMp; exact hMx))))
  clear hM
  intro hM
  (try simp only [World.size_alloc, World.size_setCell, World.heap_drewN, heapDrew, Nat.add_assoc, Nat.reduceAdd, List.setIfInBounds_toArray, List.set_cons_zero, List.set_cons_succ, List.cons_append, List.nil_append] at hM)
  refine (l1In_any _ _ _ _).mono ?_
  rw [HP.out]
  rintro e w2 ⟨rfl, rfl⟩
  go_wp2_with fail
  apply Mem.at
  · (repeat' (first | with_reducible exact hM | with_reducible exact hMp | with_reducible apply Mem.drew | with_reducible apply Mem.drewN | with_reducible apply Mem.alloc | with_reducible apply Mem.set | with_reducible exact Sto.row | ((with_reducible refine Sto.rowEq2 ?_ ?_); omega; rfl) | ((with_reducible refine Sto.rowEq ?_); omega) | with_reducible apply Sto.int | with_reducible apply Sto.there | with_reducible assumption | (unfold I64; omega) | (with_reducible (have hMx := Mem.undrew hM; exact hMx)) | (with_reducible (have hMx := Mem.undrew hMp; exact hMx))))
  clear hM
  intro hM
  (try simp only [World.size_alloc, World.size_setCell, World.heap_drewN, heapDrew, Nat.add_assoc, Nat.reduceAdd, List.setIfInBounds_toArray, List.set_cons_zero, List.set_cons_succ, List.cons_append, List.nil_append] at hM)
  refine (specLargest_any a n c xs _ (h.ext hM.below) v15).mono ?_
  rintro e w3 ⟨a', c', rfl, hm⟩
  replace hM := hM.join hm
  clear hm
  (try simp only [World.size_alloc, World.size_setCell, World.heap_drewN, heapDrew, Nat.add_assoc, Nat.reduceAdd, List.setIfInBounds_toArray, List.set_cons_zero, List.set_cons_succ, List.cons_append, List.nil_append] at hM)
  go_wp2
  go_loopw [7, 8] (fun s7 s8 wr => ∃ m : Nat, m ≤ n ∧ s8 = .int .i64 m ∧ s7 = .int .i64 (prefH xs m) ∧ (∀ i, i < m → enoughB xs p i = false) ∧ Mem w.heap.size w wr [intE a' n c' (largeL xs)]) (fun _ s8 _ => n - (intOf s8).toNat)
  case atStart => exact ⟨0, Nat.zero_le _, rfl, rfl, fun i hi => by omega, hM⟩
  case round =>
    clear hM
    obtain ⟨m, hm, rfl, rfl, hno, hM⟩ := hrel
    have HNO := Lib.hid hno; clear hno
    have hpb := HPB.out m hm
    obtain ⟨s, hs⟩ : ∃ s, prefH xs m = s := ⟨_, rfl⟩
    have hen := HEN.out m
    rw [hs] at hpb hen
    rw [hs]
    have HSS := Lib.hid hs; clear hs
    have HE := Lib.hid hen; clear hen
    obtain ⟨s0, s1⟩ := hpb
    go_wp2_with fail
    apply Mem.at
    · (repeat' (first | with_reducible exact hM | with_reducible exact hMp | with_reducible apply Mem.drew | with_reducible apply Mem.drewN | with_reducible apply Mem.alloc | with_reducible apply Mem.set | with_reducible exact Sto.row | ((with_reducible refine Sto.rowEq2 ?_ ?_); omega; rfl) | ((with_reducible refine Sto.rowEq ?_); omega) | with_reducible apply Sto.int | with_reducible apply Sto.there | with_reducible assumption | (unfold I64; omega) | (with_reducible (have hMx := Mem.undrew hM; exact hMx)) | (with_reducible (have hMx := Mem.undrew hMp; exact hMx))))
    clear hM
    intro hM
    (try simp only [World.size_alloc, World.size_setCell, World.heap_drewN, heapDrew, Nat.add_assoc, Nat.reduceAdd, List.setIfInBounds_toArray, List.set_cons_zero, List.set_cons_succ, List.cons_append, List.nil_append] at hM)
    refine (l26Sum_any a n c xs _ (h.ext hM.below) v15 HV.out).mono ?_
    rw [HT.out]
    rintro e w4 ⟨rfl, rfl⟩
    skip
    skip
    by_cases hq : p * t ≤ 100 * s
    · have hfew : fewN xs p = m := fewN_at (by rw [HL.out]; exact hm) HNO.out (by rw [HE.out]; simpa using hq)
      have HFW := Lib.hid hfew; clear hfew
      go_wp2
      go_ret2
      exact ⟨by rw [HF.out, HFW.out]; rfl, (by apply Mem.below; (repeat' (first | with_reducible exact hM | with_reducible exact hMp | with_reducible apply Mem.drew | with_reducible apply Mem.drewN | with_reducible apply Mem.alloc | with_reducible apply Mem.set | with_reducible exact Sto.row | ((with_reducible refine Sto.rowEq2 ?_ ?_); omega; rfl) | ((with_reducible refine Sto.rowEq ?_); omega) | with_reducible apply Sto.int | with_reducible apply Sto.there | with_reducible assumption | (unfold I64; omega) | (with_reducible (have hMx := Mem.undrew hM; exact hMx)) | (with_reducible (have hMx := Mem.undrew hMp; exact hMx)))))⟩
    · have hef : enoughB xs p m = false := by rw [HE.out]; simpa using hq
      have hlt := HMO.out m hm hef
      have hlen := HL.out
      have hmem := HLM.out _ (getD_mem (xs := largeL xs) (k := m) (by rw [largeL_length]; exact hlt))
      have hhb := HHB.out _ hmem.1 hmem.2
      have hsu := prefH_succ hlt
      rw [hlen] at hlt hmem
      have hnx : ∀ i, i < m + 1 → enoughB xs p i = false := fun i hi => by
        by_cases e : i = m
        · subst e; exact hef
        · exact HNO.out i (by omega)
      have HNX := Lib.hid hnx; clear hnx hef hlen
      obtain ⟨y, hy⟩ : ∃ y, (largeL xs).getD m 0 = y := ⟨_, rfl⟩
      rw [hy] at hmem hhb hsu
      obtain ⟨yn, rfl⟩ : ∃ yn : Nat, y = yn := ⟨y.toNat, by omega⟩
      have hyn : yn < n := by omega
      obtain ⟨bb, off, rfl, -⟩ := h.at' _ hyn
      obtain ⟨yv, hyv⟩ : ∃ yv, hAt xs yn = yv := ⟨_, rfl⟩
      have hcy : wr.cell? ⟨bb, off + yn * 4 + 2, none⟩ = some (.int .i64 yv) := by
        rw [← hyv]; exact ((h.ext hM.below).cellFire hyn).2.2.2.1
      rw [hyv] at hhb hsu
      rw [HSS.out] at hsu
      have HSU := Lib.hid hsu; clear hsu
      obtain ⟨g, rfl, -⟩ := (hM.ints .here).head (by omega)
      have hco : wr.cell? ⟨g, m, none⟩ = some (.int .i64 yn) := by rw [← hy]; exact (hM.ints .here).cellAt hlt
      have a0 : (0 : Int) ≤ (m : Int) := by omega
      have a1 : (m : Int) < (n : Int) := by omega
      have b0 : (0 : Int) ≤ (yn : Int) := by omega
      have b1 : (yn : Int) < (n : Int) := by omega
      obtain ⟨z0, z1⟩ := hhb
      clear hy hyv hmem
      go_wp2
      go_roundw
      case rel => exact ⟨m + 1, by omega, by go_num, by rw [HSU.out], HNX.out, hM⟩
      case measure => simp [intOf]; omega
end Go.Proofs.Ytdhgkfmehegeoaa
