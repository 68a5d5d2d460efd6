/-
  The law on serving: what it needs, and the sum of a list.
-/
import Derived.Test.YtfnaenekdenmkaaYServQ
import Derived.Test.YtfnaenekdenmkaaYServV
import Derived.Test.YtfnaenekdenmkaaYMissR
/-
  The law on serving: what it needs, and the sum of a list.
-/
namespace Go.Proofs.Ytfnaenekdenmkaa
set_option linter.unusedSimpArgs false
set_option linter.unusedVariables false
open Go.RowKit

structure SrvF (os : List OrderI) (ss : List StockI) (gs : List Int) (lf : List StockI) (op : List OrderI) : Prop where
  on : os.length ≤ 10
  sn : ss.length ≤ 10
  pn : op.length ≤ 10
  gn : gs.length = os.length
  ln : lf.length = ss.length
  ob : ∀ x ∈ ctO os, 0 ≤ x ∧ x ≤ 100
  sb : ∀ x ∈ ctS ss, 0 ≤ x ∧ x ≤ 100
  lb : ∀ x ∈ ctS lf, 0 ≤ x ∧ x ≤ 100
  pb : ∀ x ∈ ctO op, 0 ≤ x ∧ x ≤ 100
  gb : ∀ x ∈ gs, 0 ≤ x ∧ x ≤ 100
  e1 : (ctS ss).sum - (ctS lf).sum = gs.sum
  e2 : (ctO os).sum - (ctO op).sum = gs.sum
  le : ∀ k, gs.getD k 0 ≤ (os.getD k OrderI.zero).ct
  b1 : storeB lf = true
  b2 : storeB ss = true
theorem srvF {os : List OrderI} {ss : List StockI} (h : openB os ss = true) : SrvF os ss (gotR os ss) (leftR os ss) (openR os ss) := by
  have h2 := h
  unfold openB at h2
  rw [Bool.and_eq_true] at h2
  obtain ⟨ho, hs⟩ := h2
  have c1 : gotR os ss = gotL os ss := by rw [gotR, h]; rfl
  have c2 : leftR os ss = leftL os ss := by rw [leftR, h]; rfl
  have c3 : openR os ss = openL os ss := by rw [openR, h]; rfl
  rw [c1, c2, c3]
  have hlb := leftL_store ho hs
  have stb : ∀ l : List StockI, storeB l = true → ∀ x ∈ ctS l, 0 ≤ x ∧ x ≤ 100 := fun l hl x hx => by
    obtain ⟨s, hs1, rfl⟩ := List.mem_map.1 hx
    obtain ⟨k, hk, rfl⟩ := List.getElem_of_mem hs1
    have := store_get hl hk
    unfold stockB at this
    rw [Bool.and_eq_true] at this
    have h5 := inB_true this.2
    rw [List.getD_eq_getElem?_getD, List.getElem?_eq_getElem hk] at h5
    have h6 : 0 ≤ (l[k]).ct ∧ (l[k]).ct ≤ 99 := h5
    omega
  refine ⟨ord_len ho, store_len hs, openL_len ho, gotL_length os ss, leftL_length os ss, fun x hx => ?_, stb _ hs, stb _ hlb, fun x hx => ?_, fun x hx => ?_, serve_sum os ss, openL_sum ho, gotL_le ho, hlb, hs⟩
  · obtain ⟨o, ho1, rfl⟩ := List.mem_map.1 hx
    obtain ⟨k, hk, rfl⟩ := List.getElem_of_mem ho1
    have := (orderB_true (ord_get ho hk)).2.2.1
    rw [List.getD_eq_getElem?_getD, List.getElem?_eq_getElem hk] at this
    have h6 : 1 ≤ (os[k]).ct ∧ (os[k]).ct ≤ 99 := this
    omega
  · obtain ⟨o, ho1, rfl⟩ := List.mem_map.1 hx
    have := (openL_ok ho hs o ho1).2
    omega
  · obtain ⟨k, hk, rfl⟩ := List.getElem_of_mem hx
    have := gotL_small ho hs (k := k)
    rw [List.getD_eq_getElem?_getD, List.getElem?_eq_getElem hk] at this
    have h6 : 0 ≤ (gotL os ss)[k] ∧ (gotL os ss)[k] ≤ 99 := this
    omega
theorem missF {os : List OrderI} {ss : List StockI} : (missB os ss = true → (ctS (missR os ss)).sum = (ctO (openR os ss)).sum) ∧ (missR os ss).length ≤ 10 ∧ ∀ x ∈ ctS (missR os ss), 0 ≤ x ∧ x ≤ 100 := by
  refine ⟨fun h => ?_, missR_le os ss, fun x hx => ?_⟩
  · have h1 : openB os ss = true := by unfold missB at h; rw [Bool.and_eq_true] at h; exact h.1
    have c3 : openR os ss = openL os ss := by rw [openR, h1]; rfl
    have c4 : missR os ss = kindsL os ss := by rw [missR, h]; rfl
    rw [c3, c4]
    exact putAll_sum _ _ rfl
  · cases h : missB os ss
    · have c4 : missR os ss = [] := by rw [missR, h]; rfl
      rw [c4] at hx
      cases hx
    · have c4 : missR os ss = kindsL os ss := by rw [missR, h]; rfl
      rw [c4] at hx
      have h2 := h
      unfold missB at h2
      rw [Bool.and_eq_true] at h2
      have ho := h2.1
      unfold openB at ho
      rw [Bool.and_eq_true] at ho
      obtain ⟨s, hs1, rfl⟩ := List.mem_map.1 hx
      have h3 := of_decide_eq_true (List.all_eq_true.1 h2.2 s hs1)
      have h4 := addAll_ok _ _ rfl (openL_ok ho.1 ho.2) s (putAll_mem hs1)
      have := h4.2.1
      omega
/-- how urgent the last one was -/
def lastU (os : List OrderI) : Nat → Int
  | 0 => 5
  | i + 1 => urAt os ((servL os).getD i 0)
theorem urg_facts {os : List OrderI} (h : ordersB os = true) {i : Nat} (hi : i < os.length) : ∃ q : Nat, q < os.length ∧ (servingR os).getD i 0 = (os.getD q OrderI.zero).id ∧ (∀ k, k < os.length → k ≠ q → (os.getD k OrderI.zero).id ≠ (os.getD q OrderI.zero).id) ∧ (os.getD q OrderI.zero).ur = lastU os (i + 1) ∧ lastU os (i + 1) ≤ lastU os i := by
  obtain ⟨q, hq, hqn⟩ := servL_mem (os := os) (t := i) hi
  have e2 : servingR os = (servL os).map (idAt os) := by rw [servingR, h]; rfl
  have hl := servL_length os
  refine ⟨q, hqn, ?_, fun k hk hkq e => ?_, ?_, ?_⟩
  · rw [e2, List.getD_eq_getElem?_getD, List.getElem?_map, List.getElem?_eq_getElem (by omega)]
    rw [List.getD_eq_getElem?_getD, List.getElem?_eq_getElem (by omega)] at hq
    have hq2 : (servL os)[i] = (q : Int) := hq
    show idAt os ((servL os)[i]) = _
    rw [hq2, idAt, Int.toNat_natCast]
  · rcases Nat.lt_or_gt_of_ne hkq with h1 | h1
    · have := ord_lt h q k h1 hqn; omega
    · have := ord_lt h k q h1 hk; omega
  · rw [lastU, hq, urAt, Int.toNat_natCast]
  · cases i with
    | zero =>
      have h0 : lastU os (0 + 1) = urAt os ((servL os).getD 0 0) := rfl
      rw [h0, hq, urAt, Int.toNat_natCast]
      exact (orderB_true (ord_get h hqn)).2.2.2.1.2
    | succ i => exact servL_ur hi
theorem lastU_b {os : List OrderI} (h : ordersB os = true) {i : Nat} (hi : i ≤ os.length) : 1 ≤ lastU os i ∧ lastU os i ≤ 5 := by
  cases i with
  | zero => show 1 ≤ (5 : Int) ∧ (5 : Int) ≤ 5; omega
  | succ i =>
    obtain ⟨q, hqn, -, -, e, -⟩ := urg_facts h (i := i) (by omega)
    rw [← e]
    exact (orderB_true (ord_get h hqn)).2.2.2.1
theorem servingR_len {os : List OrderI} (h : ordersB os = true) : (servingR os).length = os.length := by
  rw [servingR, h]
  show ((servL os).map _).length = _
  rw [List.length_map, servL_length]
theorem servingR_no {os : List OrderI} (h : ordersB os = false) : servingR os = [] := by rw [servingR, h]; rfl

set_option maxHeartbeats 4000000 in
theorem rSum_any (a : Option Addr) (n c : Nat) (xs : List Int) (w : World) (h : Ints w a n c xs) (hn : n ≤ 20) (hb : ∀ x ∈ xs, 0 ≤ x ∧ x ≤ 100) :
    Calls Try.prog 27 #[.slice a n c] w fun e w' => e = .returned (.int .i64 xs.sum) ∧ w = w' := by
  have HL := Lib.hid h.len
  have HB := Lib.hid (sum_bnd (B := 100) (by omega) hb)
  have HE := Lib.hid hb
  go_enter Try.func27, Try.ntmps27
  go_wp2_with fail
  go_loop [3, 4] (fun t i => ∃ j : Nat, j ≤ n ∧ i = .int .i64 j ∧ t = .int .i64 (xs.take j).sum) (fun _ i => n - (intOf i).toNat)
  case atStart => exact ⟨0, Nat.zero_le _, rfl, rfl⟩
  case round =>
    obtain ⟨j, hj, rfl, rfl⟩ := hrel
    have hs := HB.out j
    rw [HL.out] at hs
    by_cases hlt : j < n
    · obtain ⟨b, off, rfl, _, hcell⟩ := h.at' _ hlt
      have hck := hcell j hlt
      have hst := sum_take_succ (xs := xs) (k := j) (by rw [HL.out]; exact hlt)
      have he := HE.out _ (getD_mem (xs := xs) (k := j) (by rw [HL.out]; exact hlt))
      generalize xs.getD j 0 = v at hck hst he
      generalize (xs.take j).sum = s at hs hst ⊢
      have HST := Lib.hid hst
      clear hst hcell
      have hw : IntKind.i64.wrap (s + v) = s + v := wrap_in (by omega)
      go_wp2
      go_round
      case rel => exact ⟨j + 1, by omega, by go_num, by rw [HST.out]⟩
      case measure => simp [intOf]; omega
    · obtain rfl : j = n := by omega
      have e : (xs.take j).sum = xs.sum := by rw [List.take_of_length_le (by rw [HL.out]; exact Nat.le_refl _)]
      rw [e]
      go_wp2
      go_ret
      exact ⟨rfl, rfl⟩
end Go.Proofs.Ytfnaenekdenmkaa
