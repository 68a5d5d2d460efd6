/-
  Stores: the place of a kind, a copy (the program's).
-/
import Derived.Test.YtfnaenekdenmkaaYOrdV
import Derived.Test.YtfnaenekdenmkaaYApp
/-
  Stores: the place of a kind, a copy (the program's).
-/
namespace Go.Proofs.Ytfnaenekdenmkaa
set_option linter.unusedSimpArgs false
set_option linter.unusedVariables false
open Go.RowKit

/-- what a function value answers on the records of a list -/
def AnswersStock (f : FuncId) (caps : Array Value) (p : StockI → Bool) (xs : List StockI) (w : World) : Prop :=
  ∀ v ∈ xs, ∀ w', Below w.heap.size w w' → Calls Try.prog f (#[v.val] ++ caps) w' fun o w'' => o = .returned (.bool (p v)) ∧ Below w'.heap.size w' w''
theorem AnswersStock.ext {f : FuncId} {caps : Array Value} {p : StockI → Bool} {xs : List StockI} {w w1 : World} (h : AnswersStock f caps p xs w) (hb : Below w.heap.size w w1) : AnswersStock f caps p xs w1 :=
  fun v hv w' hb' => h v hv w' (hb.trans (hb'.mono hb.size))

set_option maxRecDepth 100000 in
set_option maxHeartbeats 400000 in
theorem indexStock_any (f : FuncId) (caps : Array Value) (p : StockI → Bool) (a : Option Addr) (n c : Nat) (xs : List StockI) (w : World) (h : Rd FStock w a n c xs) (hcf : ∀ args w, (callFunc f args).run Try.prog w = .ok (.enter f args) w) (hf : AnswersStock f caps p xs w) :
    Calls Try.prog 74 #[.slice a n c, .func (.func f) #[] caps] w fun o w' => o = .returned (.int .i64 (idxR p xs)) ∧ Below w.heap.size w w' := by
  have hn := h.cap
  have hc := h.nroom
  have HL := Lib.hid h.len
  have HF := Lib.hid hf
  clear hf
  go_enter Try.func74, Try.ntmps74
  go_wp2
  go_loopw [8] (fun i wr => ∃ k : Nat, k ≤ n ∧ i = .int .i64 k ∧ (xs.take k).any p = false ∧ Below w.heap.size w wr) (fun i _ => n - (intOf i).toNat)
  case atStart => exact ⟨0, Nat.zero_le _, rfl, by simp, Below.refl _ _⟩
  case round =>
    obtain ⟨k, hk, rfl, hall, hbr⟩ := hrel
    have HA := Lib.hid hall; clear hall
    by_cases hlt : k < n
    · obtain ⟨b, off, rfl, _⟩ := (h.ext hbr).at' _ hlt
      obtain ⟨hb, hc0, hc1⟩ := (h.ext hbr).cellStock hlt
      have hkl : k < xs.length := by rw [HL.out]; exact hlt
      have hmem : xs.getD k StockI.zero ∈ xs := by rw [List.getD_eq_getElem?_getD, List.getElem?_eq_getElem hkl]; exact List.getElem_mem _
      have htk : xs.take (k + 1) = xs.take k ++ [xs.getD k StockI.zero] := take_succV hkl
      have hfi : ((xs.take k).any p = false → p (xs.getD k StockI.zero) = true → xs.findIdx p = k) := by
        intro h1 h2
        have hx : xs[k] = xs.getD k StockI.zero := by simp [List.getD, hkl]
        rw [List.findIdx_eq hkl]
        refine ⟨by rw [hx]; exact h2, fun j hj => ?_⟩
        rw [List.any_eq_false] at h1
        have := h1 (xs[j]'(by omega)) (by
          rw [List.mem_take_iff_getElem]
          exact ⟨j, by omega, rfl⟩)
        simpa using this
      have hfi2 := hfi HA.out
      clear hfi
      obtain ⟨v, hv⟩ : ∃ v, xs.getD k StockI.zero = v := ⟨_, rfl⟩
      rw [hv] at hc0 hc1 hmem htk hfi2
      have HT := Lib.hid htk
      have HFI := Lib.hid hfi2
      clear hv htk hkl hfi2
      go_wp2_with fail
      refine (HF.out v hmem _ hbr).mono ?_
      rintro o w1 ⟨rfl, hb1⟩
      have hb2 : Below w.heap.size w w1 := hbr.trans (hb1.mono hbr.size)
      cases hp : p v
      · go_wp2
        go_roundw
        case rel => exact ⟨k + 1, by omega, by go_num, by rw [HT.out, List.any_append, HA.out]; simp [hp], hb2⟩
        case measure => simp [intOf]; omega
      · go_wp2
        go_ret
        exact ⟨ri (by rw [idxR_pos (List.any_eq_true.2 ⟨v, hmem, hp⟩), HFI.out hp]), hb2⟩
    · go_wp2
      go_ret
      obtain rfl : k = n := by omega
      have hA := HA.out
      rw [List.take_of_length_le (by rw [HL.out]; exact Nat.le_refl _)] at hA
      exact ⟨ri (by rw [idxR_neg hA]), hbr⟩


set_option maxRecDepth 100000 in
set_option maxHeartbeats 4000000 in
theorem serve1_any (s : StockI) (a : Option Addr) (n c : Nat) (os : List OrderI) (i : Nat) (b1 b2 : Nat) (w : World) (h : Rd FOrder w a n c os) (hi : i < n) (hr1 : Row w b1 #[.slice a n c]) (hr2 : Row w b2 #[.int .i64 i]) :
    Calls Try.prog 121 #[s.val, .pointer (some ⟨b1, 0, none⟩), .pointer (some ⟨b2, 0, none⟩)] w fun e w' => e = .returned (.bool (s.kd == (os.getD i OrderI.zero).kd)) ∧ Below w.heap.size w w' := by
  have hn := h.cap
  have hc := h.nroom
  have hM := Mem.start w
  have BL := bsA_list
  obtain ⟨sk, sc⟩ := s
  obtain ⟨bb, off, rfl, _⟩ := h.at' _ hi
  have HR1 := Lib.hid hr1; have HR2 := Lib.hid hr2
  clear hr1 hr2
  obtain ⟨v, hv⟩ : ∃ v, (os.getD i OrderI.zero).kd = v := ⟨_, rfl⟩
  have HV := Lib.hid hv
  rw [hv]
  clear hv
  have i0 : (0 : Int) ≤ (i : Int) := by omega
  have i1 : (i : Int) < (n : Int) := by omega
  go_enter Try.func121, Try.ntmps121
  go_upto_region 1 with fail
  apply Mem.atWpA
  · (repeat' (first | with_reducible exact hM | with_reducible exact hMp | with_reducible apply Mem.drew | with_reducible apply Mem.drewN | with_reducible apply Mem.alloc | with_reducible apply Mem.set | with_reducible exact Sto.row | ((with_reducible refine Sto.rowEq2 ?_ ?_); omega; rfl) | ((with_reducible refine Sto.rowEq ?_); omega) | with_reducible apply Sto.int | with_reducible apply Sto.there | with_reducible assumption | (unfold I64; omega) | (with_reducible (have hMx := Mem.undrew hM; exact hMx)) | (with_reducible (have hMx := Mem.undrew hMp; exact hMx))))
  clear hM
  intro wst hM
  (try simp only [World.size_alloc, World.size_setCell, World.heap_drewN, heapDrew, Nat.add_assoc, Nat.reduceAdd, List.setIfInBounds_toArray, List.set_cons_zero, List.set_cons_succ, List.cons_append, List.nil_append] at hM)
  refine AtT.startA hM hM 8 (by kernel_rfl) ?_
  clear hM
  intro wd hM
  have hS := hM
  refine AtT.taked (i := 0) (v := ?_) (some 5) rfl rfl (by kernel_rfl) (by kernel_rfl) (by kernel_rfl) (by kernel_rfl) (fun _ _ _ h => h) (Or.inl ⟨by kernel_rfl, ?_⟩) hS ?_
  rotate_left
  · (intro wS hSw; (try dsimp only at hSw); go_simp; (try rw [if_neg (by omega)]); try with_reducible rfl)
  simp only [Act.put, List.setIfInBounds_toArray, List.set_cons_zero, List.set_cons_succ]
  refine AtT.taked (i := 1) (v := ?_) (some 6) rfl rfl (by kernel_rfl) (by kernel_rfl) (by kernel_rfl) (by kernel_rfl) (fun _ _ _ h => h) (Or.inl ⟨by kernel_rfl, ?_⟩) hS ?_
  rotate_left
  · (intro wS hSw; (try dsimp only at hSw); have kr0 := (Mem.row hSw .here).cell; have q1 := (HR1.out.ext hSw.below).cell 0; have q2 := (HR2.out.ext hSw.below).cell 0; have q3 := ((h.ext hSw.below).cellOrder hi).2.2.1; rw [HV.out] at q3; have ks := (Mem.row hSw .here).cell; go_simp; (try rw [if_neg (by omega)]); try with_reducible rfl)
  simp only [Act.put, List.setIfInBounds_toArray, List.set_cons_zero, List.set_cons_succ]
  refine AtT.taked (i := 2) (v := ?_) (some 7) rfl rfl (by kernel_rfl) (by kernel_rfl) (by kernel_rfl) (by kernel_rfl) (fun _ _ _ h => h) (Or.inl ⟨by kernel_rfl, ?_⟩) hS ?_
  rotate_left
  · (intro wS hSw; (try dsimp only at hSw); have kr0 := (Mem.row hSw .here).cell; have q1 := (HR1.out.ext hSw.below).cell 0; have q2 := (HR2.out.ext hSw.below).cell 0; have q3 := ((h.ext hSw.below).cellOrder hi).2.2.1; rw [HV.out] at q3; have ks := (Mem.row hSw .here).cell; go_simp; (try rw [if_neg (by omega)]); try with_reducible rfl)
  simp only [Act.put, List.setIfInBounds_toArray, List.set_cons_zero, List.set_cons_succ]
  refine AtT.taked (i := 3) (v := ?_) (some 8) rfl rfl (by kernel_rfl) (by kernel_rfl) (by kernel_rfl) (by kernel_rfl) (fun _ _ _ h => h) (Or.inl ⟨by kernel_rfl, ?_⟩) hS ?_
  rotate_left
  · (intro wS hSw; (try dsimp only at hSw); have kr0 := (Mem.row hSw .here).cell; have q1 := (HR1.out.ext hSw.below).cell 0; have q2 := (HR2.out.ext hSw.below).cell 0; have q3 := ((h.ext hSw.below).cellOrder hi).2.2.1; rw [HV.out] at q3; have ks := (Mem.row hSw .here).cell; go_simp; (try rw [if_neg (by omega)]); try with_reducible rfl)
  simp only [Act.put, List.setIfInBounds_toArray, List.set_cons_zero, List.set_cons_succ]
  refine AtT.taked (i := 4) (v := ?_) (some 9) rfl rfl (by kernel_rfl) (by kernel_rfl) (by kernel_rfl) (by kernel_rfl) (fun _ _ _ h => h) (Or.inl ⟨by kernel_rfl, ?_⟩) hS ?_
  rotate_left
  · (intro wS hSw; (try dsimp only at hSw); have kr0 := (Mem.row hSw .here).cell; have q1 := (HR1.out.ext hSw.below).cell 0; have q2 := (HR2.out.ext hSw.below).cell 0; have q3 := ((h.ext hSw.below).cellOrder hi).2.2.1; rw [HV.out] at q3; have ks := (Mem.row hSw .here).cell; go_simp; (try rw [if_neg (by omega)]); try with_reducible rfl)
  simp only [Act.put, List.setIfInBounds_toArray, List.set_cons_zero, List.set_cons_succ]
  refine AtT.taked (i := 5) (v := ?_) (some 10) rfl rfl (by kernel_rfl) (by kernel_rfl) (by kernel_rfl) (by kernel_rfl) (fun _ _ _ h => h) (Or.inl ⟨by kernel_rfl, ?_⟩) hS ?_
  rotate_left
  · (intro wS hSw; (try dsimp only at hSw); go_simp; (try rw [if_neg (by omega)]); try with_reducible rfl)
  simp only [Act.put, List.setIfInBounds_toArray, List.set_cons_zero, List.set_cons_succ]
  refine AtT.taked (i := 6) (v := ?_) (some 11) rfl rfl (by kernel_rfl) (by kernel_rfl) (by kernel_rfl) (by kernel_rfl) (fun _ _ _ h => h) (Or.inl ⟨by kernel_rfl, ?_⟩) hS ?_
  rotate_left
  · (intro wS hSw; (try dsimp only at hSw); have kr0 := (Mem.row hSw .here).cell; have q1 := (HR1.out.ext hSw.below).cell 0; have q2 := (HR2.out.ext hSw.below).cell 0; have q3 := ((h.ext hSw.below).cellOrder hi).2.2.1; rw [HV.out] at q3; have ks := (Mem.row hSw .here).cell; go_simp; (try rw [if_neg (by omega)]); try with_reducible rfl)
  simp only [Act.put, List.setIfInBounds_toArray, List.set_cons_zero, List.set_cons_succ]
  refine AtT.taked (i := 7) (v := ?_) (some 12) rfl rfl (by kernel_rfl) (by kernel_rfl) (by kernel_rfl) (by kernel_rfl) (fun _ _ _ h => h) (Or.inl ⟨by kernel_rfl, ?_⟩) hS ?_
  rotate_left
  · (intro wS hSw; (try dsimp only at hSw); go_simp; (try rw [if_neg (by omega)]); try with_reducible rfl)
  simp only [Act.put, List.setIfInBounds_toArray, List.set_cons_zero, List.set_cons_succ]
  refine AtT.last (by kernel_rfl) rfl (by kernel_rfl) ?_
  intro K hK
  clear hS
  go_simp
  refine hK.out _ _ ?_
  clear hK K
  go_wp2
  go_ret
  exact ⟨rfl, (by apply Mem.below; (repeat' (first | with_reducible exact hM | with_reducible exact hMp | with_reducible apply Mem.drew | with_reducible apply Mem.drewN | with_reducible apply Mem.alloc | with_reducible apply Mem.set | with_reducible exact Sto.row | ((with_reducible refine Sto.rowEq2 ?_ ?_); omega; rfl) | ((with_reducible refine Sto.rowEq ?_); omega) | with_reducible apply Sto.int | with_reducible apply Sto.there | with_reducible assumption | (unfold I64; omega) | (with_reducible (have hMx := Mem.undrew hM; exact hMx)) | (with_reducible (have hMx := Mem.undrew hMp; exact hMx)))))⟩
set_option maxRecDepth 100000 in
set_option maxHeartbeats 4000000 in
theorem copyStock_any (a : Option Addr) (n c : Nat) (ss : List StockI) (w : World) (h : Rd FStock w a n c ss) (hn6 : n ≤ 1048576) :
    Calls Try.prog 120 #[.slice a n c] w fun e w' => ∃ a' c', e = .returned (.slice a' n c') ∧ Mem w.heap.size w w' [owE FStock 46 a' n c' ss] := by
  have hM := Mem.start w
  have hr : n * 2 ≤ 17592186044416 := h.room
  obtain ⟨i0, hi, hz0, hz1, hz2⟩ := info_parts Try.info46
  go_enter Try.func120, Try.ntmps120
  go_wp2_with (at_builtin; go_loud (apply Mem.atL; (focus ((repeat' (first | with_reducible exact hM | with_reducible exact hMp | with_reducible apply Mem.drew | with_reducible apply Mem.drewN | with_reducible apply Mem.alloc | with_reducible apply Mem.set | with_reducible exact Sto.row | ((with_reducible refine Sto.rowEq2 ?_ ?_); omega; rfl) | ((with_reducible refine Sto.rowEq ?_); omega) | with_reducible apply Sto.int | with_reducible apply Sto.there | with_reducible assumption | (unfold I64; omega) | (with_reducible (have hMx := Mem.undrew hM; exact hMx)) | (with_reducible (have hMx := Mem.undrew hMp; exact hMx)))); done)); clear hM; intro hM; refine wpList_appRM (F := FStock) (Mem.toOwR hM) (fun _ => .here) (h.ext hM.below) (by show (0 + n) * 2 ≤ _; omega) i0 (.agg #[.string ⟨#[]⟩, .int .i64 0]) 24 hi hz0 hz1 hz2 rfl (by omega) rfl _ _ _ Try.underlying30 rfl rfl rfl ?_))
  intro a' c' w' hM
  go_wp2
  go_ret
  exact ⟨a', c', by first | rfl | rw [Nat.zero_add], hM⟩
end Go.Proofs.Ytfnaenekdenmkaa
