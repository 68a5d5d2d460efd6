/- Lemmas. -/
import Derived.Test.YtpoabdmapbdmfaaDoorPFlFire
namespace Go.Proofs.YtpoabdmapbdmfaaDoor
set_option linter.unusedSimpArgs false
set_option linter.unusedVariables false
open Go.RowKit

/-- what a function value answers on the records of a list -/
def AnswersFire (f : FuncId) (caps : Array Value) (p : FireI → Bool) (xs : List FireI) (w : World) : Prop :=
  ∀ v ∈ xs, ∀ w', Below w.heap.size w w' → Calls Tryd.prog f (#[v.val] ++ caps) w' fun o w'' => o = .returned (.bool (p v)) ∧ Below w'.heap.size w' w''
theorem AnswersFire.ext {f : FuncId} {caps : Array Value} {p : FireI → Bool} {xs : List FireI} {w w1 : World} (h : AnswersFire f caps p xs w) (hb : Below w.heap.size w w1) : AnswersFire f caps p xs w1 :=
  fun v hv w' hb' => h v hv w' (hb.trans (hb'.mono hb.size))

set_option maxRecDepth 100000 in
set_option maxHeartbeats 400000 in
theorem indexFire_any (f : FuncId) (caps : Array Value) (p : FireI → Bool) (a : Option Addr) (n c : Nat) (xs : List FireI) (w : World) (h : Rd FFire w a n c xs) (hcf : ∀ args w, (callFunc f args).run Tryd.prog w = .ok (.enter f args) w) (hf : AnswersFire f caps p xs w) :
    Calls Tryd.prog 107 #[.slice a n c, .func (.func f) #[] caps] w fun o w' => o = .returned (.int .i64 (idxR p xs)) ∧ Below w.heap.size w w' := by
  have hn := h.cap
  have hc := h.nroom
  have HL := Lib.hid h.len
  have HF := Lib.hid hf
  clear hf
  go_enter Tryd.func107, Tryd.ntmps107
  go_wp2
  go_loopw [8] (fun i wr => ∃ k : Nat, k ≤ n ∧ i = .int .i64 k ∧ (xs.take k).any p = false ∧ Below w.heap.size w wr) (fun i _ => n - (intOf i).toNat)
  case atStart => exact ⟨0, Nat.zero_le _, rfl, by simp, Below.refl _ _⟩
  case round =>
    obtain ⟨k, hk, rfl, hall, hbr⟩ := hrel
    have HA := Lib.hid hall; clear hall
    by_cases hlt : k < n
    · obtain ⟨b, off, rfl, _⟩ := (h.ext hbr).at' _ hlt
      obtain ⟨hb, hc0, hc1, hc2, hc3⟩ := (h.ext hbr).cellFire hlt
      have hkl : k < xs.length := by rw [HL.out]; exact hlt
      have hmem : xs.getD k FireI.zero ∈ xs := by rw [List.getD_eq_getElem?_getD, List.getElem?_eq_getElem hkl]; exact List.getElem_mem _
      have htk : xs.take (k + 1) = xs.take k ++ [xs.getD k FireI.zero] := take_succV hkl
      have hfi : ((xs.take k).any p = false → p (xs.getD k FireI.zero) = true → xs.findIdx p = k) := by
        intro h1 h2
        have hx : xs[k] = xs.getD k FireI.zero := by simp [List.getD, hkl]
        rw [List.findIdx_eq hkl]
        refine ⟨by rw [hx]; exact h2, fun j hj => ?_⟩
        rw [List.any_eq_false] at h1
        have := h1 (xs[j]'(by omega)) (by
          rw [List.mem_take_iff_getElem]
          exact ⟨j, by omega, rfl⟩)
        simpa using this
      have hfi2 := hfi HA.out
      clear hfi
      obtain ⟨v, hv⟩ : ∃ v, xs.getD k FireI.zero = v := ⟨_, rfl⟩
      rw [hv] at hc0 hc1 hc2 hc3 hmem htk hfi2
      have HT := Lib.hid htk
      have HFI := Lib.hid hfi2
      clear hv htk hkl hfi2
      go_wp2_with fail
      refine (HF.out v hmem _ hbr).mono ?_
      rintro o w1 ⟨rfl, hb1⟩
      have hb2 : Below w.heap.size w w1 := hbr.trans (hb1.mono hbr.size)
      cases hp : p v
      · go_wp2
        go_roundw
        case rel => exact ⟨k + 1, by omega, by go_num, by rw [HT.out, List.any_append, HA.out]; simp [hp], hb2⟩
        case measure => simp [intOf]; omega
      · go_wp2
        go_ret
        exact ⟨ri (by rw [idxR_pos (List.any_eq_true.2 ⟨v, hmem, hp⟩), HFI.out hp]), hb2⟩
    · go_wp2
      go_ret
      obtain rfl : k = n := by omega
      have hA := HA.out
      rw [List.take_of_length_le (by rw [HL.out]; exact Nat.le_refl _)] at hA
      exact ⟨ri (by rw [idxR_neg hA]), hbr⟩

set_option maxRecDepth 100000 in
set_option maxHeartbeats 400000 in
theorem containsFire_any (f : FuncId) (caps : Array Value) (p : FireI → Bool) (a : Option Addr) (n c : Nat) (xs : List FireI) (w : World) (h : Rd FFire w a n c xs) (hcf : ∀ args w, (callFunc f args).run Tryd.prog w = .ok (.enter f args) w) (hf : AnswersFire f caps p xs w) :
    Calls Tryd.prog 92 #[.slice a n c, .func (.func f) #[] caps] w fun o w' => o = .returned (.bool (xs.any p)) ∧ Below w.heap.size w w' := by
  have HF := Lib.hid hf
  clear hf
  go_enter Tryd.func92, Tryd.ntmps92
  go_wp2_with fail
  refine (indexFire_any f caps p a n c xs _ h hcf HF.out).mono ?_
  obtain ⟨i, hi, hi2⟩ : ∃ i : Int, idxR p xs = i ∧ decide (0 ≤ i) = xs.any p := ⟨_, rfl, idxR_sign p xs⟩
  rw [hi]
  clear hi
  rintro o w1 ⟨rfl, hb1⟩
  cases hp : xs.any p
  all_goals
    have hd : decide (0 ≤ i) = _ := hi2.trans hp
    clear hi2
    go_wp2
    go_ret
    exact ⟨rb hp.symm, hb1⟩

set_option maxRecDepth 100000 in
set_option maxHeartbeats 400000 in
theorem allFire1_any (f : FuncId) (caps : Array Value) (y : Bool) (v : FireI) (b : Nat) (w : World) (hlt : b < w.heap.size) (hc : w.cell? ⟨b, 0, none⟩ = some (.func (.func f) #[] caps)) (hcf : ∀ args w, (callFunc f args).run Tryd.prog w = .ok (.enter f args) w)
    (hf : ∀ w', Below w.heap.size w w' → Calls Tryd.prog f (#[v.val] ++ caps) w' fun o w'' => o = .returned (.bool y) ∧ Below w'.heap.size w' w'') :
    Calls Tryd.prog 93 #[v.val, .pointer (some ⟨b, 0, none⟩)] w fun o w' => o = .returned (.bool (!y)) ∧ Below w.heap.size w w' := by
  have HF := Lib.hid hf
  clear hf
  go_enter Tryd.func93, Tryd.ntmps93
  go_wp2_with fail
  refine (HF.out _ (by (repeat' (first | exact Below.refl _ _ | with_reducible refine Below.setCell ?_ (by first | omega | (simp; done) | (simp; omega)) _ | with_reducible refine Below.alloc ?_ (by first | omega | (simp; done) | (simp; omega)) _ | with_reducible refine Below.drew ?_ | with_reducible refine bdrewN ?_ _)))).mono ?_
  rintro o w1 ⟨rfl, hb1⟩
  cases y
  all_goals
    go_wp2
    go_ret
    exact ⟨rfl, by (repeat' (first | exact Below.refl _ _ | with_reducible refine Below.setCell ?_ (by first | omega | (simp; done) | (simp; omega)) _ | with_reducible refine Below.alloc ?_ (by first | omega | (simp; done) | (simp; omega)) _ | with_reducible refine Below.drew ?_ | with_reducible refine bdrewN ?_ _ | with_reducible refine Below.trans ?_ (Below.mono hb1 (by first | omega | (simp; done) | (simp; omega)))))⟩

set_option maxRecDepth 100000 in
set_option maxHeartbeats 400000 in
theorem allFire_any (f : FuncId) (caps : Array Value) (p : FireI → Bool) (a : Option Addr) (n c : Nat) (xs : List FireI) (w : World) (h : Rd FFire w a n c xs) (hcf : ∀ args w, (callFunc f args).run Tryd.prog w = .ok (.enter f args) w) (hf : AnswersFire f caps p xs w) :
    Calls Tryd.prog 47 #[.slice a n c, .func (.func f) #[] caps] w fun o w' => o = .returned (.bool (xs.all p)) ∧ Below w.heap.size w w' := by
  have HF := Lib.hid hf
  clear hf
  have hA : AnswersFire 93 #[.pointer (some ⟨w.heap.size, 0, none⟩)] (fun v => !p v) xs (w.alloc (.cells #[.func (.func f) #[] caps] 42)) := by
    intro v hv w' hb
    exact allFire1_any f caps (p v) v w.heap.size w' (by have := hb.size; simp at this; omega) (by
      have := hb.cell (p := ⟨w.heap.size, 0, none⟩) (by simp)
      rw [this]; exact newRow w _ rfl _ _ 0) hcf (fun w'' hb2 => HF.out v hv w'' (by
        have h1 : Below w.heap.size w w' := Below.trans ((Below.refl _ _).alloc (Nat.le_refl _) _) (hb.mono (by simp))
        exact h1.trans (hb2.mono h1.size)))
  have HA := Lib.hid hA
  clear hA
  have HN : Hid ((xs.any fun v => !p v) = !xs.all p) := by
    show _ = _
    clear HF HA h
    induction xs with
    | nil => rfl
    | cons v r ih => simp only [List.any_cons, List.all_cons, ih]; cases p v <;> simp
  have hmf : ∀ (fn : Fn) (first cap : Array Value) (w : World), (Instr.makeFunc fn first cap).run Tryd.prog w = .ok (.func fn first cap) w := fun _ _ _ _ => rfl
  go_enter Tryd.func47, Tryd.ntmps47
  go_wp2_with fail
  refine (containsFire_any _ _ _ a n c xs _ (h.ext ((Below.refl _ _).alloc (Nat.le_refl _) _)) (enters Tryd.func93 (by kernel_rfl) rfl) HA.out).mono ?_
  rintro o w1 ⟨rfl, hb1⟩
  rw [HN.out]
  cases hp : xs.all p
  all_goals
    go_wp2
    go_ret
    exact ⟨rb hp.symm, ((Below.refl _ _).alloc (Nat.le_refl _) _).trans (hb1.mono (by simp))⟩

set_option maxRecDepth 100000 in
set_option maxHeartbeats 1000000 in
theorem filterFire_any (f : FuncId) (caps : Array Value) (p : FireI → Bool) (a : Option Addr) (n c : Nat) (xs : List FireI) (w : World) (h : Rd FFire w a n c xs) (hcf : ∀ args w, (callFunc f args).run Tryd.prog w = .ok (.enter f args) w) (hf : AnswersFire f caps p xs w) :
    Calls Tryd.prog 51 #[.slice a n c, .func (.func f) #[] caps] w fun o w' => ∃ a' c', o = .returned (.slice a' (xs.filter p).length c') ∧ Ow FFire 33 w.heap.size w' a' (xs.filter p).length c' (xs.filter p) ∧ Below w.heap.size w w' := by
  have hn := h.cap
  have hc := h.nroom
  have hr : n * 4 ≤ 17592186044416 := h.room
  have HL := Lib.hid h.len
  have HF := Lib.hid hf
  have HW := Lib.hid h.wf
  clear hf
  obtain ⟨i0, hi, hz0, hz1, hz2⟩ := info_parts Tryd.info33
  go_enter Tryd.func51, Tryd.ntmps51
  go_wp2
  go_loopw [5, 11] (fun s i wr => ∃ (k : Nat) (a' : Option Addr) (c' : Nat), k ≤ n ∧ i = .int .i64 k ∧ s = .slice a' ((xs.take k).filter p).length c' ∧ Mem w.heap.size w wr [owE FFire 33 a' ((xs.take k).filter p).length c' ((xs.take k).filter p)]) (fun _ i _ => n - (intOf i).toNat)
  case atStart =>
    refine ⟨0, _, _, Nat.zero_le _, rfl, rfl, ?_⟩
    refine (Mem.start w).owned ((Below.refl _ _).alloc (Nat.le_refl _) _) ⟨rfl, by simp, by simp, ?_⟩
    simpa [Fl.cells] using World.ownsRow_made (base := w.heap.size) (e := 33) (size := FFire.sz) w #[] 0 (Nat.le_refl _) (by unfold maxLen; omega) (by simp)
  case round =>
    obtain ⟨k, a', c', hk, rfl, rfl, hM⟩ := hrel
    by_cases hlt : k < n
    · obtain ⟨b, off, rfl, _⟩ := (h.ext hM.below).at' _ hlt
      obtain ⟨hb, hc0, hc1, hc2, hc3⟩ := (h.ext hM.below).cellFire hlt
      have hkl : k < xs.length := by rw [HL.out]; exact hlt
      have hmem : xs.getD k FireI.zero ∈ xs := by rw [List.getD_eq_getElem?_getD, List.getElem?_eq_getElem hkl]; exact List.getElem_mem _
      have htk : xs.take (k + 1) = xs.take k ++ [xs.getD k FireI.zero] := take_succV hkl
      obtain ⟨v, hv⟩ : ∃ v, xs.getD k FireI.zero = v := ⟨_, rfl⟩
      rw [hv] at hc0 hc1 hc2 hc3 hmem htk
      have HT := Lib.hid htk
      clear hv htk hkl
      have hfl : ((xs.take k).filter p).length ≤ k := Nat.le_trans (List.length_filter_le _ _) (by rw [List.length_take]; omega)
      obtain ⟨ys, hys⟩ : ∃ ys, (xs.take k).filter p = ys := ⟨_, rfl⟩
      rw [hys] at hM hfl ⊢
      have HY := Lib.hid hys; clear hys
      go_wp2_with fail
      apply Mem.at
      · (repeat' (first | with_reducible exact hM | with_reducible exact hMp | with_reducible apply Mem.drew | with_reducible apply Mem.drewN | with_reducible apply Mem.alloc | with_reducible apply Mem.set | with_reducible exact Sto.row | ((with_reducible refine Sto.rowEq2 ?_ ?_); omega; rfl) | ((with_reducible refine Sto.rowEq ?_); omega) | with_reducible apply Sto.int | with_reducible apply Sto.there | with_reducible assumption | (unfold I64; omega) | (with_reducible (have hMx := Mem.undrew hM; exact hMx)) | (with_reducible (have hMx := Mem.undrew hMp; exact hMx))))
      clear hM
      intro hM
      refine (HF.out v hmem _ hM.below).mono ?_
      rintro o w1 ⟨rfl, hb1⟩
      replace hM := hM.ext hb1
      clear hb1 hc0 hc1 hc2 hc3
      cases hp : p v
      · go_wp2
        go_roundw
        case rel =>
          have e : (xs.take (k + 1)).filter p = ys := by rw [HT.out, List.filter_append, HY.out]; simp [hp]
          refine ⟨k + 1, a', c', by omega, by go_num, ?_, ?_⟩
          · rw [e]
          · rw [e]; exact hM.tail
        case measure => simp [intOf]; omega
      · obtain ⟨k0, f0, l0⟩ := hM.row .here
        go_wp2_with (at_builtin; apply Mem.atL; (focus ((repeat' (first | with_reducible exact hM | with_reducible exact hMp | with_reducible apply Mem.drew | with_reducible apply Mem.drewN | with_reducible apply Mem.alloc | with_reducible apply Mem.set | with_reducible exact Sto.row | ((with_reducible refine Sto.rowEq2 ?_ ?_); omega; rfl) | ((with_reducible refine Sto.rowEq ?_); omega) | with_reducible apply Sto.int | with_reducible apply Sto.there | with_reducible assumption | (unfold I64; omega) | (with_reducible (have hMx := Mem.undrew hM; exact hMx)) | (with_reducible (have hMx := Mem.undrew hMp; exact hMx)))); done)); clear hM k0 f0 l0; intro hM; refine wpList_appendR (F := FFire) rfl (.tmp 18) (.tmp 20) 24 rfl 33 i0 (.agg #[.int .i64 0, .int .i64 0, .int .i64 0, .int .i64 0]) 32 Tryd.underlying24 hi hz0 hz1 hz2 rfl w.heap.size a' ys.length c' ys rfl (hM.ow (.there (.there .here))) (some ⟨w1.heap.size, 0, none⟩) 1 1 [v] rfl ?c1 ?c2 ?c3 hM.size ?_)
        case c1 =>
          have hr1 := hM.row .here
          refine ⟨rfl, Nat.le_refl _, by unfold maxLen; omega, by simp, by show 1 * 4 ≤ _; omega, by simpa using HW.out v hmem, fun k hk => ⟨w1.heap.size, 0, rfl, hr1.lt, fun i hi j hj => ?_⟩⟩
          obtain rfl : i = 0 := by omega
          rw [hr1.cell]
          simp [FFire]
        case c2 => show (ys.length + 1) * 4 ≤ _; omega
        case c3 => omega
        intro a2 c2 w2 hO hg hbl
        replace hM := hM.appendedR (.there (.there .here)) hO hg (fun k hk => by simpa using hbl k hk)
        clear hO hg hbl
        go_wp2
        go_roundw
        case rel =>
          have e : (xs.take (k + 1)).filter p = ys ++ [v] := by rw [HT.out, List.filter_append, HY.out]; simp [hp]
          refine ⟨k + 1, a2, c2, by omega, by go_num, ?_, ?_⟩
          · rw [e]; simp
          · rw [e]; simpa using hM.tail.tail
        case measure => simp [intOf]; omega
    · obtain rfl : k = n := by omega
      rw [List.take_of_length_le (by rw [HL.out]; exact Nat.le_refl _)] at hM ⊢
      go_wp2
      go_ret
      exact ⟨a', c', rfl, hM.ow .here, hM.below⟩
end Go.Proofs.YtpoabdmapbdmfaaDoor
