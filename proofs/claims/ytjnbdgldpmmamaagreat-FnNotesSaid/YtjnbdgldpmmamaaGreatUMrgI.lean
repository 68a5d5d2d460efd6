/-
  MergeBooks: finding notes, and comparing clocks (the program's).
-/
import Derived.Test.YtjnbdgldpmmamaaGreatUMrgT
import Derived.Deep.CutBlock
/-
  MergeBooks: finding notes, and comparing clocks (the program's).
-/
namespace Go.Proofs.YtjnbdgldpmmamaaGreat
set_option linter.unusedSimpArgs false
set_option linter.unusedVariables false
open Go.RowKit

/-- what a function value answers on the records of a list -/
def AnswersNote (f : FuncId) (caps : Array Value) (p : NoteI → Bool) (xs : List NoteI) (w : World) : Prop :=
  ∀ v ∈ xs, ∀ w', Below w.heap.size w w' → Calls Tryz.prog f (#[v.val] ++ caps) w' fun o w'' => o = .returned (.bool (p v)) ∧ Below w'.heap.size w' w''
theorem AnswersNote.ext {f : FuncId} {caps : Array Value} {p : NoteI → Bool} {xs : List NoteI} {w w1 : World} (h : AnswersNote f caps p xs w) (hb : Below w.heap.size w w1) : AnswersNote f caps p xs w1 :=
  fun v hv w' hb' => h v hv w' (hb.trans (hb'.mono hb.size))

set_option maxRecDepth 100000 in
set_option maxHeartbeats 400000 in
theorem indexNote_any (f : FuncId) (caps : Array Value) (p : NoteI → Bool) (a : Option Addr) (n c : Nat) (xs : List NoteI) (w : World) (h : Rd FNote w a n c xs) (hcf : ∀ args w, (callFunc f args).run Tryz.prog w = .ok (.enter f args) w) (hf : AnswersNote f caps p xs w) :
    Calls Tryz.prog 69 #[.slice a n c, .func (.func f) #[] caps] w fun o w' => o = .returned (.int .i64 (idxR p xs)) ∧ Below w.heap.size w w' := by
  have hn := h.cap
  have hc := h.nroom
  have HL := Lib.hid h.len
  have HF := Lib.hid hf
  clear hf
  go_enter Tryz.func69, Tryz.ntmps69
  go_wp2
  go_loopw [8] (fun i wr => ∃ k : Nat, k ≤ n ∧ i = .int .i64 k ∧ (xs.take k).any p = false ∧ Below w.heap.size w wr) (fun i _ => n - (intOf i).toNat)
  case atStart => exact ⟨0, Nat.zero_le _, rfl, by simp, Below.refl _ _⟩
  case round =>
    obtain ⟨k, hk, rfl, hall, hbr⟩ := hrel
    have HA := Lib.hid hall; clear hall
    by_cases hlt : k < n
    · obtain ⟨b, off, rfl, _⟩ := (h.ext hbr).at' _ hlt
      obtain ⟨hb, hc0, hc1, hc2, hc3⟩ := (h.ext hbr).cellNote hlt
      have hkl : k < xs.length := by rw [HL.out]; exact hlt
      have hmem : xs.getD k NoteI.zero ∈ xs := by rw [List.getD_eq_getElem?_getD, List.getElem?_eq_getElem hkl]; exact List.getElem_mem _
      have htk : xs.take (k + 1) = xs.take k ++ [xs.getD k NoteI.zero] := take_succV hkl
      have hfi : ((xs.take k).any p = false → p (xs.getD k NoteI.zero) = true → xs.findIdx p = k) := by
        intro h1 h2
        have hx : xs[k] = xs.getD k NoteI.zero := by simp [List.getD, hkl]
        rw [List.findIdx_eq hkl]
        refine ⟨by rw [hx]; exact h2, fun j hj => ?_⟩
        rw [List.any_eq_false] at h1
        have := h1 (xs[j]'(by omega)) (by
          rw [List.mem_take_iff_getElem]
          exact ⟨j, by omega, rfl⟩)
        simpa using this
      have hfi2 := hfi HA.out
      clear hfi
      obtain ⟨v, hv⟩ : ∃ v, xs.getD k NoteI.zero = v := ⟨_, rfl⟩
      rw [hv] at hc0 hc1 hc2 hc3 hmem htk hfi2
      have HT := Lib.hid htk
      have HFI := Lib.hid hfi2
      clear hv htk hkl hfi2
      go_wp2_with fail
      refine (HF.out v hmem _ hbr).mono ?_
      rintro o w1 ⟨rfl, hb1⟩
      have hb2 : Below w.heap.size w w1 := hbr.trans (hb1.mono hbr.size)
      cases hp : p v
      · go_wp2
        go_roundw
        case rel => exact ⟨k + 1, by omega, by go_num, by rw [HT.out, List.any_append, HA.out]; simp [hp], hb2⟩
        case measure => simp [intOf]; omega
      · go_wp2
        go_ret
        exact ⟨ri (by rw [idxR_pos (List.any_eq_true.2 ⟨v, hmem, hp⟩), HFI.out hp]), hb2⟩
    · go_wp2
      go_ret
      obtain rfl : k = n := by omega
      have hA := HA.out
      rw [List.take_of_length_le (by rw [HL.out]; exact Nat.le_refl _)] at hA
      exact ⟨ri (by rw [idxR_neg hA]), hbr⟩


def isN (x : NoteC) (y : NoteI) : Bool := sameK y.core x
theorem idx_fnd (xs : List NoteI) (x : NoteC) : idxR (isN x) xs = fndN (coreN xs) x := by
  have e1 : xs.any (isN x) = hasN (coreN xs) x := by
    unfold hasN coreN
    rw [List.any_map]
    rfl
  have e2 : xs.findIdx (isN x) = plN (coreN xs) x := by
    unfold plN coreN
    rw [List.findIdx_map]
    rfl
  unfold idxR fndN
  rw [e1, e2]
set_option maxRecDepth 100000 in
set_option maxHeartbeats 4000000 in
theorem find1_any (s : NoteI) (u q : Int) (cl : List Int) (wo : Bs) (b1 b2 : Nat) (w : World) (hr1 : Row w b1 #[.int .i64 u]) (hr2 : Row w b2 #[.int .i64 q]) :
    Calls Tryz.prog 70 #[s.val, .pointer (some ⟨b1, 0, none⟩), .pointer (some ⟨b2, 0, none⟩)] w fun e w' => e = .returned (.bool (isN ⟨u, q, cl, wo⟩ s)) ∧ Below w.heap.size w w' := by
  have hM := Mem.start w
  obtain ⟨xu, xq, xa, xn, xc, xl, xw⟩ := s
  have HR1 := Lib.hid hr1; have HR2 := Lib.hid hr2
  clear hr1 hr2
  have hr : isN ⟨u, q, cl, wo⟩ ⟨xu, xq, xa, xn, xc, xl, xw⟩ = (xu == u && xq == q) := rfl
  rw [hr]
  clear hr
  cases h1 : (xu == u)
  · skip
    go_enter Tryz.func70, Tryz.ntmps70
    go_upto_region 1 with fail
    apply Mem.atWpA
    · exact memA
    clear hM
    intro wst hM
    (try simp only [World.size_alloc, World.size_setCell, World.heap_drewN, heapDrew, Nat.add_assoc, Nat.reduceAdd, sA, List.cons_append, List.nil_append] at hM)
    have q1 := (HR1.out.ext hM.below).cell 0
    have q2 := (HR2.out.ext hM.below).cell 0
    obtain ⟨k0, f0, l0⟩ := hM.row .here
    go_wp2
    go_ret
    exact ⟨rb (by simp), (by apply Mem.below; (exact memA))⟩
  · cases h2 : (xq == q)
    all_goals
      go_enter Tryz.func70, Tryz.ntmps70
      go_upto_region 1 with fail
      apply Mem.atWpA
      · exact memA
      clear hM
      intro wst hM
      (try simp only [World.size_alloc, World.size_setCell, World.heap_drewN, heapDrew, Nat.add_assoc, Nat.reduceAdd, sA, List.cons_append, List.nil_append] at hM)
      have q1 := (HR1.out.ext hM.below).cell 0
      have q2 := (HR2.out.ext hM.below).cell 0
      obtain ⟨k0, f0, l0⟩ := hM.row .here
      go_wp2
      go_ret
      exact ⟨rb (by simp), (by apply Mem.below; (exact memA))⟩
theorem find_answers (xs : List NoteI) (u q : Int) (cl : List Int) (wo : Bs) (b1 b2 : Nat) (w : World) (hr1 : Row w b1 #[.int .i64 u]) (hr2 : Row w b2 #[.int .i64 q]) :
    AnswersNote 70 #[.pointer (some ⟨b1, 0, none⟩), .pointer (some ⟨b2, 0, none⟩)] (isN ⟨u, q, cl, wo⟩) xs w := fun v _ w' hb => find1_any v u q cl wo b1 b2 w' (hr1.ext hb) (hr2.ext hb)
set_option maxRecDepth 100000 in
set_option maxHeartbeats 4000000 in
theorem find_any (a : Option Addr) (n c : Nat) (xs : List NoteI) (x : NoteC) (w : World) (h : RdN w a n c xs) :
    Calls Tryz.prog 41 #[.slice a n c, .int .i64 x.un, .int .i64 x.sq] w fun e w' => e = .returned (.int .i64 (fndN (coreN xs) x)) ∧ Below w.heap.size w w' := by
  have hM := Mem.start w
  have hmf : ∀ (fn : Fn) (first cap : Array Value) (w : World), (Instr.makeFunc fn first cap).run Tryz.prog w = .ok (.func fn first cap) w := fun _ _ _ _ => rfl
  obtain ⟨u, s, cl, wo⟩ := x
  dsimp only
  have HE := Lib.hid (idx_fnd xs ⟨u, s, cl, wo⟩)
  rw [← HE.out]
  go_enter Tryz.func41, Tryz.ntmps41
  go_wp2_with fail
  apply Mem.atA
  · exact memA
  clear hM
  intro wst hM
  (try simp only [World.size_alloc, World.size_setCell, World.heap_drewN, heapDrew, Nat.add_assoc, Nat.reduceAdd, sA, List.cons_append, List.nil_append] at hM)
  refine (indexNote_any 70 #[.pointer (some ⟨w.heap.size, 0, none⟩), .pointer (some ⟨w.heap.size + 1, 0, none⟩)] (isN ⟨u, s, cl, wo⟩) a n c xs _ (h.rd.ext hM.below) (enters Tryz.func70 (by kernel_rfl) rfl) (find_answers xs u s cl wo _ _ _ (hM.row (.there .here)) (hM.row .here))).mono ?_
  rintro e w3 ⟨rfl, hb⟩
  replace hM := hM.ext hb
  clear hb
  go_wp2
  go_ret
  exact ⟨rfl, (by apply Mem.below; (exact memA))⟩
set_option maxRecDepth 100000 in
set_option maxHeartbeats 4000000 in
theorem equalInts_any (xa ya : Option Addr) (xn xc yn yc : Nat) (xl yl : List Int) (w : World) (hx : Ints w xa xn xc xl) (hy : Ints w ya yn yc yl) :
    Calls Tryz.prog 42 #[.slice xa xn xc, .slice ya yn yc] w fun e w' => e = .returned (.bool (decide (xl = yl))) ∧ Below w.heap.size w w' := by
  have hM := Mem.start w
  have hrx := hx.room
  have hry := hy.room
  have HX := Lib.hid hx; have HY := Lib.hid hy
  have HXL := Lib.hid hx.len; have HYL := Lib.hid hy.len
  clear hx hy
  by_cases hn : xn = yn
  · subst hn
    have e3 : ((xn : Int) != (xn : Int)) = false := by simp
    go_enter Tryz.func42, Tryz.ntmps42
    go_wp2_with fail
    go_loopw [13] (fun s5 wr => ∃ k : Nat, k ≤ xn ∧ s5 = .int .i64 k ∧ (∀ i, i < k → xl.getD i 0 = yl.getD i 0) ∧ Mem w.heap.size w wr []) (fun s5 _ => xn - (intOf s5).toNat)
    case atStart => exact ⟨0, Nat.zero_le _, rfl, fun i hi => by omega, hM⟩
    case round =>
      clear hM
      obtain ⟨k, hk, rfl, heq, hM⟩ := hrel
      have HEQ := Lib.hid heq; clear heq
      by_cases hlt : k < xn
      · obtain ⟨bx, ox, rfl, -, hcx⟩ := (HX.out.ext hM.below).at' _ hlt
        obtain ⟨by1, oy, rfl, -, hcy⟩ := (HY.out.ext hM.below).at' _ hlt
        have hx1 := hcx k hlt
        have hy1 := hcy k hlt
        clear hcx hcy
        have k0' : (0 : Int) ≤ (k : Int) := by omega
        have k1' : (k : Int) < (xn : Int) := by omega
        by_cases hv : xl.getD k 0 = yl.getD k 0
        · have HV := Lib.hid hv
          rw [← hv] at hy1
          have e5 : (xl.getD k 0 != xl.getD k 0) = false := by simp
          generalize xl.getD k 0 = v at hx1 hy1 e5
          clear hv
          go_wp2
          go_quiet (fail)
          go_wp2
          go_roundw
          case rel => exact ⟨k + 1, by omega, by go_num, no_succ HEQ.out HV.out, by (exact memA)⟩
          case measure => simp [intOf]; omega
        · have HF := Lib.hid (show decide (xl = yl) = false from decide_eq_false fun e => hv (by rw [e]))
          have e5 : (xl.getD k 0 != yl.getD k 0) = true := by simpa using hv
          generalize xl.getD k 0 = v at hx1 e5
          generalize yl.getD k 0 = v' at hy1 e5
          clear hv
          go_wp2
          go_quiet (fail)
          go_wp2
          go_ret
          exact ⟨rb (by rw [HF.out]), (by apply Mem.below; (exact memA))⟩
      · obtain rfl : k = xn := by omega
        have hl : xl = yl := by
          apply List.ext_getElem (by rw [HXL.out, HYL.out])
          intro i h1 h2
          have := HEQ.out i (by rw [← HXL.out]; exact h1)
          rw [List.getD_eq_getElem?_getD, List.getD_eq_getElem?_getD, List.getElem?_eq_getElem h1, List.getElem?_eq_getElem h2] at this
          exact this
        have HF := Lib.hid (show decide (xl = yl) = true from decide_eq_true hl)
        clear hl
        go_wp2
        go_ret
        exact ⟨rb (by rw [HF.out]), (by apply Mem.below; (exact memA))⟩
  · have e3 : ((xn : Int) != (yn : Int)) = true := by simp; omega
    have HF := Lib.hid (show decide (xl = yl) = false from decide_eq_false fun e => hn (by rw [← HXL.out, ← HYL.out, e]))
    go_enter Tryz.func42, Tryz.ntmps42
    go_wp2
    go_ret
    exact ⟨rb (by rw [HF.out]), (by apply Mem.below; (exact memA))⟩
end Go.Proofs.YtjnbdgldpmmamaaGreat
