/- Lemmas. -/
import Derived.Test.YtkohfegajcmdbaaQRd
import Derived.Test.YtkohfegajcmdbaaQLst
namespace Go.Proofs.Ytkohfegajcmdbaa
set_option linter.unusedSimpArgs false
set_option linter.unusedVariables false
open Go.RowKit

structure ActionI where
  kd : Int
  cell : Int
instance : DecidableEq ActionI := fun a b => decidable_of_iff (a.kd = b.kd ∧ a.cell = b.cell) (by cases a; cases b; simp [and_assoc])
def ActionI.zero : ActionI := ⟨0, 0⟩
def FAction : Fl ActionI where
  sz := 2
  enc x := [.int .i64 x.kd, .int .i64 x.cell]
  z := ActionI.zero
  wf x := I64 x.kd ∧ I64 x.cell
  pos := by decide
  len _ := rfl
  one := by intro x v hv; simp at hv; rcases hv with rfl | rfl <;> rfl
abbrev ActionI.val (x : ActionI) : Value := .agg #[.int .i64 x.kd, .int .i64 x.cell]
theorem Rd.cellAction {w : World} {b off n c : Nat} {xs : List ActionI} (h : Rd FAction w (some ⟨b, off, none⟩) n c xs) {k : Nat} (hk : k < n) : b < w.heap.size ∧ w.cell? ⟨b, off + k * 2, none⟩ = some (.int .i64 (xs.getD k ActionI.zero).kd) ∧ w.cell? ⟨b, off + k * 2 + 1, none⟩ = some (.int .i64 (xs.getD k ActionI.zero).cell) := by
  obtain ⟨b', off', e, hl, hc⟩ := h.at' k hk
  simp only [Option.some.injEq, Addr.mk.injEq] at e
  obtain ⟨rfl, rfl, _⟩ := e
  exact ⟨hl, by rw [show off + k * 2 = off + (k * FAction.sz + 0) by show _ = off + (k * 2 + 0); omega]; exact hc k hk 0 (by decide), by rw [show off + k * 2 + 1 = off + (k * FAction.sz + 1) by show _ = off + (k * 2 + 1); omega]; exact hc k hk 1 (by decide)⟩
theorem Ow.cellAction {E : TypeId} {B : Nat} {w : World} {g n c : Nat} {xs : List ActionI} (h : Ow FAction E B w (some ⟨g, 0, none⟩) n c xs) {k : Nat} (hk : k < n) : w.cell? ⟨g, k * 2, none⟩ = some (.int .i64 (xs.getD k ActionI.zero).kd) ∧ w.cell? ⟨g, k * 2 + 1, none⟩ = some (.int .i64 (xs.getD k ActionI.zero).cell) := by
  exact ⟨h.cell hk (j := 0) (by decide), h.cell hk (j := 1) (by decide)⟩
theorem Try.info53 : (Try.prog.info? 53).map (fun i => (i.zero, i.size, i.bytes)) = some (some (.agg #[.int .i64 0, .int .i64 0]), 2, 16) := by kernel_rfl
end Go.Proofs.Ytkohfegajcmdbaa

namespace Go.Proofs.Ytkohfegajcmdbaa
set_option linter.unusedSimpArgs false
set_option linter.unusedVariables false
open Go.RowKit

/-- what a function value answers on the records of a list -/
def AnswersAction (f : FuncId) (fi caps : Array Value) (p : ActionI → Bool) (xs : List ActionI) (w : World) : Prop :=
  ∀ v ∈ xs, ∀ w', Below w.heap.size w w' → Calls Try.prog f (fi ++ #[v.val] ++ caps) w' fun o w'' => o = .returned (.bool (p v)) ∧ Below w'.heap.size w' w''
theorem AnswersAction.ext {f : FuncId} {fi caps : Array Value} {p : ActionI → Bool} {xs : List ActionI} {w w1 : World} (h : AnswersAction f fi caps p xs w) (hb : Below w.heap.size w w1) : AnswersAction f fi caps p xs w1 :=
  fun v hv w' hb' => h v hv w' (hb.trans (hb'.mono hb.size))

set_option maxRecDepth 100000 in
set_option maxHeartbeats 400000 in
theorem indexAction_any (f : FuncId) (fi caps : Array Value) (p : ActionI → Bool) (a : Option Addr) (n c : Nat) (xs : List ActionI) (w : World) (h : Rd FAction w a n c xs) (hcf : ∀ args w, (callFunc f args).run Try.prog w = .ok (.enter f args) w) (hf : AnswersAction f fi caps p xs w) :
    Calls Try.prog 160 #[.slice a n c, .func (.func f) fi caps] w fun o w' => o = .returned (.int .i64 (idxR p xs)) ∧ Below w.heap.size w w' := by
  have hn := h.cap
  have hc := h.nroom
  have HL := Lib.hid h.len
  have HF := Lib.hid hf
  clear hf
  go_enter Try.func160, Try.ntmps160
  go_wp2
  go_loopw [8] (fun i wr => ∃ k : Nat, k ≤ n ∧ i = .int .i64 k ∧ (xs.take k).any p = false ∧ Below w.heap.size w wr) (fun i _ => n - (intOf i).toNat)
  case atStart => exact ⟨0, Nat.zero_le _, rfl, by simp, Below.refl _ _⟩
  case round =>
    obtain ⟨k, hk, rfl, hall, hbr⟩ := hrel
    have HA := Lib.hid hall; clear hall
    by_cases hlt : k < n
    · obtain ⟨b, off, rfl, _⟩ := (h.ext hbr).at' _ hlt
      obtain ⟨hb, hc0, hc1⟩ := (h.ext hbr).cellAction hlt
      have hkl : k < xs.length := by rw [HL.out]; exact hlt
      have hmem : xs.getD k ActionI.zero ∈ xs := by rw [List.getD_eq_getElem?_getD, List.getElem?_eq_getElem hkl]; exact List.getElem_mem _
      have htk : xs.take (k + 1) = xs.take k ++ [xs.getD k ActionI.zero] := take_succV hkl
      have hfi : ((xs.take k).any p = false → p (xs.getD k ActionI.zero) = true → xs.findIdx p = k) := by
        intro h1 h2
        have hx : xs[k] = xs.getD k ActionI.zero := by simp [List.getD, hkl]
        rw [List.findIdx_eq hkl]
        refine ⟨by rw [hx]; exact h2, fun j hj => ?_⟩
        rw [List.any_eq_false] at h1
        have := h1 (xs[j]'(by omega)) (by
          rw [List.mem_take_iff_getElem]
          exact ⟨j, by omega, rfl⟩)
        simpa using this
      have hfi2 := hfi HA.out
      clear hfi
      obtain ⟨v, hv⟩ : ∃ v, xs.getD k ActionI.zero = v := ⟨_, rfl⟩
      rw [hv] at hc0 hc1 hmem htk hfi2
      have HT := Lib.hid htk
      have HFI := Lib.hid hfi2
      clear hv htk hkl hfi2
      go_wp2_with fail
      refine (HF.out v hmem _ hbr).mono ?_
      rintro o w1 ⟨rfl, hb1⟩
      have hb2 : Below w.heap.size w w1 := hbr.trans (hb1.mono hbr.size)
      cases hp : p v
      · go_wp2
        go_roundw
        case rel => exact ⟨k + 1, by omega, by go_num, by rw [HT.out, List.any_append, HA.out]; simp [hp], hb2⟩
        case measure => simp [intOf]; omega
      · go_wp2
        go_ret
        exact ⟨ri (by rw [idxR_pos (List.any_eq_true.2 ⟨v, hmem, hp⟩), HFI.out hp]), hb2⟩
    · go_wp2
      go_ret
      obtain rfl : k = n := by omega
      have hA := HA.out
      rw [List.take_of_length_le (by rw [HL.out]; exact Nat.le_refl _)] at hA
      exact ⟨ri (by rw [idxR_neg hA]), hbr⟩

set_option maxRecDepth 100000 in
set_option maxHeartbeats 400000 in
theorem containsAction_any (f : FuncId) (fi caps : Array Value) (p : ActionI → Bool) (a : Option Addr) (n c : Nat) (xs : List ActionI) (w : World) (h : Rd FAction w a n c xs) (hcf : ∀ args w, (callFunc f args).run Try.prog w = .ok (.enter f args) w) (hf : AnswersAction f fi caps p xs w) :
    Calls Try.prog 144 #[.slice a n c, .func (.func f) fi caps] w fun o w' => o = .returned (.bool (xs.any p)) ∧ Below w.heap.size w w' := by
  have HF := Lib.hid hf
  clear hf
  go_enter Try.func144, Try.ntmps144
  go_wp2_with fail
  refine (indexAction_any f fi caps p a n c xs _ h hcf HF.out).mono ?_
  obtain ⟨i, hi, hi2⟩ : ∃ i : Int, idxR p xs = i ∧ decide (0 ≤ i) = xs.any p := ⟨_, rfl, idxR_sign p xs⟩
  rw [hi]
  clear hi
  rintro o w1 ⟨rfl, hb1⟩
  cases hp : xs.any p
  all_goals
    have hd : decide (0 ≤ i) = _ := hi2.trans hp
    clear hi2
    go_wp2
    go_ret
    exact ⟨rb hp.symm, hb1⟩

set_option maxRecDepth 100000 in
set_option maxHeartbeats 400000 in
theorem allAction1_any (f : FuncId) (fi caps : Array Value) (y : Bool) (v : ActionI) (b : Nat) (w : World) (hlt : b < w.heap.size) (hc : w.cell? ⟨b, 0, none⟩ = some (.func (.func f) fi caps)) (hcf : ∀ args w, (callFunc f args).run Try.prog w = .ok (.enter f args) w)
    (hf : ∀ w', Below w.heap.size w w' → Calls Try.prog f (fi ++ #[v.val] ++ caps) w' fun o w'' => o = .returned (.bool y) ∧ Below w'.heap.size w' w'') :
    Calls Try.prog 145 #[v.val, .pointer (some ⟨b, 0, none⟩)] w fun o w' => o = .returned (.bool (!y)) ∧ Below w.heap.size w w' := by
  have HF := Lib.hid hf
  clear hf
  go_enter Try.func145, Try.ntmps145
  go_wp2_with fail
  refine (HF.out _ (by (repeat' (first | exact Below.refl _ _ | with_reducible refine Below.setCell ?_ (by first | omega | (simp; done) | (simp; omega)) _ | with_reducible refine Below.alloc ?_ (by first | omega | (simp; done) | (simp; omega)) _ | with_reducible refine Below.drew ?_ | with_reducible refine bdrewN ?_ _)))).mono ?_
  rintro o w1 ⟨rfl, hb1⟩
  cases y
  all_goals
    go_wp2
    go_ret
    exact ⟨rfl, by (repeat' (first | exact Below.refl _ _ | with_reducible refine Below.setCell ?_ (by first | omega | (simp; done) | (simp; omega)) _ | with_reducible refine Below.alloc ?_ (by first | omega | (simp; done) | (simp; omega)) _ | with_reducible refine Below.drew ?_ | with_reducible refine bdrewN ?_ _ | with_reducible refine Below.trans ?_ (Below.mono hb1 (by first | omega | (simp; done) | (simp; omega)))))⟩

set_option maxRecDepth 100000 in
set_option maxHeartbeats 400000 in
theorem allAction_any (f : FuncId) (fi caps : Array Value) (p : ActionI → Bool) (a : Option Addr) (n c : Nat) (xs : List ActionI) (w : World) (h : Rd FAction w a n c xs) (hcf : ∀ args w, (callFunc f args).run Try.prog w = .ok (.enter f args) w) (hf : AnswersAction f fi caps p xs w) :
    Calls Try.prog 102 #[.slice a n c, .func (.func f) fi caps] w fun o w' => o = .returned (.bool (xs.all p)) ∧ Below w.heap.size w w' := by
  have HF := Lib.hid hf
  clear hf
  have hA : AnswersAction 145 #[] #[.pointer (some ⟨w.heap.size, 0, none⟩)] (fun v => !p v) xs (w.alloc (.cells #[.func (.func f) fi caps] 97)) := by
    intro v hv w' hb
    exact allAction1_any f fi caps (p v) v w.heap.size w' (by have := hb.size; simp at this; omega) (by
      have := hb.cell (p := ⟨w.heap.size, 0, none⟩) (by simp)
      rw [this]; exact newRow w _ rfl _ _ 0) hcf (fun w'' hb2 => HF.out v hv w'' (by
        have h1 : Below w.heap.size w w' := Below.trans ((Below.refl _ _).alloc (Nat.le_refl _) _) (hb.mono (by simp))
        exact h1.trans (hb2.mono h1.size)))
  have HA := Lib.hid hA
  clear hA
  have HN : Hid ((xs.any fun v => !p v) = !xs.all p) := by
    show _ = _
    clear HF HA h
    induction xs with
    | nil => rfl
    | cons v r ih => simp only [List.any_cons, List.all_cons, ih]; cases p v <;> simp
  have hmf : ∀ (fn : Fn) (first cap : Array Value) (w : World), (Instr.makeFunc fn first cap).run Try.prog w = .ok (.func fn first cap) w := fun _ _ _ _ => rfl
  go_enter Try.func102, Try.ntmps102
  go_wp2_with fail
  refine (containsAction_any _ _ _ _ a n c xs _ (h.ext ((Below.refl _ _).alloc (Nat.le_refl _) _)) (enters Try.func145 (by kernel_rfl) rfl) HA.out).mono ?_
  rintro o w1 ⟨rfl, hb1⟩
  rw [HN.out]
  cases hp : xs.all p
  all_goals
    go_wp2
    go_ret
    exact ⟨rb hp.symm, ((Below.refl _ _).alloc (Nat.le_refl _) _).trans (hb1.mono (by simp))⟩
end Go.Proofs.Ytkohfegajcmdbaa
