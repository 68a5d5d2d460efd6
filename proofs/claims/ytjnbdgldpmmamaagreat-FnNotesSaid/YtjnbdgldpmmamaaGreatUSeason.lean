/- Lemmas. -/
import Derived.Test.YtjnbdgldpmmamaaGreatUFlNote
import Derived.Test.YtjnbdgldpmmamaaGreatURegF
import Derived.Deep.DeepCutAuto
import Derived.Test.YtjnbdgldpmmamaaGreatProg
import Derived.Lib.ConvBytes
import Derived.Laws.IdiomStrings
import Derived.Test.YtjnbdgldpmmamaaGreatUNestN
import Derived.Test.YtjnbdgldpmmamaaGreatULst
import Derived.Test.YtjnbdgldpmmamaaGreatURd
/-
  The laws' sz, to, eq over notes.
-/
namespace Go.Proofs.YtjnbdgldpmmamaaGreat
set_option linter.unusedSimpArgs false
set_option linter.unusedVariables false
open Go.RowKit

theorem Tryz.info40 : (Tryz.prog.info? 40).map (fun i => (i.zero, i.size, i.bytes)) = some (some (.agg #[.int .i64 0, .int .i64 0, .slice none 0 0, .string ⟨#[]⟩]), 4, 56) := by kernel_rfl
end Go.Proofs.YtjnbdgldpmmamaaGreat

namespace Go.Proofs.YtjnbdgldpmmamaaGreat
set_option linter.unusedSimpArgs false
set_option linter.unusedVariables false
open Go.RowKit

structure OrderI where
  id : Int
  kd : Bs
  ct : Int
  ur : Int
  tk : Int
instance : DecidableEq OrderI := fun a b => decidable_of_iff (a.id = b.id ∧ a.kd = b.kd ∧ a.ct = b.ct ∧ a.ur = b.ur ∧ a.tk = b.tk) (by cases a; cases b; simp [and_assoc])
def OrderI.zero : OrderI := ⟨0, [], 0, 0, 0⟩
abbrev OrderI.val (x : OrderI) : Value := .agg #[.int .i64 x.id, .string (bsA x.kd), .int .i64 x.ct, .int .i64 x.ur, .int .i64 x.tk]
end Go.Proofs.YtjnbdgldpmmamaaGreat

namespace Go.Proofs.YtjnbdgldpmmamaaGreat
set_option linter.unusedSimpArgs false
set_option linter.unusedVariables false
open Go.RowKit

structure StockI where
  kd : Bs
  ct : Int
instance : DecidableEq StockI := fun a b => decidable_of_iff (a.kd = b.kd ∧ a.ct = b.ct) (by cases a; cases b; simp [and_assoc])
def StockI.zero : StockI := ⟨[], 0⟩
abbrev StockI.val (x : StockI) : Value := .agg #[.string (bsA x.kd), .int .i64 x.ct]
end Go.Proofs.YtjnbdgldpmmamaaGreat

/-
  Loops over the bytes of a string: both sides.
-/
namespace Go.Proofs.YtjnbdgldpmmamaaGreat
set_option linter.unusedSimpArgs false
set_option linter.unusedVariables false
open Go.RowKit

theorem all_takeB {p : UInt8 → Bool} {l : Bs} {k : Nat} (hk : k < l.length) : (l.take (k + 1)).all p = ((l.take k).all p && p (l.getD k 0)) := by
  rw [List.take_succ_eq_append_getElem hk, List.all_append]
  simp [List.getD, hk]
theorem all_falseB {p : UInt8 → Bool} {l : Bs} {k : Nat} (hk : k < l.length) (h : p (l.getD k 0) = false) : l.all p = false := by
  rw [List.all_eq_false]
  exact ⟨l[k], List.getElem_mem hk, by simpa [List.getD, hk] using h⟩
theorem byte_lt (x : UInt8) : x.toNat < 256 := x.toNat_lt

end Go.Proofs.YtjnbdgldpmmamaaGreat

/-
  Words: both sides.
-/
namespace Go.Proofs.YtjnbdgldpmmamaaGreat
set_option linter.unusedSimpArgs false
set_option linter.unusedVariables false
open Go.RowKit

def letB (x : UInt8) : Bool := decide (97 ≤ x.toNat ∧ x.toNat ≤ 122)
def wordB (l : Bs) : Bool := l.all letB && inB l.length 1 10
set_option maxRecDepth 100000 in
set_option maxHeartbeats 1000000 in
theorem isWord_any (l : Bs) (w : World) (hl : l.length ≤ maxLen) :
    Calls Tryz.prog 58 #[.string (bsA l)] w fun e w' => e = .returned (.bool (wordB l)) ∧ w = w' := by
  unfold maxLen at hl
  have S1 := bsA_size l
  go_enter Tryz.func58, Tryz.ntmps58
  go_wp2
  go_loop [6] (fun i => ∃ k : Nat, k ≤ l.length ∧ i = .int .i64 k ∧ (l.take k).all letB = true) (fun i => l.length - (intOf i).toNat)
  case atStart => exact ⟨0, Nat.zero_le _, rfl, rfl⟩
  case round =>
    obtain ⟨k, hk, rfl, hall⟩ := hrel
    have HA := Lib.hid hall; clear hall
    by_cases hlt : k < l.length
    · have ht := all_takeB (p := letB) hlt
      have hf := all_falseB (p := letB) hlt
      have hb := byte_lt (l.getD k 0)
      have S2 := bsA_get l k
      unfold letB at ht hf
      generalize l.getD k 0 = x at ht hf hb S2
      obtain ⟨v, hv⟩ : ∃ v : Nat, x.toNat = v := ⟨_, rfl⟩
      rw [hv] at ht hf hb
      have HT := Lib.hid ht; have HFF := Lib.hid hf; clear ht hf
      by_cases h1 : v < 97
      · go_wp2
        go_ret
        exact ⟨rb (by rw [wordB, show l.all letB = false from HFF.out (by simp; omega)]; rfl), rfl⟩
      by_cases h2 : 122 < v
      · go_wp2
        go_ret
        exact ⟨rb (by rw [wordB, show l.all letB = false from HFF.out (by simp; omega)]; rfl), rfl⟩
      · go_wp2
        go_round
        case rel => exact ⟨k + 1, by omega, by go_num, by rw [show (l.take (k + 1)).all letB = ((l.take k).all letB && decide (97 ≤ v ∧ v ≤ 122)) from HT.out, HA.out]; simp; omega⟩
        case measure => simp [intOf]; omega
    · obtain rfl : k = l.length := by omega
      have HR := Lib.hid (show wordB l = inB l.length 1 10 by rw [wordB, ← List.take_length (l := l), HA.out, List.take_length]; rfl)
      go_wp2_with fail
      refine (in_any _ _ _ _).mono ?_
      rintro e w1 ⟨rfl, rfl⟩
      go_wp2
      go_ret
      exact ⟨rb HR.out.symm, rfl⟩
set_option maxRecDepth 100000 in
set_option maxHeartbeats 1000000 in
theorem l2Word_any (l : Bs) (w : World) (hl : l.length ≤ maxLen) :
    Calls Tryz.prog 75 #[.string (bsA l)] w fun e w' => e = .returned (.bool (wordB l)) ∧ w = w' := by
  unfold maxLen at hl
  have S1 := bsA_size l
  go_enter Tryz.func75, Tryz.ntmps75
  go_wp2
  go_loop [3] (fun i => ∃ k : Nat, k ≤ l.length ∧ i = .int .i64 k ∧ (l.take k).all letB = true) (fun i => l.length - (intOf i).toNat)
  case atStart => exact ⟨0, Nat.zero_le _, rfl, rfl⟩
  case round =>
    obtain ⟨k, hk, rfl, hall⟩ := hrel
    have HA := Lib.hid hall; clear hall
    by_cases hlt : k < l.length
    · have ht := all_takeB (p := letB) hlt
      have hf := all_falseB (p := letB) hlt
      have hb := byte_lt (l.getD k 0)
      have S2 := bsA_get l k
      unfold letB at ht hf
      generalize l.getD k 0 = x at ht hf hb S2
      obtain ⟨v, hv⟩ : ∃ v : Nat, x.toNat = v := ⟨_, rfl⟩
      rw [hv] at ht hf hb
      have HT := Lib.hid ht; have HFF := Lib.hid hf; clear ht hf
      by_cases h1 : v < 97
      · go_wp2
        go_ret
        exact ⟨rb (by rw [wordB, show l.all letB = false from HFF.out (by simp; omega)]; rfl), rfl⟩
      by_cases h2 : 122 < v
      · go_wp2
        go_ret
        exact ⟨rb (by rw [wordB, show l.all letB = false from HFF.out (by simp; omega)]; rfl), rfl⟩
      · go_wp2
        go_round
        case rel => exact ⟨k + 1, by omega, by go_num, by rw [show (l.take (k + 1)).all letB = ((l.take k).all letB && decide (97 ≤ v ∧ v ≤ 122)) from HT.out, HA.out]; simp; omega⟩
        case measure => simp [intOf]; omega
    · obtain rfl : k = l.length := by omega
      have HR := Lib.hid (show wordB l = inB l.length 1 10 by rw [wordB, ← List.take_length (l := l), HA.out, List.take_length]; rfl)
      go_wp2_with fail
      refine (l1In_any _ _ _ _).mono ?_
      rintro e w1 ⟨rfl, rfl⟩
      go_wp2
      go_ret
      exact ⟨rb HR.out.symm, rfl⟩
end Go.Proofs.YtjnbdgldpmmamaaGreat

namespace Go.Proofs.YtjnbdgldpmmamaaGreat
set_option linter.unusedSimpArgs false
set_option linter.unusedVariables false
open Go.RowKit

structure FireI where
  day : Int
  cause : Int
  hect : Int
  hours : Int
instance : DecidableEq FireI := fun a b => decidable_of_iff (a.day = b.day ∧ a.cause = b.cause ∧ a.hect = b.hect ∧ a.hours = b.hours) (by cases a; cases b; simp [and_assoc])
def FireI.zero : FireI := ⟨0, 0, 0, 0⟩
abbrev FireI.val (x : FireI) : Value := .agg #[.int .i64 x.day, .int .i64 x.cause, .int .i64 x.hect, .int .i64 x.hours]
end Go.Proofs.YtjnbdgldpmmamaaGreat

namespace Go.Proofs.YtjnbdgldpmmamaaGreat
set_option linter.unusedSimpArgs false
set_option linter.unusedVariables false
open Go.RowKit

/-- what a function value answers on the records of a list -/
def AnswersFire (f : FuncId) (caps : Array Value) (p : FireI → Bool) (xs : List FireI) (w : World) : Prop :=
  ∀ v ∈ xs, ∀ w', Below w.heap.size w w' → Calls Tryz.prog f (#[v.val] ++ caps) w' fun o w'' => o = .returned (.bool (p v)) ∧ Below w'.heap.size w' w''
theorem AnswersFire.ext {f : FuncId} {caps : Array Value} {p : FireI → Bool} {xs : List FireI} {w w1 : World} (h : AnswersFire f caps p xs w) (hb : Below w.heap.size w w1) : AnswersFire f caps p xs w1 :=
  fun v hv w' hb' => h v hv w' (hb.trans (hb'.mono hb.size))

end Go.Proofs.YtjnbdgldpmmamaaGreat

namespace Go.Proofs.YtjnbdgldpmmamaaGreat
set_option linter.unusedSimpArgs false
set_option linter.unusedVariables false
open Go.RowKit

/-- Go's cmp.Compare -/
def cmpI (x y : Int) : Int := if x < y then -1 else if y < x then 1 else 0
theorem isNaN_any (x : Int) (w : World) : Calls Tryz.prog 53 #[.int .i64 x] w fun e w' => e = .returned (.bool false) ∧ w = w' := by
  have hx : (x != x) = false := by simp
  go_enter Tryz.func53, Tryz.ntmps53
  go_wp2
  go_ret
  exact ⟨rfl, rfl⟩
set_option maxHeartbeats 400000 in
theorem compare_any (x y : Int) (w : World) : Calls Tryz.prog 27 #[.int .i64 x, .int .i64 y] w fun e w' => e = .returned (.int .i64 (cmpI x y)) ∧ w = w' := by
  by_cases h1 : x < y
  · have HF := Lib.hid (show cmpI x y = -1 by simp [cmpI, h1])
    go_enter Tryz.func27, Tryz.ntmps27
    go_wp2_with (go_at_call 53; refine (isNaN_any _ _).mono ?_; rintro e w' ⟨rfl, rfl⟩)
    go_ret
    exact ⟨ri HF.out.symm, rfl⟩
  by_cases h2 : y < x
  · have HF := Lib.hid (show cmpI x y = 1 by simp [cmpI, h1, h2])
    go_enter Tryz.func27, Tryz.ntmps27
    go_wp2_with (go_at_call 53; refine (isNaN_any _ _).mono ?_; rintro e w' ⟨rfl, rfl⟩)
    go_ret
    exact ⟨ri HF.out.symm, rfl⟩
  · have HF := Lib.hid (show cmpI x y = 0 by simp [cmpI, h1, h2])
    go_enter Tryz.func27, Tryz.ntmps27
    go_wp2_with (go_at_call 53; refine (isNaN_any _ _).mono ?_; rintro e w' ⟨rfl, rfl⟩)
    go_ret
    exact ⟨ri HF.out.symm, rfl⟩

end Go.Proofs.YtjnbdgldpmmamaaGreat
