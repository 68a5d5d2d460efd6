/-
  Fractions in lowest terms: both sides.
-/
import Derived.Test.YtojfbcgfeojdfaaGreatKNest
import Derived.Test.YtojfbcgfeojdfaaGreatKRd
import Derived.Test.YtojfbcgfeojdfaaGreatKMir
import Derived.Deep.QuietTactic
namespace Go.Proofs.YtojfbcgfeojdfaaGreat
set_option linter.unusedSimpArgs false
set_option linter.unusedVariables false
open Go.RowKit

/-- what a function value answers on the records of a list -/
def AnswersScenario (f : FuncId) (caps : Array Value) (p : ScenarioI → Bool) (xs : List ScenarioI) (w : World) : Prop :=
  ∀ v ∈ xs, ∀ w', Below w.heap.size w w' → Calls Tryz.prog f (#[v.val] ++ caps) w' fun o w'' => o = .returned (.bool (p v)) ∧ Below w'.heap.size w' w''
theorem AnswersScenario.ext {f : FuncId} {caps : Array Value} {p : ScenarioI → Bool} {xs : List ScenarioI} {w w1 : World} (h : AnswersScenario f caps p xs w) (hb : Below w.heap.size w w1) : AnswersScenario f caps p xs w1 :=
  fun v hv w' hb' => h v hv w' (hb.trans (hb'.mono hb.size))

set_option maxRecDepth 100000 in
set_option maxHeartbeats 400000 in
theorem indexScenario_any (f : FuncId) (caps : Array Value) (p : ScenarioI → Bool) (a : Option Addr) (n c : Nat) (xs : List ScenarioI) (w : World) (h : Rd FScenario w a n c xs) (hcf : ∀ args w, (callFunc f args).run Tryz.prog w = .ok (.enter f args) w) (hf : AnswersScenario f caps p xs w) :
    Calls Tryz.prog 164 #[.slice a n c, .func (.func f) #[] caps] w fun o w' => o = .returned (.int .i64 (idxR p xs)) ∧ Below w.heap.size w w' := by
  have hn := h.cap
  have hc := h.nroom
  have HL := Lib.hid h.len
  have HF := Lib.hid hf
  clear hf
  go_enter Tryz.func164, Tryz.ntmps164
  go_wp2
  go_loopw [8] (fun i wr => ∃ k : Nat, k ≤ n ∧ i = .int .i64 k ∧ (xs.take k).any p = false ∧ Below w.heap.size w wr) (fun i _ => n - (intOf i).toNat)
  case atStart => exact ⟨0, Nat.zero_le _, rfl, by simp, Below.refl _ _⟩
  case round =>
    obtain ⟨k, hk, rfl, hall, hbr⟩ := hrel
    have HA := Lib.hid hall; clear hall
    by_cases hlt : k < n
    · obtain ⟨b, off, rfl, _⟩ := (h.ext hbr).at' _ hlt
      obtain ⟨hb, hc0, hc1⟩ := (h.ext hbr).cellScenario hlt
      have hkl : k < xs.length := by rw [HL.out]; exact hlt
      have hmem : xs.getD k ScenarioI.zero ∈ xs := by rw [List.getD_eq_getElem?_getD, List.getElem?_eq_getElem hkl]; exact List.getElem_mem _
      have htk : xs.take (k + 1) = xs.take k ++ [xs.getD k ScenarioI.zero] := take_succV hkl
      have hfi : ((xs.take k).any p = false → p (xs.getD k ScenarioI.zero) = true → xs.findIdx p = k) := by
        intro h1 h2
        have hx : xs[k] = xs.getD k ScenarioI.zero := by simp [List.getD, hkl]
        rw [List.findIdx_eq hkl]
        refine ⟨by rw [hx]; exact h2, fun j hj => ?_⟩
        rw [List.any_eq_false] at h1
        have := h1 (xs[j]'(by omega)) (by
          rw [List.mem_take_iff_getElem]
          exact ⟨j, by omega, rfl⟩)
        simpa using this
      have hfi2 := hfi HA.out
      clear hfi
      obtain ⟨v, hv⟩ : ∃ v, xs.getD k ScenarioI.zero = v := ⟨_, rfl⟩
      rw [hv] at hc0 hc1 hmem htk hfi2
      have HT := Lib.hid htk
      have HFI := Lib.hid hfi2
      clear hv htk hkl hfi2
      go_wp2_with fail
      refine (HF.out v hmem _ hbr).mono ?_
      rintro o w1 ⟨rfl, hb1⟩
      have hb2 : Below w.heap.size w w1 := hbr.trans (hb1.mono hbr.size)
      cases hp : p v
      · go_wp2
        go_roundw
        case rel => exact ⟨k + 1, by omega, by go_num, by rw [HT.out, List.any_append, HA.out]; simp [hp], hb2⟩
        case measure => simp [intOf]; omega
      · go_wp2
        go_ret
        exact ⟨ri (by rw [idxR_pos (List.any_eq_true.2 ⟨v, hmem, hp⟩), HFI.out hp]), hb2⟩
    · go_wp2
      go_ret
      obtain rfl : k = n := by omega
      have hA := HA.out
      rw [List.take_of_length_le (by rw [HL.out]; exact Nat.le_refl _)] at hA
      exact ⟨ri (by rw [idxR_neg hA]), hbr⟩

set_option maxRecDepth 100000 in
set_option maxHeartbeats 400000 in
theorem containsScenario_any (f : FuncId) (caps : Array Value) (p : ScenarioI → Bool) (a : Option Addr) (n c : Nat) (xs : List ScenarioI) (w : World) (h : Rd FScenario w a n c xs) (hcf : ∀ args w, (callFunc f args).run Tryz.prog w = .ok (.enter f args) w) (hf : AnswersScenario f caps p xs w) :
    Calls Tryz.prog 155 #[.slice a n c, .func (.func f) #[] caps] w fun o w' => o = .returned (.bool (xs.any p)) ∧ Below w.heap.size w w' := by
  have HF := Lib.hid hf
  clear hf
  go_enter Tryz.func155, Tryz.ntmps155
  go_wp2_with fail
  refine (indexScenario_any f caps p a n c xs _ h hcf HF.out).mono ?_
  obtain ⟨i, hi, hi2⟩ : ∃ i : Int, idxR p xs = i ∧ decide (0 ≤ i) = xs.any p := ⟨_, rfl, idxR_sign p xs⟩
  rw [hi]
  clear hi
  rintro o w1 ⟨rfl, hb1⟩
  cases hp : xs.any p
  all_goals
    have hd : decide (0 ≤ i) = _ := hi2.trans hp
    clear hi2
    go_wp2
    go_ret
    exact ⟨rb hp.symm, hb1⟩

set_option maxRecDepth 100000 in
set_option maxHeartbeats 400000 in
theorem allScenario1_any (f : FuncId) (caps : Array Value) (y : Bool) (v : ScenarioI) (b : Nat) (w : World) (hlt : b < w.heap.size) (hc : w.cell? ⟨b, 0, none⟩ = some (.func (.func f) #[] caps)) (hcf : ∀ args w, (callFunc f args).run Tryz.prog w = .ok (.enter f args) w)
    (hf : ∀ w', Below w.heap.size w w' → Calls Tryz.prog f (#[v.val] ++ caps) w' fun o w'' => o = .returned (.bool y) ∧ Below w'.heap.size w' w'') :
    Calls Tryz.prog 156 #[v.val, .pointer (some ⟨b, 0, none⟩)] w fun o w' => o = .returned (.bool (!y)) ∧ Below w.heap.size w w' := by
  have HF := Lib.hid hf
  clear hf
  go_enter Tryz.func156, Tryz.ntmps156
  go_wp2_with fail
  refine (HF.out _ (by (repeat' (first | exact Below.refl _ _ | with_reducible refine Below.setCell ?_ (by first | omega | (simp; done) | (simp; omega)) _ | with_reducible refine Below.alloc ?_ (by first | omega | (simp; done) | (simp; omega)) _ | with_reducible refine Below.drew ?_ | with_reducible refine bdrewN ?_ _)))).mono ?_
  rintro o w1 ⟨rfl, hb1⟩
  cases y
  all_goals
    go_wp2
    go_ret
    exact ⟨rfl, by (repeat' (first | exact Below.refl _ _ | with_reducible refine Below.setCell ?_ (by first | omega | (simp; done) | (simp; omega)) _ | with_reducible refine Below.alloc ?_ (by first | omega | (simp; done) | (simp; omega)) _ | with_reducible refine Below.drew ?_ | with_reducible refine bdrewN ?_ _ | with_reducible refine Below.trans ?_ (Below.mono hb1 (by first | omega | (simp; done) | (simp; omega)))))⟩

set_option maxRecDepth 100000 in
set_option maxHeartbeats 400000 in
theorem allScenario_any (f : FuncId) (caps : Array Value) (p : ScenarioI → Bool) (a : Option Addr) (n c : Nat) (xs : List ScenarioI) (w : World) (h : Rd FScenario w a n c xs) (hcf : ∀ args w, (callFunc f args).run Tryz.prog w = .ok (.enter f args) w) (hf : AnswersScenario f caps p xs w) :
    Calls Tryz.prog 137 #[.slice a n c, .func (.func f) #[] caps] w fun o w' => o = .returned (.bool (xs.all p)) ∧ Below w.heap.size w w' := by
  have HF := Lib.hid hf
  clear hf
  have hA : AnswersScenario 156 #[.pointer (some ⟨w.heap.size, 0, none⟩)] (fun v => !p v) xs (w.alloc (.cells #[.func (.func f) #[] caps] 91)) := by
    intro v hv w' hb
    exact allScenario1_any f caps (p v) v w.heap.size w' (by have := hb.size; simp at this; omega) (by
      have := hb.cell (p := ⟨w.heap.size, 0, none⟩) (by simp)
      rw [this]; exact newRow w _ rfl _ _ 0) hcf (fun w'' hb2 => HF.out v hv w'' (by
        have h1 : Below w.heap.size w w' := Below.trans ((Below.refl _ _).alloc (Nat.le_refl _) _) (hb.mono (by simp))
        exact h1.trans (hb2.mono h1.size)))
  have HA := Lib.hid hA
  clear hA
  have HN : Hid ((xs.any fun v => !p v) = !xs.all p) := by
    show _ = _
    clear HF HA h
    induction xs with
    | nil => rfl
    | cons v r ih => simp only [List.any_cons, List.all_cons, ih]; cases p v <;> simp
  have hmf : ∀ (fn : Fn) (first cap : Array Value) (w : World), (Instr.makeFunc fn first cap).run Tryz.prog w = .ok (.func fn first cap) w := fun _ _ _ _ => rfl
  go_enter Tryz.func137, Tryz.ntmps137
  go_wp2_with fail
  refine (containsScenario_any _ _ _ a n c xs _ (h.ext ((Below.refl _ _).alloc (Nat.le_refl _) _)) (enters Tryz.func156 (by kernel_rfl) rfl) HA.out).mono ?_
  rintro o w1 ⟨rfl, hb1⟩
  rw [HN.out]
  cases hp : xs.all p
  all_goals
    go_wp2
    go_ret
    exact ⟨rb hp.symm, ((Below.refl _ _).alloc (Nat.le_refl _) _).trans (hb1.mono (by simp))⟩
end Go.Proofs.YtojfbcgfeojdfaaGreat

/-
  Fractions in lowest terms: both sides.
-/
namespace Go.Proofs.YtojfbcgfeojdfaaGreat
set_option linter.unusedSimpArgs false
set_option linter.unusedVariables false
open Go.RowKit

/-- the greatest common divisor of numbers that are not negative -/
def gcdI (a b : Int) : Int := (Nat.gcd a.toNat b.toNat : Nat)
theorem gcdI_step (a b : Nat) (h : 0 < b) : gcdI a b = gcdI b ((a % b : Nat) : Int) := by
  simp only [gcdI, Int.toNat_natCast]
  rw [Nat.gcd_comm a b, Nat.gcd_rec b a, Nat.gcd_comm]
theorem gcdI_zero (a : Nat) : gcdI a 0 = a := by simp [gcdI]
theorem gcdI_pos {a b : Int} (hb : 0 < b) : 1 ≤ gcdI a b := by
  unfold gcdI
  have := Nat.gcd_pos_of_pos_right a.toNat (show 0 < b.toNat by omega)
  omega

set_option maxHeartbeats 1000000 in
theorem gcd_any (a b : Int) (w : World) (ha : 0 ≤ a ∧ a ≤ 1000000000) (hb : 0 ≤ b ∧ b ≤ 1000000000) :
    Calls Tryz.prog 139 #[.int .i64 a, .int .i64 b] w fun e w' => e = .returned (.int .i64 (gcdI a b)) ∧ Below w.heap.size w w' := by
  obtain ⟨a0, a1⟩ := ha
  obtain ⟨b0, b1⟩ := hb
  go_enter Tryz.func139, Tryz.ntmps139
  go_wp2
  go_loopw [0, 1] (fun x y wr => ∃ p q : Nat, x = .int .i64 p ∧ y = .int .i64 q ∧ p ≤ 1000000000 ∧ q ≤ 1000000000 ∧ gcdI a b = gcdI p q ∧ Below w.heap.size w wr) (fun _ y _ => (intOf y).toNat)
  case atStart => exact ⟨a.toNat, b.toNat, by rw [Int.toNat_of_nonneg a0], by rw [Int.toNat_of_nonneg b0], by omega, by omega, by rw [Int.toNat_of_nonneg a0, Int.toNat_of_nonneg b0], Below.refl _ _⟩
  case round =>
    obtain ⟨p, q, rfl, rfl, hp, hq, hg, hbr⟩ := hrel
    have HG := Lib.hid hg; clear hg
    by_cases h : 0 < q
    · have hm : ((p : Int) % (q : Int)) = ((p % q : Nat) : Int) := (Int.natCast_emod _ _).symm
      have hml := Nat.mod_lt p h
      have hst := gcdI_step p q h
      obtain ⟨r, hr⟩ : ∃ r, p % q = r := ⟨_, rfl⟩
      rw [hr] at hm hml hst
      have HST := Lib.hid hst; clear hst hr
      have hne : ((q : Int) != 0) = true := by simp; omega
      have hmt : (p : Int).tmod (q : Int) = (r : Int) := by rw [Int.tmod_eq_emod_of_nonneg (by omega)]; exact hm
      have HM := Lib.hid hm
      have q0 : (q : Int) ≠ 0 := by omega
      go_wp2
      go_quiet (fail)
      go_wp2
      go_roundw
      case rel => exact ⟨q, r, rfl, by first | rfl | rw [HM.out], hq, by omega, by rw [HG.out, HST.out], bdrewN hbr _⟩
      case measure => simp [intOf]; omega
    · obtain rfl : q = 0 := by omega
      go_wp2
      go_ret
      exact ⟨ri (by rw [HG.out, show (((0 : Nat) : Int)) = 0 from rfl, gcdI_zero p]; try omega), hbr⟩

/-- a fraction in lowest terms -/
def redA (a b : Int) : Int := a / gcdI a b
def redB (a b : Int) : Int := b / gcdI a b

set_option maxHeartbeats 1000000 in
theorem fraction_any (a b : Int) (w : World) (ha : 0 ≤ a ∧ a ≤ 1000000000) (hb : 0 < b ∧ b ≤ 1000000000) :
    Calls Tryz.prog 104 #[.int .i64 a, .int .i64 b] w fun e w' => e = .returned (.tuple #[.int .i64 (redA a b), .int .i64 (redB a b)]) ∧ Below w.heap.size w w' := by
  obtain ⟨a0, a1⟩ := ha
  obtain ⟨b0, b1⟩ := hb
  have hg := gcdI_pos (a := a) b0
  obtain ⟨g, eg⟩ : ∃ g, gcdI a b = g := ⟨_, rfl⟩
  rw [eg] at hg
  have HA := Lib.hid (show redA a b = a / g by rw [redA, eg])
  have HB := Lib.hid (show redB a b = b / g by rw [redB, eg])
  have EG := Lib.hid eg; clear eg
  have d0 : 0 ≤ a / g := Int.ediv_nonneg a0 (by omega)
  have d1 : a / g ≤ a := Int.ediv_le_self _ a0
  have e0 : 0 ≤ b / g := Int.ediv_nonneg (by omega) (by omega)
  have e1 : b / g ≤ b := Int.ediv_le_self _ (by omega)
  have t0 : a.tdiv g = a / g := Int.tdiv_eq_ediv_of_nonneg a0
  have t1 : b.tdiv g = b / g := Int.tdiv_eq_ediv_of_nonneg (by omega)
  have g0 : g ≠ 0 := by omega
  go_enter Tryz.func104, Tryz.ntmps104
  go_wp2_with fail
  refine (gcd_any _ _ _ ⟨a0, a1⟩ ⟨by omega, b1⟩).mono ?_
  rw [EG.out]
  rintro e w1 h1
  obtain ⟨rfl, hb1⟩ : e = .returned (.int .i64 g) ∧ Below w.heap.size w w1 := by first | exact h1 | exact ⟨h1.1, h1.2 ▸ Below.refl _ _⟩
  clear h1
  go_wp2
  go_quiet (fail)
  go_wp2
  go_ret2
  exact ⟨by rw [HA.out, HB.out]; rfl, bdrewN hb1 _⟩

set_option maxHeartbeats 1000000 in
theorem l8Reduce_any (a b : Int) (w : World) (ha : 0 ≤ a ∧ a ≤ 1000000000) (hb : 0 < b ∧ b ≤ 1000000000) :
    Calls Tryz.prog 58 #[.int .i64 a, .int .i64 b] w fun e w' => e = .returned (.tuple #[.int .i64 (redA a b), .int .i64 (redB a b)]) ∧ Below w.heap.size w w' := by
  obtain ⟨a0, a1⟩ := ha
  obtain ⟨b0, b1⟩ := hb
  have hg := gcdI_pos (a := a) b0
  obtain ⟨g, eg⟩ : ∃ g, gcdI a b = g := ⟨_, rfl⟩
  rw [eg] at hg
  have HA := Lib.hid (show redA a b = a / g by rw [redA, eg])
  have HB := Lib.hid (show redB a b = b / g by rw [redB, eg])
  have EG := Lib.hid eg; clear eg
  have d0 : 0 ≤ a / g := Int.ediv_nonneg a0 (by omega)
  have d1 : a / g ≤ a := Int.ediv_le_self _ a0
  have e0 : 0 ≤ b / g := Int.ediv_nonneg (by omega) (by omega)
  have e1 : b / g ≤ b := Int.ediv_le_self _ (by omega)
  have t0 : a.tdiv g = a / g := Int.tdiv_eq_ediv_of_nonneg a0
  have t1 : b.tdiv g = b / g := Int.tdiv_eq_ediv_of_nonneg (by omega)
  have g0 : g ≠ 0 := by omega
  go_enter Tryz.func58, Tryz.ntmps58
  go_wp2
  go_loopw [6, 7] (fun x y wr => ∃ p q : Nat, x = .int .i64 p ∧ y = .int .i64 q ∧ p ≤ 1000000000 ∧ q ≤ 1000000000 ∧ gcdI a b = gcdI p q ∧ Below w.heap.size w wr) (fun _ y _ => (intOf y).toNat)
  case atStart => exact ⟨a.toNat, b.toNat, by rw [Int.toNat_of_nonneg a0], by rw [Int.toNat_of_nonneg (by omega)], by omega, by omega, by rw [Int.toNat_of_nonneg a0, Int.toNat_of_nonneg (by omega)], Below.refl _ _⟩
  case round =>
    obtain ⟨p, q, rfl, rfl, hp, hq, hgg, hbr⟩ := hrel
    have HG := Lib.hid hgg; clear hgg
    by_cases h : 0 < q
    · have hm : ((p : Int) % (q : Int)) = ((p % q : Nat) : Int) := (Int.natCast_emod _ _).symm
      have hml := Nat.mod_lt p h
      have hst := gcdI_step p q h
      obtain ⟨r, hr⟩ : ∃ r, p % q = r := ⟨_, rfl⟩
      rw [hr] at hm hml hst
      have HST := Lib.hid hst; clear hst hr
      have hne : ((q : Int) != 0) = true := by simp; omega
      have hmt : (p : Int).tmod (q : Int) = (r : Int) := by rw [Int.tmod_eq_emod_of_nonneg (by omega)]; exact hm
      have HM := Lib.hid hm
      have q0 : (q : Int) ≠ 0 := by omega
      go_wp2
      go_roundw
      case rel => exact ⟨q, r, rfl, by first | rfl | rw [HM.out], hq, by omega, by rw [HG.out, HST.out], by first | exact hbr | exact bdrewN hbr _⟩
      case measure => simp [intOf]; omega
    · obtain rfl : q = 0 := by omega
      have hpg : (p : Int) = g := by rw [← EG.out, HG.out]; exact (gcdI_zero p).symm
      obtain rfl := hpg
      go_wp2
      go_quiet (fail)
      go_wp2
      go_ret2
      exact ⟨by rw [HA.out, HB.out]; rfl, by first | exact hbr | exact bdrewN hbr _⟩
end Go.Proofs.YtojfbcgfeojdfaaGreat
