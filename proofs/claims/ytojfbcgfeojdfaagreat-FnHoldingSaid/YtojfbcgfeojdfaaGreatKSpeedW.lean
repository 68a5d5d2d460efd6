/-
  Speeds and work that is done: the walks.
-/
import Derived.Test.YtojfbcgfeojdfaaGreatKSpeed
import Derived.Deep.LoopGhost
namespace Go.Proofs.YtojfbcgfeojdfaaGreat
set_option linter.unusedSimpArgs false
set_option linter.unusedVariables false
open Go.RowKit

set_option maxRecDepth 100000 in
set_option maxHeartbeats 1000000 in
theorem l2Apart_any (W : Nat) (H : Int) (s : Value) (a b : Nat) (w : World) (hW : 1 ≤ W ∧ W ≤ 5) (ha : a ≤ 1000) (hb : b ≤ 1000) :
    Calls Tryz.prog 110 #[.agg #[.int .i64 W, .int .i64 H, s], .int .i64 a, .int .i64 b] w fun e w' => e = .returned (.int .i64 (apI W a b)) ∧ Below w.heap.size w w' := by
  have hM := Mem.start w
  have h1 := Nat.mod_le a W
  have h2 := Nat.mod_le b W
  have h3 := Nat.div_le_self a W
  have h4 := Nat.div_le_self b W
  obtain ⟨w1, w2⟩ := hW
  obtain ⟨qa, hqa⟩ : ∃ q, a % W = q := ⟨_, rfl⟩
  obtain ⟨qb, hqb⟩ : ∃ q, b % W = q := ⟨_, rfl⟩
  obtain ⟨ra, hra⟩ : ∃ q, a / W = q := ⟨_, rfl⟩
  obtain ⟨rb, hrb⟩ : ∃ q, b / W = q := ⟨_, rfl⟩
  have e1 : ((a : Int) % (W : Int)) = qa := by rw [← hqa]; rfl
  have e2 : ((b : Int) % (W : Int)) = qb := by rw [← hqb]; rfl
  have e3 : ((a : Int) / (W : Int)) = ra := by rw [← hra]; rfl
  have e4 : ((b : Int) / (W : Int)) = rb := by rw [← hrb]; rfl
  have HF := Lib.hid (show apI W a b = max (max ((qa : Int) - qb) (-((qa : Int) - qb))) (max ((ra : Int) - rb) (-((ra : Int) - rb))) by unfold apI dI; rw [hqa, hqb, hra, hrb]; omega)
  rw [hqa] at h1; rw [hqb] at h2; rw [hra] at h3; rw [hrb] at h4
  have hw0 : ¬ W = 0 := by omega
  have t1 : (a : Int).tmod (W : Int) = qa := by rw [← e1]; exact Int.tmod_eq_emod_of_nonneg (by omega)
  have t2 : (b : Int).tmod (W : Int) = qb := by rw [← e2]; exact Int.tmod_eq_emod_of_nonneg (by omega)
  have r1 : IntKind.i64.wrap (ra : Int) = ra := wrap_in (by omega)
  have r2 : IntKind.i64.wrap (rb : Int) = rb := wrap_in (by omega)
  have s1 : IntKind.i64.wrap ((qa : Int) - qb) = (qa : Int) - qb := wrap_in (by omega)
  have s2 : IntKind.i64.wrap ((ra : Int) - rb) = (ra : Int) - rb := wrap_in (by omega)
  have n1 : IntKind.i64.wrap (-((qa : Int) - qb)) = -((qa : Int) - qb) := wrap_in (by omega)
  have n2 : IntKind.i64.wrap (-((ra : Int) - rb)) = -((ra : Int) - rb) := wrap_in (by omega)
  clear hqa hqb hra hrb e1 e2
  go_enter Tryz.func110, Tryz.ntmps110
  go_wp2_with fail
  apply Mem.atWp
  · exact memA
  clear hM
  intro hM
  refine AtT.startA hM hM 19 (by kernel_rfl) ?_
  clear hM
  intro wd hM
  have hS := hM
  refine AtT.tk 0 ?_ 9 ?_ hS ?_
  rotate_left
  · (intro wS hSw; (try dsimp only at hSw); go_simp; (try rw [if_neg (by omega)]); try with_reducible rfl)
  simp only [Act.put, sA]
  refine AtT.tk 1 ?_ 10 ?_ hS ?_
  rotate_left
  · (intro wS hSw; (try dsimp only at hSw); go_simp; (try rw [if_neg (by omega)]); try with_reducible rfl)
  simp only [Act.put, sA]
  refine AtT.tk 2 ?_ 11 ?_ hS ?_
  rotate_left
  · (intro wS hSw; (try dsimp only at hSw); have kr0 := (Mem.row hSw .here).cell; go_simp; (try rw [if_neg (by omega)]); try with_reducible rfl)
  simp only [Act.put, sA]
  refine AtT.tk 3 ?_ 12 ?_ hS ?_
  rotate_left
  · (intro wS hSw; (try dsimp only at hSw); go_simp; (try rw [if_neg (by omega)]); try with_reducible rfl)
  simp only [Act.put, sA]
  refine AtT.tk 4 ?_ 13 ?_ hS ?_
  rotate_left
  · (intro wS hSw; (try dsimp only at hSw); go_simp; (try rw [if_neg (by omega)]); try with_reducible rfl)
  simp only [Act.put, sA]
  refine AtT.tk 5 ?_ 14 ?_ hS ?_
  rotate_left
  · (intro wS hSw; (try dsimp only at hSw); go_simp; (try rw [if_neg (by omega)]); try with_reducible rfl)
  simp only [Act.put, sA]
  refine AtT.tk 6 ?_ 15 ?_ hS ?_
  rotate_left
  · (intro wS hSw; (try dsimp only at hSw); have kr0 := (Mem.row hSw .here).cell; go_simp; (try rw [if_neg (by omega)]); try with_reducible rfl)
  simp only [Act.put, sA]
  refine AtT.tk 7 ?_ 16 ?_ hS ?_
  rotate_left
  · (intro wS hSw; (try dsimp only at hSw); go_simp; (try rw [if_neg (by omega)]); try with_reducible rfl)
  simp only [Act.put, sA]
  refine AtT.tk 8 ?_ 17 ?_ hS ?_
  rotate_left
  · (intro wS hSw; (try dsimp only at hSw); go_simp; (try rw [if_neg (by omega)]); try with_reducible rfl)
  simp only [Act.put, sA]
  refine AtT.tk 9 ?_ 18 ?_ hS ?_
  rotate_left
  · (intro wS hSw; (try dsimp only at hSw); go_simp; (try rw [if_neg (by omega)]); try with_reducible rfl)
  simp only [Act.put, sA]
  refine AtT.tk 10 ?_ 19 ?_ hS ?_
  rotate_left
  · (intro wS hSw; (try dsimp only at hSw); go_simp; (try rw [if_neg (by omega)]); try with_reducible rfl)
  simp only [Act.put, sA]
  refine AtT.tk 11 ?_ 20 ?_ hS ?_
  rotate_left
  · (intro wS hSw; (try dsimp only at hSw); have kr0 := (Mem.row hSw .here).cell; go_simp; (try rw [if_neg (by omega)]); try with_reducible rfl)
  simp only [Act.put, sA]
  refine AtT.tk 12 ?_ 21 ?_ hS ?_
  rotate_left
  · (intro wS hSw; (try dsimp only at hSw); go_simp; (try rw [if_neg (by omega)]); try with_reducible rfl)
  simp only [Act.put, sA]
  refine AtT.tk 13 ?_ 22 ?_ hS ?_
  rotate_left
  · (intro wS hSw; (try dsimp only at hSw); go_simp; (try rw [if_neg (by omega)]); try with_reducible rfl)
  simp only [Act.put, sA]
  refine AtT.tk 14 ?_ 23 ?_ hS ?_
  rotate_left
  · (intro wS hSw; (try dsimp only at hSw); go_simp; (try rw [if_neg (by omega)]); try with_reducible rfl)
  simp only [Act.put, sA]
  refine AtT.tk 15 ?_ 24 ?_ hS ?_
  rotate_left
  · (intro wS hSw; (try dsimp only at hSw); have kr0 := (Mem.row hSw .here).cell; go_simp; (try rw [if_neg (by omega)]); try with_reducible rfl)
  simp only [Act.put, sA]
  refine AtT.tk 16 ?_ 25 ?_ hS ?_
  rotate_left
  · (intro wS hSw; (try dsimp only at hSw); go_simp; (try rw [if_neg (by omega)]); try with_reducible rfl)
  simp only [Act.put, sA]
  refine AtT.tk 17 ?_ 26 ?_ hS ?_
  rotate_left
  · (intro wS hSw; (try dsimp only at hSw); go_simp; (try rw [if_neg (by omega)]); try with_reducible rfl)
  simp only [Act.put, sA]
  refine AtT.tk 18 ?_ 7 ?_ hS ?_
  rotate_left
  · (intro wS hSw; (try dsimp only at hSw); go_simp; (try rw [if_neg (by omega)]); try with_reducible rfl)
  simp only [Act.put, sA]
  refine AtT.last (by kernel_rfl) rfl (by kernel_rfl) ?_
  intro K hK
  clear hS
  go_simp
  refine hK.out _ _ ?_
  clear hK K
  clear hw0 t1 t2 r1 r2 s1 s2 e3 e4
  go_wp2_with fail
  refine (l1Most_any _ _ _).mono ?_
  rintro e w1 ⟨rfl, rfl⟩
  go_wp2_with fail
  refine (l1Most_any _ _ _).mono ?_
  rintro e w1 ⟨rfl, rfl⟩
  go_wp2_with fail
  refine (l1Most_any _ _ _).mono ?_
  rintro e w1 ⟨rfl, rfl⟩
  go_wp2
  go_ret
  exact ⟨ri (by rw [HF.out]; omega), (by apply Mem.below; (exact memA))⟩

/-- does it burn there -/
def brn (xs : List Int) (c : Nat) : Bool := decide (0 < xs.getD c 0)
set_option maxRecDepth 100000 in
set_option maxHeartbeats 400000 in
theorem burns_any (W H : Int) (a : Option Addr) (n c : Nat) (xs : List Int) (k : Nat) (w : World) (h : Ints w a n c xs) (hk : k < n) :
    Calls Tryz.prog 40 #[.agg #[.int .i64 W, .int .i64 H, .slice a n c], .int .i64 k] w fun e w' => e = .returned (.bool (brn xs k)) ∧ Below w.heap.size w w' := by
  obtain ⟨b, off, rfl, hb, hc⟩ := h.at' _ hk
  have hn := h.cap
  have hc' := h.room
  have hck := hc k hk
  have hck2 := ((h.alloc (.cells #[.int .i64 W, .int .i64 H, .slice (some ⟨b, off, none⟩) n c] 26)).get hk)
  clear hc
  obtain ⟨x, hx⟩ : ∃ x, xs.getD k 0 = x := ⟨_, rfl⟩
  rw [hx] at hck hck2
  have HX := Lib.hid (show brn xs k = decide (0 < x) by unfold brn; rw [hx])
  clear hx hck
  have i1 : (k : Int) < (n : Int) := by omega
  go_enter Tryz.func40, Tryz.ntmps40
  go_wp2
  go_ret
  exact ⟨rb HX.out.symm, by (repeat' (first | exact Below.refl _ _ | with_reducible refine Below.setCell ?_ (by first | omega | (simp; done) | (simp; omega)) _ | with_reducible refine Below.alloc ?_ (by first | omega | (simp; done) | (simp; omega)) _ | with_reducible refine Below.drew ?_ | with_reducible refine bdrewN ?_ _))⟩

set_option maxRecDepth 100000 in
set_option maxHeartbeats 400000 in
theorem indexI_any (a : Option Addr) (n c : Nat) (xs : List Int) (x : Int) (w : World) (h : Ints w a n c xs) :
    Calls Tryz.prog 149 #[.slice a n c, .int .i64 x] w fun e w' => e = .returned (.int .i64 (firstI (· == x) xs)) ∧ w = w' := by
  have hn := h.cap
  have hc := h.room
  have HL := Lib.hid h.len
  go_enter Tryz.func149, Tryz.ntmps149
  go_wp2
  go_loop [8] (fun i => ∃ k : Nat, k ≤ n ∧ i = .int .i64 k ∧ (xs.take k).any (· == x) = false) (fun i => n - (intOf i).toNat)
  case atStart => exact ⟨0, Nat.zero_le _, rfl, by simp⟩
  case round =>
    obtain ⟨k, hk, rfl, hall⟩ := hrel
    have HA := Lib.hid hall; clear hall
    by_cases hlt : k < n
    · obtain ⟨b, off, rfl, hb, hcell⟩ := h.at' _ hlt
      have hck := hcell k hlt
      clear hcell
      have hkx : k < xs.length := by rw [HL.out]; exact hlt
      obtain ⟨y, hy⟩ : ∃ y, xs.getD k 0 = y := ⟨_, rfl⟩
      rw [hy] at hck
      have HX := Lib.hid hy; clear hy
      have HS := Lib.hid (any_take_succ (p := (· == x)) hkx)
      have HKX := Lib.hid hkx; clear hkx
      by_cases he : x = y
      · have hb1 : (x == y) = true := by simpa using he
        have HE := Lib.hid he; clear he
        go_wp2
        go_ret
        exact ⟨ri (by rw [firstI_at (k := k) HKX.out HA.out (by rw [HX.out, HE.out]; simp)]), rfl⟩
      · have hb1 : (x == y) = false := by simpa using he
        go_wp2
        go_round
        case rel => exact ⟨k + 1, by omega, by go_num, by rw [HS.out, HA.out, HX.out]; simpa using fun e => he e.symm⟩
        case measure => simp [intOf]; omega
    · go_wp2
      go_ret
      obtain rfl : k = n := by omega
      exact ⟨ri (by rw [firstI_none (by rw [← HA.out, List.take_of_length_le (by rw [HL.out]; exact Nat.le_refl _)])]), rfl⟩

/-- is it in the list -/
def hasI (xs : List Int) (x : Int) : Bool := xs.any (· == x)
theorem hasI_iff {xs : List Int} {x : Int} : hasI xs x = true ↔ x ∈ xs := by
  unfold hasI
  rw [List.any_eq_true]
  constructor
  · rintro ⟨y, hy, e⟩
    have : y = x := by simpa using e
    rw [← this]; exact hy
  · exact fun h => ⟨x, h, by simp⟩
theorem any_contains (xs : List Int) (x : Int) : xs.any (· == x) = hasI xs x := rfl

set_option maxRecDepth 100000 in
set_option maxHeartbeats 400000 in
theorem containsI_any (a : Option Addr) (n c : Nat) (xs : List Int) (x : Int) (w : World) (h : Ints w a n c xs) :
    Calls Tryz.prog 122 #[.slice a n c, .int .i64 x] w fun e w' => e = .returned (.bool (hasI xs x)) ∧ w = w' := by
  have HR := Lib.hid (firstI_sign (· == x) xs)
  have HC := Lib.hid (any_contains xs x)
  go_enter Tryz.func122, Tryz.ntmps122
  go_wp2_with fail
  refine (indexI_any a n c xs x _ h).mono ?_
  rintro e w1 ⟨rfl, rfl⟩
  cases hp : xs.any (· == x)
  all_goals
    have hd : decide (0 ≤ firstI (· == x) xs) = xs.any (· == x) := HR.out
    rw [hp] at hd
    go_wp2
    go_ret
    exact ⟨rb (by rw [← HC.out, hp]), rfl⟩

set_option maxRecDepth 100000 in
set_option maxHeartbeats 400000 in
theorem has_any (a : Option Addr) (n c : Nat) (xs : List Int) (x : Int) (w : World) (h : Ints w a n c xs) :
    Calls Tryz.prog 75 #[.slice a n c, .int .i64 x] w fun e w' => e = .returned (.bool (hasI xs x)) ∧ w = w' := by
  go_enter Tryz.func75, Tryz.ntmps75
  go_wp2_with fail
  refine (containsI_any a n c xs x _ h).mono ?_
  rintro e w1 ⟨rfl, rfl⟩
  go_wp2
  go_ret
  exact ⟨rfl, rfl⟩

set_option maxRecDepth 100000 in
set_option maxHeartbeats 400000 in
theorem l1Has_any (a : Option Addr) (n c : Nat) (xs : List Int) (x : Int) (w : World) (h : Ints w a n c xs) :
    Calls Tryz.prog 97 #[.slice a n c, .int .i64 x] w fun e w' => e = .returned (.bool (hasI xs x)) ∧ w = w' := by
  have hn := h.cap
  have hc := h.room
  have HL := Lib.hid h.len
  have HC := Lib.hid (any_contains xs x)
  go_enter Tryz.func97, Tryz.ntmps97
  go_wp2
  go_loop [5] (fun i => ∃ k : Nat, k ≤ n ∧ i = .int .i64 k ∧ (xs.take k).any (· == x) = false) (fun i => n - (intOf i).toNat)
  case atStart => exact ⟨0, Nat.zero_le _, rfl, by simp⟩
  case round =>
    obtain ⟨k, hk, rfl, hall⟩ := hrel
    have HA := Lib.hid hall; clear hall
    by_cases hlt : k < n
    · obtain ⟨b, off, rfl, hb, hcell⟩ := h.at' _ hlt
      have hck := hcell k hlt
      clear hcell
      have hkx : k < xs.length := by rw [HL.out]; exact hlt
      have hmem := getD_mem hkx
      obtain ⟨y, hy⟩ : ∃ y, xs.getD k 0 = y := ⟨_, rfl⟩
      rw [hy] at hck hmem
      have HX := Lib.hid hy; clear hy
      have HS := Lib.hid (any_take_succ (p := (· == x)) hkx)
      have HMEM := Lib.hid hmem; clear hmem hkx
      by_cases he : y = x
      · have hb1 : (y == x) = true := by simpa using he
        have HE := Lib.hid he; clear he
        go_wp2
        go_ret
        exact ⟨rb (by have := HMEM.out; rw [HE.out] at this; exact (hasI_iff.2 this).symm), rfl⟩
      · have hb1 : (y == x) = false := by simpa using he
        go_wp2
        go_round
        case rel => exact ⟨k + 1, by omega, by go_num, by rw [HS.out, HA.out, HX.out]; simpa using he⟩
        case measure => simp [intOf]; omega
    · go_wp2
      go_ret
      obtain rfl : k = n := by omega
      exact ⟨rb (by rw [← HC.out, ← HA.out, List.take_of_length_le (by rw [HL.out]; exact Nat.le_refl _)]), rfl⟩
end Go.Proofs.YtojfbcgfeojdfaaGreat

/-
  Speeds and work that is done: the walks.
-/
namespace Go.Proofs.YtojfbcgfeojdfaaGreat
set_option linter.unusedSimpArgs false
set_option linter.unusedVariables false
open Go.RowKit

set_option maxRecDepth 100000 in
set_option maxHeartbeats 30000000 in
theorem speedAt_any (a1 : Option Addr) (n1 c1 : Nat) (ph : List PhaseI) (t : Int) (w : World) (h1 : Rd FPhase w a1 n1 c1 ph) :
    Calls Tryz.prog 133 #[.slice a1 n1 c1, .int .i64 t] w (fun e w' => e = .returned (.int .i64 (spd ph t)) ∧ Below w.heap.size w w') := by
  have hM := Mem.start w
  have hrm := h1.nroom
  have HL := Lib.hid h1.len
  have HT := Lib.hid (show spd (ph.take n1) t = spd ph t by rw [List.take_of_length_le (by rw [h1.len]; exact Nat.le_refl _)])
  go_enter Tryz.func133, Tryz.ntmps133
  go_wp2_with fail
  go_loopw [5, 10] (fun s5 s10 wr => ∃ k : Nat, k ≤ n1 ∧ s10 = .int .i64 k ∧ s5 = .int .i64 (spd (ph.take k) t) ∧ Mem w.heap.size w wr []) (fun _ s10 _ => n1 - (intOf s10).toNat)
  case atStart => exact ⟨0, Nat.zero_le _, rfl, rfl, hM⟩
  case round =>
    clear hM
    obtain ⟨k, hk, rfl, rfl, hM⟩ := hrel
    by_cases hlt : k < n1
    · obtain ⟨bl, offl, rfl, -, -⟩ := h1.at' _ hlt
      obtain ⟨-, hc0, hc1⟩ := (h1.ext hM.below).cellPhase hlt
      have hsu := spd_take (l := ph) (t := t) (k := k) (by rw [HL.out]; exact hlt)
      obtain ⟨v, hv⟩ : ∃ v, ph.getD k PhaseI.zero = v := ⟨_, rfl⟩
      obtain ⟨sp, hsp⟩ : ∃ v, spd (ph.take k) t = v := ⟨_, rfl⟩
      rw [hv] at hc0 hc1 hsu
      rw [hsp] at hsu ⊢
      obtain ⟨vf, vs⟩ := v
      dsimp only at hc0 hc1 hsu
      have HSU := Lib.hid hsu
      clear hsu hv hsp
      have i0 : (0 : Int) ≤ (k : Int) := by omega
      have i1 : (k : Int) < (n1 : Int) := by omega
      by_cases hp : vf ≤ t
      · have HE := Lib.hid (HSU.out.trans (if_pos hp))
        go_wp2
        go_roundw
        case rel =>
          refine ⟨k + 1, by omega, by go_num, by rw [HE.out], ?_⟩
          apply Mem.pick (is := [])
          · exact memA
          · decide
          · rfl
        case measure => simp [intOf]; omega
      · have HE := Lib.hid (HSU.out.trans (if_neg hp))
        go_wp2
        go_roundw
        case rel =>
          refine ⟨k + 1, by omega, by go_num, by rw [HE.out], ?_⟩
          apply Mem.pick (is := [])
          · exact memA
          · decide
          · rfl
        case measure => simp [intOf]; omega
    · obtain rfl : k = n1 := by omega
      rw [HT.out]
      go_wp2
      go_ret
      exact ⟨rfl, hM.below⟩

set_option maxRecDepth 100000 in
set_option maxHeartbeats 30000000 in
theorem l4Speed_any (a1 : Option Addr) (n1 c1 : Nat) (ph : List PhaseI) (t : Int) (w : World) (h1 : Rd FPhase w a1 n1 c1 ph) (hp : phasesB ph = true) (ht : 0 ≤ t) :
    Calls Tryz.prog 136 #[.slice a1 n1 c1, .int .i64 t] w (fun e w' => e = .returned (.int .i64 (spd ph t)) ∧ Below w.heap.size w w') := by
  have hM := Mem.start w
  have HL := Lib.hid h1.len
  obtain ⟨hok, hl1, hl6⟩ := phasesB_true hp
  rw [h1.len] at hl1 hl6 hok
  have HOK := Lib.hid hok
  have HP := Lib.hid hp
  clear hp hok
  go_enter Tryz.func136, Tryz.ntmps136
  go_wp2_with fail
  go_loopw [5] (fun s5 wr => ∃ k : Nat, k < n1 ∧ s5 = .int .i64 k ∧ (ph.getD k PhaseI.zero).fr ≤ t ∧ Mem w.heap.size w wr []) (fun s5 _ => n1 - (intOf s5).toNat)
  case atStart => exact ⟨0, by omega, rfl, by rw [(phOK_true (HOK.out 0 (by omega))).2.2.1 rfl]; exact ht, hM⟩
  case round =>
    clear hM
    obtain ⟨k, hk, rfl, hfr, hM⟩ := hrel
    have HFR := Lib.hid hfr; clear hfr
    have i0 : (0 : Int) ≤ (k : Int) := by omega
    have hwk : IntKind.i64.wrap ((k : Int) + 1) = ((k + 1 : Nat) : Int) := by rw [wrap_in (by omega)]; omega
    obtain ⟨bl, offl, rfl, -, -⟩ := h1.at' _ hk
    obtain ⟨-, hd0, hd1⟩ := (h1.ext hM.below).cellPhase hk
    obtain ⟨s, hs⟩ : ∃ s, (ph.getD k PhaseI.zero).sp = s := ⟨_, rfl⟩
    rw [hs] at hd1
    have HS := Lib.hid hs
    clear hs hd0
    by_cases hlt : k + 1 < n1
    · obtain ⟨-, hc0, hc1⟩ := (h1.ext hM.below).cellPhase hlt
      have i1 : ((k + 1 : Nat) : Int) < (n1 : Int) := by omega
      obtain ⟨v, hv⟩ : ∃ v, (ph.getD (k + 1) PhaseI.zero).fr = v := ⟨_, rfl⟩
      rw [hv] at hc0
      have HV := Lib.hid hv
      clear hv
      by_cases hp : v ≤ t
      · go_wp2
        go_roundw
        case rel => exact ⟨k + 1, hlt, by go_num, by rw [HV.out]; exact hp, hM⟩
        case measure => simp [intOf]; omega
      · have HA := Lib.hid (spd_at HP.out (by rw [HL.out]; exact hk) HFR.out (fun _ => by rw [HV.out]; omega))
        go_wp2
        go_ret
        exact ⟨ri (by rw [HA.out, HS.out]), hM.below⟩
    · have i1 : ¬ ((k + 1 : Nat) : Int) < (n1 : Int) := by omega
      have HA := Lib.hid (spd_at HP.out (by rw [HL.out]; exact hk) HFR.out (fun h => by rw [HL.out] at h; omega))
      go_wp2
      go_ret
      exact ⟨ri (by rw [HA.out, HS.out]), hM.below⟩

set_option maxRecDepth 100000 in
set_option maxHeartbeats 30000000 in
theorem done_any (a1 : Option Addr) (n1 c1 : Nat) (ph : List PhaseI) (t : Int) (wk : Int) (w : World) (h1 : Rd FPhase w a1 n1 c1 ph) (hp : phasesB ph = true) (ht : 0 ≤ t ∧ t ≤ 100000) (hw : wk ≤ 1000 ∧ -10 ≤ wk) :
    Calls Tryz.prog 95 #[.slice a1 n1 c1, .int .i64 t, .int .i64 wk] w (fun e w' => e = .returned (.int .i64 (doneT (spd ph) t wk)) ∧ Below w.heap.size w w') := by
  have hM := Mem.start w
  have HP := Lib.hid hp
  obtain ⟨D, hD⟩ : ∃ D, doneT (spd ph) t wk = D := ⟨_, rfl⟩
  rw [hD]
  have HD := Lib.hid hD
  clear hp hD
  go_enter Tryz.func95, Tryz.ntmps95
  go_wp2_with fail
  go_loopg [1, 2] 2000 (fun gh s1 s2 wr => ∃ tt ww : Int, s1 = .int .i64 tt ∧ s2 = .int .i64 ww ∧ 0 ≤ tt ∧ tt + gh ≤ 102000 ∧ ww ≤ gh ∧ -10 ≤ ww ∧ doneT (spd ph) tt ww = D ∧ Mem w.heap.size w wr [])
  case atStart => exact ⟨t, wk, rfl, rfl, by omega, by omega, by omega, by omega, HD.out, hM⟩
  case round =>
    clear hM
    obtain ⟨tt, ww, rfl, rfl, ht0, htg, hwg, hw10, hd, hM⟩ := hrel
    have HDD := Lib.hid hd; clear hd
    by_cases hw0 : 0 < ww
    · have hst := (doneT_step (fun t h => (spd_pos HP.out (t := t) h).1) ht0 hw0).symm.trans HDD.out
      obtain ⟨hs1, hs9⟩ := spd_pos HP.out ht0
      have hcap := spd_cap HP.out ht0
      obtain ⟨sp, hsp⟩ : ∃ s, spd ph tt = s := ⟨_, rfl⟩
      rw [hsp] at hs1 hs9 hst hcap
      have HST := Lib.hid hst; have HSP := Lib.hid hsp; have HCAP := Lib.hid hcap
      clear hst hsp hcap
      have hwr : IntKind.i64.wrap (ww - sp) = ww - sp := wrap_in (by omega)
      have hwt : IntKind.i64.wrap (tt + 1) = tt + 1 := wrap_in (by omega)
      by_cases hmt : tt ≤ 9999
      · have HC := Lib.hid (show spd ph tt = sp from HSP.out)
        go_wp2_with fail
        apply Mem.atA
        · exact memA
        clear hM
        intro wst hM
        (try simp only [World.size_alloc, World.size_setCell, World.heap_drewN, heapDrew, Nat.add_assoc, Nat.reduceAdd, sA, List.cons_append, List.nil_append] at hM)
        apply Calls.mono
        · (apply speedAt_any) <;> (first | (show (_ : Prop); with_reducible assumption) | (apply Hid.out; with_reducible assumption) | (apply Mem.intsR hM; (repeat' (first | with_reducible exact In.here | with_reducible apply In.there)); done) | (apply Ints.ext (hb := hM.below); with_reducible assumption) | (apply Rd.ext (hb := hM.below); with_reducible assumption) | (apply Mem.row hM; (repeat' (first | with_reducible exact In.here | with_reducible apply In.there)); done) | (apply Row.ext (hb := hM.below); with_reducible assumption) | exact ⟨by omega, by omega⟩ | omega | (trace_state; fail))
        rw [HC.out]
        rintro e wc1 ⟨rfl, hb⟩
        replace hM := hM.ext hb
        clear hb
        go_wp2
        go_roundg (gk - 1)
        case measure => omega
        case rel => exact ⟨tt + 1, ww - sp, rfl, rfl, by omega, by omega, by omega, by omega, HST.out, hM⟩
      · have HC := Lib.hid (show spd ph 9999 = sp by have := HCAP.out; rwa [show min tt 9999 = 9999 by omega] at this)
        go_wp2_with fail
        apply Mem.atA
        · exact memA
        clear hM
        intro wst hM
        (try simp only [World.size_alloc, World.size_setCell, World.heap_drewN, heapDrew, Nat.add_assoc, Nat.reduceAdd, sA, List.cons_append, List.nil_append] at hM)
        apply Calls.mono
        · (apply speedAt_any) <;> (first | (show (_ : Prop); with_reducible assumption) | (apply Hid.out; with_reducible assumption) | (apply Mem.intsR hM; (repeat' (first | with_reducible exact In.here | with_reducible apply In.there)); done) | (apply Ints.ext (hb := hM.below); with_reducible assumption) | (apply Rd.ext (hb := hM.below); with_reducible assumption) | (apply Mem.row hM; (repeat' (first | with_reducible exact In.here | with_reducible apply In.there)); done) | (apply Row.ext (hb := hM.below); with_reducible assumption) | exact ⟨by omega, by omega⟩ | omega | (trace_state; fail))
        rw [HC.out]
        rintro e wc2 ⟨rfl, hb⟩
        replace hM := hM.ext hb
        clear hb
        go_wp2
        go_roundg (gk - 1)
        case measure => omega
        case rel => exact ⟨tt + 1, ww - sp, rfl, rfl, by omega, by omega, by omega, by omega, HST.out, hM⟩
    · have hst := (doneT_stop (sp := spd ph) (t := tt) (w := ww) (by omega)).symm.trans HDD.out
      have HST := Lib.hid hst
      clear hst
      go_wp2
      go_ret
      exact ⟨ri HST.out, hM.below⟩

set_option maxRecDepth 100000 in
set_option maxHeartbeats 30000000 in
theorem l4Done_any (a1 : Option Addr) (n1 c1 : Nat) (ph : List PhaseI) (t : Int) (wk : Int) (w : World) (h1 : Rd FPhase w a1 n1 c1 ph) (hp : phasesB ph = true) (ht : 0 ≤ t ∧ t ≤ 100000) (hw : wk ≤ 1000 ∧ -10 ≤ wk) :
    Calls Tryz.prog 99 #[.slice a1 n1 c1, .int .i64 t, .int .i64 wk] w (fun e w' => e = .returned (.int .i64 (doneT (spd ph) t wk)) ∧ Below w.heap.size w w') := by
  have hM := Mem.start w
  have HP := Lib.hid hp
  obtain ⟨D, hD⟩ : ∃ D, doneT (spd ph) t wk = D := ⟨_, rfl⟩
  rw [hD]
  have HD := Lib.hid hD
  clear hp hD
  go_enter Tryz.func99, Tryz.ntmps99
  go_wp2_with fail
  go_loopg [1, 2] 2000 (fun gh s1 s2 wr => ∃ tt ww : Int, s1 = .int .i64 tt ∧ s2 = .int .i64 ww ∧ 0 ≤ tt ∧ tt + gh ≤ 102000 ∧ ww ≤ gh ∧ -10 ≤ ww ∧ doneT (spd ph) tt ww = D ∧ Mem w.heap.size w wr [])
  case atStart => exact ⟨t, wk, rfl, rfl, by omega, by omega, by omega, by omega, HD.out, hM⟩
  case round =>
    clear hM
    obtain ⟨tt, ww, rfl, rfl, ht0, htg, hwg, hw10, hd, hM⟩ := hrel
    have HDD := Lib.hid hd; clear hd
    by_cases hw0 : 0 < ww
    · have hst := (doneT_step (fun t h => (spd_pos HP.out (t := t) h).1) ht0 hw0).symm.trans HDD.out
      obtain ⟨hs1, hs9⟩ := spd_pos HP.out ht0
      obtain ⟨sp, hsp⟩ : ∃ s, spd ph tt = s := ⟨_, rfl⟩
      rw [hsp] at hs1 hs9 hst
      have HST := Lib.hid hst; have HSP := Lib.hid hsp
      clear hst hsp
      have hwr : IntKind.i64.wrap (ww - sp) = ww - sp := wrap_in (by omega)
      have hwt : IntKind.i64.wrap (tt + 1) = tt + 1 := wrap_in (by omega)
      go_wp2_with fail
      apply Mem.atA
      · exact memA
      clear hM
      intro wst hM
      (try simp only [World.size_alloc, World.size_setCell, World.heap_drewN, heapDrew, Nat.add_assoc, Nat.reduceAdd, sA, List.cons_append, List.nil_append] at hM)
      apply Calls.mono
      · (apply l4Speed_any) <;> (first | (show (_ : Prop); with_reducible assumption) | (apply Hid.out; with_reducible assumption) | (apply Mem.intsR hM; (repeat' (first | with_reducible exact In.here | with_reducible apply In.there)); done) | (apply Ints.ext (hb := hM.below); with_reducible assumption) | (apply Rd.ext (hb := hM.below); with_reducible assumption) | (apply Mem.row hM; (repeat' (first | with_reducible exact In.here | with_reducible apply In.there)); done) | (apply Row.ext (hb := hM.below); with_reducible assumption) | exact ⟨by omega, by omega⟩ | omega | (trace_state; fail))
      rw [HSP.out]
      rintro e wc3 ⟨rfl, hb⟩
      replace hM := hM.ext hb
      clear hb
      go_wp2
      go_roundg (gk - 1)
      case measure => omega
      case rel => exact ⟨tt + 1, ww - sp, rfl, rfl, by omega, by omega, by omega, by omega, HST.out, hM⟩
    · have hst := (doneT_stop (sp := spd ph) (t := tt) (w := ww) (by omega)).symm.trans HDD.out
      have HST := Lib.hid hst
      clear hst
      go_wp2
      go_ret
      exact ⟨ri HST.out, hM.below⟩
end Go.Proofs.YtojfbcgfeojdfaaGreat
