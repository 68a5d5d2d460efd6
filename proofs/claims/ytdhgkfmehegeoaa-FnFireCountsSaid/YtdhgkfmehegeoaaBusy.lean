import Derived.Test.YtdhgkfmehegeoaaShare
namespace Go.Proofs.Ytdhgkfmehegeoaa
set_option linter.unusedSimpArgs false
set_option linter.unusedVariables false
open Go.RowKit

def inWeek (d : Int) (x : FireI) : Bool := inB x.day d (d + 6)
def cntW (xs : List FireI) (d : Int) : Int := ((xs.filter (inWeek d)).length : Nat)
/-- the best week among the first d days, and its fires -/
def weekI (xs : List FireI) : Nat → Int × Int
  | 0 => (0, 0)
  | d + 1 => if (weekI xs d).2 < cntW xs d then ((d : Int), cntW xs d) else weekI xs d
def busyR (xs : List FireI) : Share3 := if seasonB xs && !(xs.length == 0) then ⟨(weekI xs 359).1, (weekI xs 359).2, true⟩ else ⟨0, 0, false⟩
theorem cntW_bound (xs : List FireI) (d : Int) : 0 ≤ cntW xs d ∧ cntW xs d ≤ xs.length := by
  have := List.length_filter_le (inWeek d) xs
  unfold cntW
  omega
theorem weekI_bound (xs : List FireI) : ∀ d : Nat, 0 ≤ (weekI xs d).1 ∧ (weekI xs d).1 ≤ d ∧ 0 ≤ (weekI xs d).2 ∧ (weekI xs d).2 ≤ xs.length
  | 0 => by simp [weekI]
  | d + 1 => by
    have h1 := weekI_bound xs d
    have h2 := cntW_bound xs d
    simp only [weekI]
    split
    · dsimp only; omega
    · omega
/-- as the reference counts: the first week is taken always -/
def weekS (xs : List FireI) : Nat → Int × Int
  | 0 => (0, -1)
  | d + 1 => weekI xs (d + 1)
theorem weekS_step (xs : List FireI) (d : Nat) : weekS xs (d + 1) = if (weekS xs d).2 < cntW xs d then ((d : Int), cntW xs d) else weekS xs d := by
  cases d with
  | zero =>
    have h := cntW_bound xs 0
    rw [show weekS xs (0 + 1) = if (0 : Int) < cntW xs 0 then ((0 : Int), cntW xs 0) else (0, 0) from rfl, show weekS xs 0 = ((0 : Int), (-1 : Int)) from rfl]
    show _ = if (-1 : Int) < cntW xs 0 then ((0 : Int), cntW xs 0) else (0, -1)
    rw [if_pos (show (-1 : Int) < cntW xs 0 by omega)]
    by_cases h0 : 0 < cntW xs 0
    · rw [if_pos h0]
    · rw [if_neg h0, show cntW xs 0 = 0 by omega]
  | succ d => rfl
def cntE (xs : List FireI) (d : Int) : Int := ((xs.filter fun x => x.day == d).length : Nat)
/-- the fires of m days from d on -/
def cntM (xs : List FireI) (d : Int) (m : Nat) : Int := ((xs.filter fun x => decide (d ≤ x.day ∧ x.day < d + m)).length : Nat)
theorem cntM_zero (xs : List FireI) (d : Int) : cntM xs d 0 = 0 := by
  unfold cntM
  rw [List.filter_eq_nil_iff.2 (by intro x _; simp)]
  rfl
theorem cntM_succ (xs : List FireI) (d : Int) (m : Nat) : cntM xs d (m + 1) = cntM xs d m + cntE xs (d + m) := by
  unfold cntM cntE
  induction xs with
  | nil => rfl
  | cons x xs ih =>
    have e1 : ∀ b : Bool, ∀ l : List FireI, ((if b then x :: l else l).length : Int) = (if b then 1 else 0) + l.length := by
      intro b l; cases b <;> simp <;> omega
    simp only [List.filter_cons]
    rw [e1, e1, e1]
    simp only [Int.natCast_add, Int.natCast_one] at ih ⊢
    rw [ih]
    have h3 : ((if decide (d ≤ x.day ∧ x.day < d + ((m : Int) + 1)) then 1 else 0 : Int)) = (if decide (d ≤ x.day ∧ x.day < d + m) then 1 else 0) + (if x.day == d + m then 1 else 0) := by
      by_cases h4 : x.day = d + m
      · rw [if_pos (by simp; omega), if_neg (by simp; omega), if_pos (by simpa using h4)]; rfl
      · by_cases h5 : d ≤ x.day ∧ x.day < d + m
        · rw [if_pos (by simp; omega), if_pos (by simpa using h5), if_neg (by simpa using h4)]; rfl
        · rw [if_neg (by simp; omega), if_neg (by simpa using h5), if_neg (by simpa using h4)]; rfl
    rw [h3]
    omega
theorem cntM_week (xs : List FireI) (d : Int) : cntM xs d 7 = cntW xs d := by
  unfold cntM cntW
  congr 2
  apply List.filter_congr
  intro x _
  simp only [inWeek, inB]
  congr 1
  simp only [eq_iff_iff]
  constructor <;> intro h <;> omega
theorem cntM_bound (xs : List FireI) (d : Int) (m : Nat) : 0 ≤ cntM xs d m ∧ cntM xs d m ≤ xs.length := by
  have := List.length_filter_le (fun x : FireI => decide (d ≤ x.day ∧ x.day < d + m)) xs
  unfold cntM
  omega
theorem cntE_bound (xs : List FireI) (d : Int) : 0 ≤ cntE xs d ∧ cntE xs d ≤ xs.length := by
  have := List.length_filter_le (fun x : FireI => x.day == d) xs
  unfold cntE
  omega

set_option maxHeartbeats 400000 in
theorem busy1_any (x : FireI) (d : Nat) (b : Nat) (w : World) (hd : d ≤ 1000) (hb : b < w.heap.size) (hc : w.cell? ⟨b, 0, none⟩ = some (.int .i64 d)) : Calls Try.prog 99 #[x.val, .pointer (some ⟨b, 0, none⟩)] w fun e w' => e = .returned (.bool (inWeek d x)) ∧ Below w.heap.size w w' := by
  have HF := Lib.hid (show inWeek d x = inB x.day d (d + 6) from rfl)
  have hne : w.heap.size ≠ b := by omega
  go_enter Try.func99, Try.ntmps99
  go_wp2_with (go_at_call 70; refine (in_any _ _ _ _).mono ?_; rintro e w' ⟨rfl, rfl⟩)
  go_ret
  exact ⟨rb HF.out.symm, by (repeat' (first | exact Below.refl _ _ | with_reducible refine Below.setCell ?_ (by first | omega | (simp; done) | (simp; omega)) _ | with_reducible refine Below.alloc ?_ (by first | omega | (simp; done) | (simp; omega)) _ | with_reducible refine Below.drew ?_ | with_reducible refine bdrewN ?_ _))⟩

set_option maxRecDepth 100000 in
set_option maxHeartbeats 2000000 in
theorem implBusy_any (a : Option Addr) (n c : Nat) (xs : List FireI) (w : World) (h : Rd FFire w a n c xs) :
    Calls Try.prog 53 #[.slice a n c] w fun e w' => e = .returned (.tuple #[.int .i64 (busyR xs).a, .int .i64 (busyR xs).b, .bool (busyR xs).ok]) ∧ Below w.heap.size w w' := by
  have hn := h.cap
  have hc := h.nroom
  have HL := Lib.hid h.len
  have hM := Mem.start w
  have hmf : ∀ (fn : Fn) (first cap : Array Value) (w : World), (Instr.makeFunc fn first cap).run Try.prog w = .ok (.func fn first cap) w := fun _ _ _ _ => rfl
  cases hs : seasonB xs
  · have HF := Lib.hid (show busyR xs = ⟨0, 0, false⟩ by simp [busyR, hs])
    go_enter Try.func53, Try.ntmps53
    go_wp2_with fail
    apply Mem.at
    · (repeat' (first | with_reducible exact hM | with_reducible exact hMp | with_reducible apply Mem.drew | with_reducible apply Mem.drewN | with_reducible apply Mem.alloc | with_reducible apply Mem.set | with_reducible exact Sto.row | ((with_reducible refine Sto.rowEq2 ?_ ?_); omega; rfl) | ((with_reducible refine Sto.rowEq ?_); omega) | with_reducible apply Sto.int | with_reducible apply Sto.there | with_reducible assumption | (unfold I64; omega) | (with_reducible (have hMx := Mem.undrew hM; exact hMx)) | (with_reducible (have hMx := Mem.undrew hMp; exact hMx))))
    clear hM
    intro hM
    (try simp only [World.size_alloc, World.size_setCell, World.heap_drewN, heapDrew, Nat.add_assoc, Nat.reduceAdd, List.setIfInBounds_toArray, List.set_cons_zero, List.set_cons_succ, List.cons_append, List.nil_append] at hM)
    refine (isSeason_any a n c xs _ (h.ext hM.below)).mono ?_
    rw [hs]
    rintro e w1 ⟨rfl, hb⟩
    replace hM := hM.ext hb
    clear hb
    go_wp2
    go_ret3
    exact ⟨by rw [HF.out]; rfl, (by apply Mem.below; (repeat' (first | with_reducible exact hM | with_reducible exact hMp | with_reducible apply Mem.drew | with_reducible apply Mem.drewN | with_reducible apply Mem.alloc | with_reducible apply Mem.set | with_reducible exact Sto.row | ((with_reducible refine Sto.rowEq2 ?_ ?_); omega; rfl) | ((with_reducible refine Sto.rowEq ?_); omega) | with_reducible apply Sto.int | with_reducible apply Sto.there | with_reducible assumption | (unfold I64; omega) | (with_reducible (have hMx := Mem.undrew hM; exact hMx)) | (with_reducible (have hMx := Mem.undrew hMp; exact hMx)))))⟩
  have v15 := (seasonB_true hs).1
  rw [h.len] at v15
  by_cases h0 : n = 0
  · have HF := Lib.hid (show busyR xs = ⟨0, 0, false⟩ by simp [busyR, h.len, h0])
    subst h0
    go_enter Try.func53, Try.ntmps53
    go_wp2_with fail
    apply Mem.at
    · (repeat' (first | with_reducible exact hM | with_reducible exact hMp | with_reducible apply Mem.drew | with_reducible apply Mem.drewN | with_reducible apply Mem.alloc | with_reducible apply Mem.set | with_reducible exact Sto.row | ((with_reducible refine Sto.rowEq2 ?_ ?_); omega; rfl) | ((with_reducible refine Sto.rowEq ?_); omega) | with_reducible apply Sto.int | with_reducible apply Sto.there | with_reducible assumption | (unfold I64; omega) | (with_reducible (have hMx := Mem.undrew hM; exact hMx)) | (with_reducible (have hMx := Mem.undrew hMp; exact hMx))))
    clear hM
    intro hM
    (try simp only [World.size_alloc, World.size_setCell, World.heap_drewN, heapDrew, Nat.add_assoc, Nat.reduceAdd, List.setIfInBounds_toArray, List.set_cons_zero, List.set_cons_succ, List.cons_append, List.nil_append] at hM)
    refine (isSeason_any a 0 c xs _ (h.ext hM.below)).mono ?_
    rw [hs]
    rintro e w1 ⟨rfl, hb⟩
    replace hM := hM.ext hb
    clear hb
    go_wp2
    go_ret3
    exact ⟨by rw [HF.out]; rfl, (by apply Mem.below; (repeat' (first | with_reducible exact hM | with_reducible exact hMp | with_reducible apply Mem.drew | with_reducible apply Mem.drewN | with_reducible apply Mem.alloc | with_reducible apply Mem.set | with_reducible exact Sto.row | ((with_reducible refine Sto.rowEq2 ?_ ?_); omega; rfl) | ((with_reducible refine Sto.rowEq ?_); omega) | with_reducible apply Sto.int | with_reducible apply Sto.there | with_reducible assumption | (unfold I64; omega) | (with_reducible (have hMx := Mem.undrew hM; exact hMx)) | (with_reducible (have hMx := Mem.undrew hMp; exact hMx)))))⟩
  have HF := Lib.hid (show busyR xs = ⟨(weekI xs 359).1, (weekI xs 359).2, true⟩ by simp [busyR, hs, h.len, h0])
  have hnz : ((n : Int) == 0) = false := by simp; omega
  have HS := Lib.hid hs; clear hs
  go_enter Try.func53, Try.ntmps53
  go_wp2_with fail
  apply Mem.at
  · (repeat' (first | with_reducible exact hM | with_reducible exact hMp | with_reducible apply Mem.drew | with_reducible apply Mem.drewN | with_reducible apply Mem.alloc | with_reducible apply Mem.set | with_reducible exact Sto.row | ((with_reducible refine Sto.rowEq2 ?_ ?_); omega; rfl) | ((with_reducible refine Sto.rowEq ?_); omega) | with_reducible apply Sto.int | with_reducible apply Sto.there | with_reducible assumption | (unfold I64; omega) | (with_reducible (have hMx := Mem.undrew hM; exact hMx)) | (with_reducible (have hMx := Mem.undrew hMp; exact hMx))))
  clear hM
  intro hM
  (try simp only [World.size_alloc, World.size_setCell, World.heap_drewN, heapDrew, Nat.add_assoc, Nat.reduceAdd, List.setIfInBounds_toArray, List.set_cons_zero, List.set_cons_succ, List.cons_append, List.nil_append] at hM)
  refine (isSeason_any a n c xs _ (h.ext hM.below)).mono ?_
  rw [HS.out]
  rintro e w1 ⟨rfl, hb⟩
  replace hM := hM.ext hb
  clear hb
  go_wp2
  go_loopw [5, 6, 7] (fun s5 s6 s7 wr => ∃ d b : Nat, d ≤ 359 ∧ s5 = .int .i64 (weekI xs d).1 ∧ s6 = .int .i64 (weekI xs d).2 ∧ s7 = .pointer (some ⟨b, 0, none⟩) ∧ Mem w.heap.size w wr [rowE b 3 #[.int .i64 d]])
    (fun _ s6 s7 wr => match s7 with | .pointer (some ad) => 359 - (intOf ((wr.cell? ad).getD undef)).toNat | _ => 0)
  case atStart =>
    refine ⟨0, _, by omega, rfl, rfl, rfl, ?_⟩
    rw [show ((0 : Nat) : Int) = 0 from rfl]
    apply Mem.first
    (repeat' (first | with_reducible exact hM | with_reducible exact hMp | with_reducible apply Mem.drew | with_reducible apply Mem.drewN | with_reducible apply Mem.alloc | with_reducible apply Mem.set | with_reducible exact Sto.row | ((with_reducible refine Sto.rowEq2 ?_ ?_); omega; rfl) | ((with_reducible refine Sto.rowEq ?_); omega) | with_reducible apply Sto.int | with_reducible apply Sto.there | with_reducible assumption | (unfold I64; omega) | (with_reducible (have hMx := Mem.undrew hM; exact hMx)) | (with_reducible (have hMx := Mem.undrew hMp; exact hMx))))
  case round =>
    clear hM
    obtain ⟨d, b, hd, rfl, rfl, rfl, hM⟩ := hrel
    have hwb := weekI_bound xs d
    have hcb := cntW_bound xs d
    have hst : weekI xs (d + 1) = if (weekI xs d).2 < cntW xs d then ((d : Int), cntW xs d) else weekI xs d := rfl
    obtain ⟨⟨b1, m1⟩, hbm⟩ : ∃ q, weekI xs d = q := ⟨_, rfl⟩
    rw [hbm] at hwb hst ⊢
    have HB := Lib.hid hbm; clear hbm
    have hcl : cntW xs d = ((xs.filter (inWeek d)).length : Nat) := rfl
    obtain ⟨q, hq⟩ : ∃ q, (xs.filter (inWeek d)).length = q := ⟨_, rfl⟩
    rw [hcl, hq] at hcb hst
    rw [HL.out] at hwb hcb
    have HST := Lib.hid hst; clear hst hcl
    have HQ := Lib.hid hq; clear hq
    dsimp only at hwb
    obtain ⟨u0, u1, u2, u3⟩ := hwb
    obtain ⟨q0, q1⟩ := hcb
    have hmd := (hM.row .here).cell 0
    by_cases hlt : d < 359
    · skip
      obtain ⟨k0, f0, l0⟩ := hM.row .here
      go_wp2_with fail
      clear k0 f0 l0
      apply Mem.at
      · (repeat' (first | with_reducible exact hM | with_reducible exact hMp | with_reducible apply Mem.drew | with_reducible apply Mem.drewN | with_reducible apply Mem.alloc | with_reducible apply Mem.set | with_reducible exact Sto.row | ((with_reducible refine Sto.rowEq2 ?_ ?_); omega; rfl) | ((with_reducible refine Sto.rowEq ?_); omega) | with_reducible apply Sto.int | with_reducible apply Sto.there | with_reducible assumption | (unfold I64; omega) | (with_reducible (have hMx := Mem.undrew hM; exact hMx)) | (with_reducible (have hMx := Mem.undrew hMp; exact hMx))))
      clear hM
      intro hM
      (try simp only [World.size_alloc, World.size_setCell, World.heap_drewN, heapDrew, Nat.add_assoc, Nat.reduceAdd, List.setIfInBounds_toArray, List.set_cons_zero, List.set_cons_succ, List.cons_append, List.nil_append] at hM)
      refine (filterFire_any _ _ (inWeek d) a n c xs _ (h.ext hM.below) (enters Try.func99 (by kernel_rfl) rfl) (fun v _ w' hb => by
        have hr := (hM.row .here).ext hb
        exact busy1_any v d _ w' (by omega) hr.lt (hr.cell 0))).mono ?_
      rw [HQ.out]
      rintro e w4 ⟨a', c', rfl, hO, hb⟩
      replace hM := hM.ext hb
      clear hO hb
      obtain ⟨k0, f0, l0⟩ := hM.row .here
      by_cases hgt : m1 < (q : Int)
      · have hst : weekI xs (d + 1) = ((d : Int), (q : Int)) := by rw [HST.out]; simp [hgt]
        have HW := Lib.hid hst; clear hst
        go_wp2
        go_roundw
        case rel =>
          refine ⟨d + 1, _, by omega, by rw [HW.out], by rw [HW.out], rfl, ?_⟩
          rw [show ((d + 1 : Nat) : Int) = (d : Int) + 1 from rfl]
          apply Mem.first
          (repeat' (first | with_reducible exact hM | with_reducible exact hMp | with_reducible apply Mem.drew | with_reducible apply Mem.drewN | with_reducible apply Mem.alloc | with_reducible apply Mem.set | with_reducible exact Sto.row | ((with_reducible refine Sto.rowEq2 ?_ ?_); omega; rfl) | ((with_reducible refine Sto.rowEq ?_); omega) | with_reducible apply Sto.int | with_reducible apply Sto.there | with_reducible assumption | (unfold I64; omega) | (with_reducible (have hMx := Mem.undrew hM; exact hMx)) | (with_reducible (have hMx := Mem.undrew hMp; exact hMx))))
        case measure => simp [intOf, hmd]; omega
      · have hst : weekI xs (d + 1) = (b1, m1) := by rw [HST.out]; simp [hgt]
        have HW := Lib.hid hst; clear hst
        go_wp2
        go_roundw
        case rel =>
          refine ⟨d + 1, _, by omega, by rw [HW.out], by rw [HW.out], rfl, ?_⟩
          rw [show ((d + 1 : Nat) : Int) = (d : Int) + 1 from rfl]
          apply Mem.first
          (repeat' (first | with_reducible exact hM | with_reducible exact hMp | with_reducible apply Mem.drew | with_reducible apply Mem.drewN | with_reducible apply Mem.alloc | with_reducible apply Mem.set | with_reducible exact Sto.row | ((with_reducible refine Sto.rowEq2 ?_ ?_); omega; rfl) | ((with_reducible refine Sto.rowEq ?_); omega) | with_reducible apply Sto.int | with_reducible apply Sto.there | with_reducible assumption | (unfold I64; omega) | (with_reducible (have hMx := Mem.undrew hM; exact hMx)) | (with_reducible (have hMx := Mem.undrew hMp; exact hMx))))
        case measure => simp [intOf, hmd]; omega
    · obtain rfl : d = 359 := by omega
      obtain ⟨k0, f0, l0⟩ := hM.row .here
      go_wp2
      go_ret3
      exact ⟨by rw [HF.out, HB.out]; rfl, (by apply Mem.below; (repeat' (first | with_reducible exact hM | with_reducible exact hMp | with_reducible apply Mem.drew | with_reducible apply Mem.drewN | with_reducible apply Mem.alloc | with_reducible apply Mem.set | with_reducible exact Sto.row | ((with_reducible refine Sto.rowEq2 ?_ ?_); omega; rfl) | ((with_reducible refine Sto.rowEq ?_); omega) | with_reducible apply Sto.int | with_reducible apply Sto.there | with_reducible assumption | (unfold I64; omega) | (with_reducible (have hMx := Mem.undrew hM; exact hMx)) | (with_reducible (have hMx := Mem.undrew hMp; exact hMx)))))⟩

set_option maxRecDepth 100000 in
set_option maxHeartbeats 1000000 in
theorem l26Began_any (a : Option Addr) (n c : Nat) (xs : List FireI) (d : Int) (w : World) (h : Rd FFire w a n c xs) (h15 : n ≤ 15) :
    Calls Try.prog 100 #[.slice a n c, .int .i64 d] w fun e w' => e = .returned (.int .i64 (cntE xs d)) ∧ w = w' := by
  have hn := h.cap
  have hc := h.nroom
  have HL := Lib.hid h.len
  go_enter Try.func100, Try.ntmps100
  go_wp2
  go_loop [5, 6] (fun t i => ∃ k : Nat, k ≤ n ∧ i = .int .i64 k ∧ t = .int .i64 (cntE (xs.take k) d)) (fun _ i => n - (intOf i).toNat)
  case atStart => exact ⟨0, Nat.zero_le _, rfl, rfl⟩
  case round =>
    obtain ⟨k, hk, rfl, rfl⟩ := hrel
    have hqb := cntE_bound (xs.take k) d
    have hlk : (xs.take k).length ≤ k := List.length_take_le _ _
    obtain ⟨q, hq⟩ : ∃ q, cntE (xs.take k) d = q := ⟨_, rfl⟩
    rw [hq] at hqb
    rw [hq]
    have HQ := Lib.hid hq; clear hq
    obtain ⟨q0, q1⟩ := hqb
    by_cases hlt : k < n
    · obtain ⟨b, off, rfl, _⟩ := h.at' _ hlt
      obtain ⟨hb, hc0, hc1, hc2, hc3⟩ := h.cellFire hlt
      have hkl : k < xs.length := by rw [HL.out]; exact hlt
      have htk := take_succV hkl (z := FireI.zero)
      obtain ⟨v, hvx⟩ : ∃ v, xs.getD k FireI.zero = v := ⟨_, rfl⟩
      rw [hvx] at hc0 htk
      have HTK := Lib.hid htk
      clear hvx htk hkl hc1 hc2 hc3
      have hst : cntE (xs.take (k + 1)) d = q + if v.day == d then 1 else 0 := by
        rw [HTK.out, ← HQ.out]
        unfold cntE
        rw [List.filter_append]
        by_cases e : v.day = d <;> simp [e]
      have HST := Lib.hid hst; clear hst
      by_cases e : v.day = d
      · have hcc : (v.day == d) = true := by simpa using e
        have HE := Lib.hid e; clear e
        go_wp2
        go_round
        case rel => exact ⟨k + 1, by omega, by go_num, by rw [HST.out]; simp [HE.out]⟩
        case measure => simp [intOf]; omega
      · have hcc : (v.day == d) = false := by simpa using e
        go_wp2
        go_round
        case rel => exact ⟨k + 1, by omega, by go_num, by rw [HST.out]; simp [e]⟩
        case measure => simp [intOf]; omega
    · obtain rfl : k = n := by omega
      go_wp2
      go_ret
      exact ⟨ri (by rw [← HQ.out, List.take_of_length_le (by rw [HL.out]; exact Nat.le_refl _)]), rfl⟩

set_option maxRecDepth 100000 in
set_option maxHeartbeats 2000000 in
theorem specBusy_any (a : Option Addr) (n c : Nat) (xs : List FireI) (w : World) (h : Rd FFire w a n c xs) :
    Calls Try.prog 54 #[.slice a n c] w fun e w' => e = .returned (.tuple #[.int .i64 (busyR xs).a, .int .i64 (busyR xs).b, .bool (busyR xs).ok]) ∧ Below w.heap.size w w' := by
  have hn := h.cap
  have hc := h.nroom
  have HL := Lib.hid h.len
  have hM := Mem.start w
  cases hs : seasonB xs
  · have HF := Lib.hid (show busyR xs = ⟨0, 0, false⟩ by simp [busyR, hs])
    go_enter Try.func54, Try.ntmps54
    go_wp2_with fail
    apply Mem.at
    · (repeat' (first | with_reducible exact hM | with_reducible exact hMp | with_reducible apply Mem.drew | with_reducible apply Mem.drewN | with_reducible apply Mem.alloc | with_reducible apply Mem.set | with_reducible exact Sto.row | ((with_reducible refine Sto.rowEq2 ?_ ?_); omega; rfl) | ((with_reducible refine Sto.rowEq ?_); omega) | with_reducible apply Sto.int | with_reducible apply Sto.there | with_reducible assumption | (unfold I64; omega) | (with_reducible (have hMx := Mem.undrew hM; exact hMx)) | (with_reducible (have hMx := Mem.undrew hMp; exact hMx))))
    clear hM
    intro hM
    (try simp only [World.size_alloc, World.size_setCell, World.heap_drewN, heapDrew, Nat.add_assoc, Nat.reduceAdd, List.setIfInBounds_toArray, List.set_cons_zero, List.set_cons_succ, List.cons_append, List.nil_append] at hM)
    refine (l26Good_any a n c xs _ (h.ext hM.below)).mono ?_
    rw [hs]
    rintro e w1 ⟨rfl, hb⟩
    replace hM := hM.ext hb
    clear hb
    go_wp2
    go_ret3
    exact ⟨by rw [HF.out]; rfl, (by apply Mem.below; (repeat' (first | with_reducible exact hM | with_reducible exact hMp | with_reducible apply Mem.drew | with_reducible apply Mem.drewN | with_reducible apply Mem.alloc | with_reducible apply Mem.set | with_reducible exact Sto.row | ((with_reducible refine Sto.rowEq2 ?_ ?_); omega; rfl) | ((with_reducible refine Sto.rowEq ?_); omega) | with_reducible apply Sto.int | with_reducible apply Sto.there | with_reducible assumption | (unfold I64; omega) | (with_reducible (have hMx := Mem.undrew hM; exact hMx)) | (with_reducible (have hMx := Mem.undrew hMp; exact hMx)))))⟩
  have v15 := (seasonB_true hs).1
  rw [h.len] at v15
  by_cases h0 : n = 0
  · have HF := Lib.hid (show busyR xs = ⟨0, 0, false⟩ by simp [busyR, h.len, h0])
    subst h0
    go_enter Try.func54, Try.ntmps54
    go_wp2_with fail
    apply Mem.at
    · (repeat' (first | with_reducible exact hM | with_reducible exact hMp | with_reducible apply Mem.drew | with_reducible apply Mem.drewN | with_reducible apply Mem.alloc | with_reducible apply Mem.set | with_reducible exact Sto.row | ((with_reducible refine Sto.rowEq2 ?_ ?_); omega; rfl) | ((with_reducible refine Sto.rowEq ?_); omega) | with_reducible apply Sto.int | with_reducible apply Sto.there | with_reducible assumption | (unfold I64; omega) | (with_reducible (have hMx := Mem.undrew hM; exact hMx)) | (with_reducible (have hMx := Mem.undrew hMp; exact hMx))))
    clear hM
    intro hM
    (try simp only [World.size_alloc, World.size_setCell, World.heap_drewN, heapDrew, Nat.add_assoc, Nat.reduceAdd, List.setIfInBounds_toArray, List.set_cons_zero, List.set_cons_succ, List.cons_append, List.nil_append] at hM)
    refine (l26Good_any a 0 c xs _ (h.ext hM.below)).mono ?_
    rw [hs]
    rintro e w1 ⟨rfl, hb⟩
    replace hM := hM.ext hb
    clear hb
    go_wp2
    go_ret3
    exact ⟨by rw [HF.out]; rfl, (by apply Mem.below; (repeat' (first | with_reducible exact hM | with_reducible exact hMp | with_reducible apply Mem.drew | with_reducible apply Mem.drewN | with_reducible apply Mem.alloc | with_reducible apply Mem.set | with_reducible exact Sto.row | ((with_reducible refine Sto.rowEq2 ?_ ?_); omega; rfl) | ((with_reducible refine Sto.rowEq ?_); omega) | with_reducible apply Sto.int | with_reducible apply Sto.there | with_reducible assumption | (unfold I64; omega) | (with_reducible (have hMx := Mem.undrew hM; exact hMx)) | (with_reducible (have hMx := Mem.undrew hMp; exact hMx)))))⟩
  have HF := Lib.hid (show busyR xs = ⟨(weekS xs 359).1, (weekS xs 359).2, true⟩ by simp [busyR, hs, h.len, h0, weekS])
  have hnz : ((n : Int) == 0) = false := by simp; omega
  have HS := Lib.hid hs; clear hs
  have HWB : Hid (∀ d : Nat, 0 ≤ (weekS xs d).1 ∧ (weekS xs d).1 ≤ d ∧ -1 ≤ (weekS xs d).2 ∧ (weekS xs d).2 ≤ 15) := by
    intro d
    cases d with
    | zero => simp [weekS]
    | succ d => have := weekI_bound xs (d + 1); rw [HL.out] at this; simp only [weekS]; omega
  go_enter Try.func54, Try.ntmps54
  go_wp2_with fail
  apply Mem.at
  · (repeat' (first | with_reducible exact hM | with_reducible exact hMp | with_reducible apply Mem.drew | with_reducible apply Mem.drewN | with_reducible apply Mem.alloc | with_reducible apply Mem.set | with_reducible exact Sto.row | ((with_reducible refine Sto.rowEq2 ?_ ?_); omega; rfl) | ((with_reducible refine Sto.rowEq ?_); omega) | with_reducible apply Sto.int | with_reducible apply Sto.there | with_reducible assumption | (unfold I64; omega) | (with_reducible (have hMx := Mem.undrew hM; exact hMx)) | (with_reducible (have hMx := Mem.undrew hMp; exact hMx))))
  clear hM
  intro hM
  (try simp only [World.size_alloc, World.size_setCell, World.heap_drewN, heapDrew, Nat.add_assoc, Nat.reduceAdd, List.setIfInBounds_toArray, List.set_cons_zero, List.set_cons_succ, List.cons_append, List.nil_append] at hM)
  refine (l26Good_any a n c xs _ (h.ext hM.below)).mono ?_
  rw [HS.out]
  rintro e w1 ⟨rfl, hb⟩
  replace hM := hM.ext hb
  clear hb
  go_wp2
  go_loop [5, 6, 7] (fun s5 s6 s7 => ∃ d : Nat, d ≤ 359 ∧ s5 = .int .i64 (weekS xs d).1 ∧ s6 = .int .i64 (weekS xs d).2 ∧ s7 = .int .i64 d) (fun _ _ s7 => 359 - (intOf s7).toNat)
  case atStart => exact ⟨0, by omega, rfl, rfl, rfl⟩
  case round =>
    obtain ⟨d, hd, rfl, rfl, rfl⟩ := hrel
    have hwb := HWB.out d
    have hst := weekS_step xs d
    obtain ⟨⟨b1, m1⟩, hbm⟩ : ∃ q, weekS xs d = q := ⟨_, rfl⟩
    rw [hbm] at hwb hst ⊢
    have HB := Lib.hid hbm; clear hbm
    have HST := Lib.hid hst; clear hst
    dsimp only at hwb
    obtain ⟨u0, u1, u2, u3⟩ := hwb
    by_cases hlt : d < 359
    · go_wp2
      go_loop [8, 9] (fun s8 s9 => ∃ m : Nat, m ≤ 7 ∧ s8 = .int .i64 (cntM xs d m) ∧ s9 = .int .i64 m) (fun _ s9 => 7 - (intOf s9).toNat)
      case atStart => exact ⟨0, by omega, by rw [cntM_zero], rfl⟩
      case round =>
        obtain ⟨m, hm, rfl, rfl⟩ := hrel
        have hmb := cntM_bound xs d m
        have heb := cntE_bound xs ((d : Int) + m)
        have hms := cntM_succ xs d m
        have hmw := cntM_week xs d
        rw [HL.out] at hmb heb
        obtain ⟨q, hq⟩ : ∃ q, cntM xs d m = q := ⟨_, rfl⟩
        obtain ⟨e2, he2⟩ : ∃ e2, cntE xs ((d : Int) + m) = e2 := ⟨_, rfl⟩
        rw [hq] at hmb hms ⊢
        rw [he2] at heb hms
        have HQ := Lib.hid hq; clear hq
        have HE := Lib.hid he2; clear he2
        have HMS := Lib.hid hms; clear hms
        have HMW := Lib.hid hmw; clear hmw
        obtain ⟨x0, x1⟩ := hmb
        obtain ⟨y0, y1⟩ := heb
        by_cases hml : m < 7
        · go_wp2_with fail
          refine (l26Began_any a n c xs _ _ (h.ext hM.below) v15).mono ?_
          rw [HE.out]
          rintro e w4 ⟨rfl, rfl⟩
          go_wp2
          go_round
          case rel => exact ⟨m + 1, by omega, by rw [HMS.out], by go_num⟩
          case measure => simp [intOf]; omega
        · obtain rfl : m = 7 := by omega
          have hqw : q = cntW xs d := by rw [← HQ.out, HMW.out]
          by_cases hgt : m1 < q
          · have hst : weekS xs (d + 1) = ((d : Int), q) := by rw [HST.out, ← hqw]; simp [hgt]
            have HW := Lib.hid hst; clear hst hqw
            go_wp2
            go_round
            case rel => exact ⟨d + 1, by omega, by rw [HW.out], by rw [HW.out], by go_num⟩
            case measure => simp [intOf]; omega
          · have hst : weekS xs (d + 1) = (b1, m1) := by rw [HST.out, ← hqw]; simp [hgt]
            have HW := Lib.hid hst; clear hst hqw
            go_wp2
            go_round
            case rel => exact ⟨d + 1, by omega, by rw [HW.out], by rw [HW.out], by go_num⟩
            case measure => simp [intOf]; omega
    · obtain rfl : d = 359 := by omega
      go_wp2
      go_ret3
      exact ⟨by rw [HF.out, HB.out]; rfl, (by apply Mem.below; (repeat' (first | with_reducible exact hM | with_reducible exact hMp | with_reducible apply Mem.drew | with_reducible apply Mem.drewN | with_reducible apply Mem.alloc | with_reducible apply Mem.set | with_reducible exact Sto.row | ((with_reducible refine Sto.rowEq2 ?_ ?_); omega; rfl) | ((with_reducible refine Sto.rowEq ?_); omega) | with_reducible apply Sto.int | with_reducible apply Sto.there | with_reducible assumption | (unfold I64; omega) | (with_reducible (have hMx := Mem.undrew hM; exact hMx)) | (with_reducible (have hMx := Mem.undrew hMp; exact hMx)))))⟩
end Go.Proofs.Ytdhgkfmehegeoaa
