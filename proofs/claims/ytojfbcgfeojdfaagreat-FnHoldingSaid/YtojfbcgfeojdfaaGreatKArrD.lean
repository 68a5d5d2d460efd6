/-
  Arrival times of the program: the plain law of its loop over the nearest cells.
-/
import Derived.Test.YtojfbcgfeojdfaaGreatKHoldP
import Derived.Test.YtojfbcgfeojdfaaGreatKArrS
import Derived.Test.YtojfbcgfeojdfaaGreatKReachS
/-
  The greatest delay: the pure part.
-/
namespace Go.Proofs.YtojfbcgfeojdfaaGreat
set_option linter.unusedSimpArgs false
set_option linter.unusedVariables false
open Go.RowKit

section
variable {W n : Nat} {xs ss : List Int} {l : List PhaseI} {start : Int}
theorem arrT_bnd (hx : ∀ x ∈ xs, 0 ≤ x ∧ x ≤ 20) (hl : xs.length = n) (hn : n ≤ 25) (hp : phasesB l = true) (hst : 0 ≤ start ∧ start ≤ 1000) : BndT n (arrT W n xs ss l start) := by
  obtain ⟨m, ⟨ts, hb, hd, hm⟩, hmin⟩ := least_nat (P := fun m => ∃ ts, BegTI W n xs ss l start ts ∧ BndT n ts ∧ sumT ts n = m) ⟨_, beg0 n xs ss start, beg0_ok hst.1, beg0_bnd hst.2, rfl⟩
  have he : ∀ a b, a < n → b < n → edgeI W xs l ts a b := by
    intro a b ha hbn hta hbb hnr
    by_cases hq : ts.getD b 0 = -1 ∨ donI W xs l a b (ts.getD a 0) < ts.getD b 0
    · have hr := relaxI hx hl hn hb hd ha hbn hta hbb hnr hq
      have := hmin _ ⟨_, hr.1, hr.2.1, rfl⟩
      have := hr.2.2
      omega
    · have h1 : ¬ ts.getD b 0 = -1 := fun e => hq (.inl e)
      have h2 : ¬ donI W xs l a b (ts.getD a 0) < ts.getD b 0 := fun e => hq (.inr e)
      exact ⟨h1, by omega⟩
  rw [BegTI.done hp hb he]
  exact hd
end

/-- the last tick at which a cut is in time -/
def lastT (ts : List Int) (c : CutI) : Int := if ts.getD c.cell.toNat 0 = -1 then 9999 else ts.getD c.cell.toNat 0 - 1
def minI (a b : Int) : Int := if a ≤ b then a else b
def dlyTo (ts : List Int) (l : List CutI) : Int := l.foldl (fun d c => minI d (lastT ts c - c.tick)) 9999
theorem dly_succ {ts : List Int} {l : List CutI} {k : Nat} (hk : k < l.length) : dlyTo ts (l.take (k + 1)) = minI (dlyTo ts (l.take k)) (lastT ts (l.getD k CutI.zero) - (l.getD k CutI.zero).tick) := by
  unfold dlyTo
  rw [take_succV (z := CutI.zero) hk, List.foldl_append]
  rfl
theorem dly_bnd {ts : List Int} {l : List CutI} (h : ∀ c ∈ l, -1 ≤ ts.getD c.cell.toNat 0 ∧ 0 ≤ c.tick ∧ c.tick ≤ 9999) : -10001 ≤ dlyTo ts l ∧ dlyTo ts l ≤ 9999 := by
  unfold dlyTo
  have key : ∀ (l : List CutI) (d : Int), (∀ c ∈ l, -1 ≤ ts.getD c.cell.toNat 0 ∧ 0 ≤ c.tick ∧ c.tick ≤ 9999) → -10001 ≤ d → d ≤ 9999 → -10001 ≤ l.foldl (fun d c => minI d (lastT ts c - c.tick)) d ∧ l.foldl (fun d c => minI d (lastT ts c - c.tick)) d ≤ 9999 := by
    intro l
    induction l with
    | nil => intro d _ h1 h2; exact ⟨h1, h2⟩
    | cons c l ih =>
      intro d hc h1 h2
      rw [List.foldl_cons]
      have h3 := hc c (List.mem_cons_self ..)
      have h4 : -1 ≤ lastT ts c := by unfold lastT; split <;> omega
      refine ih _ (fun x hx => hc x (List.mem_cons_of_mem _ hx)) ?_ ?_
      · unfold minI; split <;> omega
      · unfold minI; split <;> omega
  exact key l 9999 h (by omega) (by omega)

structure IB where
  a : Int
  ok : Bool
noncomputable def delayR (W H : Int) (xs : List Int) (ph : List PhaseI) (ss : List Int) (start : Int) (cu : List CutI) (ts : List Int) : IB := if (doHoldR W H xs ph ss start cu ts).ok && (doHoldR W H xs ph ss start cu ts).a && decide (0 < cu.length) then ⟨dlyTo (arrT W.toNat xs.length xs ss ph start) cu, true⟩ else ⟨0, false⟩

end Go.Proofs.YtojfbcgfeojdfaaGreat

/-
  What the law on holding asks for: plain Lean.
-/
namespace Go.Proofs.YtojfbcgfeojdfaaGreat
set_option linter.unusedSimpArgs false
set_option linter.unusedVariables false
open Go.RowKit

def laterC (d : Int) (c : CutI) : CutI := ⟨c.cell, c.tick + d⟩
/-- the program's DelayCuts -/
def delayed (W H : Int) (xs : List Int) (cu : List CutI) (d : Int) : Bool := cutsB W H xs cu && inB d 0 9999 && cutsB W H xs (cu.map (laterC d))

theorem minI_le {a b : Int} : minI a b ≤ a ∧ minI a b ≤ b := by unfold minI; split <;> omega
theorem dly_min {ts : List Int} : ∀ (l : List CutI) (d : Int), l.foldl (fun d c => minI d (lastT ts c - c.tick)) d ≤ d ∧ (∀ c ∈ l, l.foldl (fun d c => minI d (lastT ts c - c.tick)) d ≤ lastT ts c - c.tick) ∧ (l.foldl (fun d c => minI d (lastT ts c - c.tick)) d = d ∨ ∃ c ∈ l, l.foldl (fun d c => minI d (lastT ts c - c.tick)) d = lastT ts c - c.tick)
  | [], d => ⟨Int.le_refl _, (by intro c hc; cases hc), .inl rfl⟩
  | x :: l, d => by
    obtain ⟨h1, h2, h3⟩ := dly_min (ts := ts) l (minI d (lastT ts x - x.tick))
    rw [List.foldl_cons]
    have h4 := minI_le (a := d) (b := lastT ts x - x.tick)
    refine ⟨by omega, fun c hc => ?_, ?_⟩
    · rcases List.mem_cons.1 hc with rfl | hc
      · omega
      · exact h2 c hc
    · rcases h3 with h3 | ⟨c, hc, h3⟩
      · rw [h3]
        by_cases e : d ≤ lastT ts x - x.tick
        · exact .inl (by unfold minI; rw [if_pos e])
        · exact .inr ⟨x, List.mem_cons_self .., by unfold minI; rw [if_neg e]⟩
      · exact .inr ⟨c, List.mem_cons_of_mem _ hc, h3⟩

theorem all_map_later {ts : List Int} {d : Int} {cu : List CutI} : (cu.map (laterC d)).map (slk ts) = cu.map (fun c => slk ts (laterC d c)) := by rw [List.map_map]; rfl
theorem cells_later {d : Int} {cu : List CutI} : (cu.map (laterC d)).map (fun c => c.cell) = cu.map (fun c => c.cell) := by rw [List.map_map]; rfl

section
variable {W H : Int} {xs : List Int} {ph : List PhaseI} {ss : List Int} {start : Int} {cu : List CutI} {ts : List Int}
theorem doHold_ok3 (h : (doHoldR W H xs ph ss start cu ts).ok = true) : askB W H xs xs.length ph ss start = true ∧ cutsB W H xs cu = true ∧ caseB W H xs xs.length ss ts = true ∧ (doHoldR W H xs ph ss start cu ts).a = hldB W.toNat xs.length xs ph ss start cu ts := by
  unfold doHoldR at h ⊢
  cases h1 : askB W H xs xs.length ph ss start
  · rw [h1] at h; simp at h
  cases h2 : cutsB W H xs cu
  · rw [h1, h2] at h; simp at h
  cases h3 : caseB W H xs xs.length ss ts
  · rw [h1, h2, h3] at h; simp at h
  exact ⟨rfl, rfl, rfl, rfl⟩
theorem doHold_a (h : (doHoldR W H xs ph ss start cu ts).a = true) : (doHoldR W H xs ph ss start cu ts).ok = true := by
  unfold doHoldR at h ⊢
  split
  · rfl
  · rename_i hq
    rw [if_neg hq] at h
    cases h
theorem doHold_of (h1 : askB W H xs xs.length ph ss start = true) (h2 : cutsB W H xs cu = true) (h3 : caseB W H xs xs.length ss ts = true) : doHoldR W H xs ph ss start cu ts = ⟨hldB W.toNat xs.length xs ph ss start cu ts, true⟩ := by
  unfold doHoldR
  rw [h1, h2, h3]
  rfl
/-- where cuts hold: slacks are positive, and the cells are a line -/
theorem hold_ok (h : (doHoldR W H xs ph ss start cu ts).a = true) : askB W H xs xs.length ph ss start = true ∧ cutsB W H xs cu = true ∧ (∀ k, k < cu.length → 1 ≤ (cu.map (slk (arrT W.toNat xs.length xs ss ph start))).getD k 0) ∧ isLineR W H xs ss ts (cu.map (fun c => c.cell)) = ⟨true, true⟩ := by
  obtain ⟨h1, h2, h3, h4⟩ := doHold_ok3 (doHold_a h)
  rw [h4, hldB, Bool.and_eq_true, List.all_eq_true] at h
  obtain ⟨h5, h6⟩ := h
  refine ⟨h1, h2, fun k hk => ?_, ?_⟩
  · have := h5 _ (getD_mem (xs := cu.map (slk (arrT W.toNat xs.length xs ss ph start))) (k := k) (by simpa using hk))
    unfold posI at this
    have := of_decide_eq_true this
    omega
  · rw [isLineR, h3, setB_cuts (cutsB_true h2).2.1, h6]
    rfl

theorem cutOK_get {xs : List Int} {l : List CutI} {k : Nat} (hv : inB (l.getD k CutI.zero).cell 0 ((xs.length : Int) - 1) = true) (ht : inB (l.getD k CutI.zero).tick 0 9999 = true) (hb : (xs.getD (l.getD k CutI.zero).cell.toNat 0 == 0) = false) (hs : k = 0 ∨ (l.getD (k - 1) CutI.zero).cell < (l.getD k CutI.zero).cell) : cutOK xs l k = true := by
  unfold cutOK
  rw [hv, ht, hb]
  rcases hs with rfl | hs
  · rfl
  · by_cases e : k = 0
    · subst e; rfl
    · rw [if_neg e]; simpa using hs
theorem getD_later {d : Int} {k : Nat} (hk : k < cu.length) : (cu.map (laterC d)).getD k CutI.zero = laterC d (cu.getD k CutI.zero) := by
  simp [List.getD, hk]
theorem cuts_later (h : cutsB W H xs cu = true) {d : Int} (hd : ∀ c ∈ cu, 0 ≤ c.tick + d ∧ c.tick + d ≤ 9999) : cutsB W H xs (cu.map (laterC d)) = true := by
  obtain ⟨h1, h2, h3⟩ := cutsB_true h
  unfold cutsB
  rw [h1, List.length_map, decide_eq_true h3, Bool.true_and, Bool.and_true, cutTo, List.all_eq_true]
  intro k hk
  have hk := List.mem_range.1 hk
  have h4 := cut_ok h2 hk
  unfold cutOK at h4
  simp only [Bool.and_eq_true, Bool.not_eq_true'] at h4
  obtain ⟨⟨⟨h5, h6⟩, h7⟩, h8⟩ := h4
  have hm : cu.getD k CutI.zero ∈ cu := by
    rw [List.getD_eq_getElem?_getD, List.getElem?_eq_getElem hk]; exact List.getElem_mem _
  have hb := hd _ hm
  refine cutOK_get ?_ ?_ ?_ ?_
  · rw [getD_later hk]; exact h5
  · rw [getD_later hk]
    show inB ((cu.getD k CutI.zero).tick + d) 0 9999 = true
    rw [inB, decide_eq_true_eq]
    omega
  · rw [getD_later hk]; exact h7
  · by_cases e : k = 0
    · exact .inl e
    · refine .inr ?_
      rw [if_neg e] at h8
      rw [getD_later hk, getD_later (by omega)]
      exact of_decide_eq_true h8

theorem told_iff : (delayR W H xs ph ss start cu ts).ok = ((doHoldR W H xs ph ss start cu ts).a && decide (0 < cu.length)) := by
  unfold delayR
  have h := doHold_a (W := W) (H := H) (xs := xs) (ph := ph) (ss := ss) (start := start) (cu := cu) (ts := ts)
  cases h1 : (doHoldR W H xs ph ss start cu ts).a
  · simp
  · rw [h h1]
    cases decide (0 < cu.length) <;> rfl
/-- with the greatest delay the cuts hold, and with one more they do not -/
theorem delay_ok {d : Int} (hq : delayR W H xs ph ss start cu ts = ⟨d, true⟩) : delayed W H xs cu d = true ∧ (0 ≤ d ∧ d ≤ 9999) ∧ (doHoldR W H xs ph ss start (cu.map (laterC d)) ts) = ⟨true, true⟩ ∧ (delayed W H xs cu (d + 1) = true → doHoldR W H xs ph ss start (cu.map (laterC (d + 1))) ts = ⟨false, true⟩) := by
  have ht : ((doHoldR W H xs ph ss start cu ts).a && decide (0 < cu.length)) = true := by rw [← told_iff, hq]
  rw [Bool.and_eq_true] at ht
  obtain ⟨ha, hl⟩ := ht
  obtain ⟨h1, h2, h3, h4⟩ := doHold_ok3 (doHold_a ha)
  have ha2 := ha
  rw [h4, hldB, Bool.and_eq_true, List.all_eq_true] at ha2
  obtain ⟨h5, h6⟩ := ha2
  obtain ⟨hg, hp, hs, hst⟩ := askB_true h1
  obtain ⟨-, hct, -⟩ := cutsB_true h2
  obtain ⟨Wn, Hn, rfl, rfl, p1, p2, p3, p4, hlen, h25, hx⟩ := goodB_true hg
  have hbd := arrT_bnd (W := Wn) (n := xs.length) (xs := xs) (ss := ss) (l := ph) (start := start) hx rfl h25 hp hst
  have hge := fun (c : Nat) (hcn : c < xs.length) => arrT_ge (W := Wn) (xs := xs) (ss := ss) (l := ph) hst.1 hcn
  rw [Int.toNat_natCast] at h5 h6
  have hdd : d = dlyTo (arrT Wn xs.length xs ss ph start) cu := by
    unfold delayR at hq
    rw [ha, doHold_a ha, hl] at hq
    simp only [Bool.and_self, if_true, Int.toNat_natCast] at hq
    injection hq with e _
    exact e.symm
  clear hq
  obtain ⟨tm, hdT⟩ : ∃ tm, arrT Wn xs.length xs ss ph start = tm := ⟨_, rfl⟩
  rw [hdT] at h5 hbd hge hdd
  have hcell : ∀ c ∈ cu, 0 ≤ c.cell ∧ c.cell < xs.length ∧ 0 ≤ c.tick ∧ c.tick ≤ 9999 := fun c hc => cut_mem hct hc
  have hlast : ∀ c ∈ cu, 0 ≤ lastT tm c - c.tick ∧ lastT tm c ≤ 9999 := by
    intro c hc
    obtain ⟨a1, a2, a3, a4⟩ := hcell c hc
    have b1 := of_decide_eq_true (h5 _ (List.mem_map.2 ⟨c, hc, rfl⟩))
    have b2 := hbd.max h25 (c := c.cell.toNat) (by omega)
    unfold slk at b1
    unfold lastT
    split at b1
    · rename_i e; rw [if_pos e]; omega
    · rename_i e; rw [if_neg e]; omega
  obtain ⟨c1, c2, c3⟩ := dly_min (ts := tm) cu 9999
  change dlyTo tm cu ≤ 9999 at c1
  change ∀ c ∈ cu, dlyTo tm cu ≤ lastT tm c - c.tick at c2
  change dlyTo tm cu = 9999 ∨ ∃ c ∈ cu, dlyTo tm cu = lastT tm c - c.tick at c3
  rw [← hdd] at c1 c2 c3
  have d0 : 0 ≤ d := by
    rcases c3 with c3 | ⟨c, hc, c3⟩
    · omega
    · have := (hlast c hc).1; omega
  have hcd : cutsB Wn Hn xs (cu.map (laterC d)) = true := cuts_later h2 (fun c hc => by
    have := hlast c hc; have := c2 c hc; have := hcell c hc; omega)
  refine ⟨?_, ⟨d0, c1⟩, ?_, ?_⟩
  · unfold delayed
    rw [h2, hcd]
    have : inB d 0 9999 = true := by rw [inB, decide_eq_true_eq]; omega
    rw [this]
    rfl
  · rw [doHold_of h1 hcd h3, hldB, cells_later, all_map_later, Int.toNat_natCast, hdT, h6, Bool.and_true]
    congr 1
    rw [List.all_eq_true]
    intro y hy
    obtain ⟨c, hc, rfl⟩ := List.mem_map.1 hy
    have b1 := hlast c hc
    have b2 := c2 c hc
    unfold posI slk laterC
    dsimp only
    unfold lastT at b1 b2
    split
    · rfl
    · rename_i e
      rw [if_neg e] at b1 b2
      exact decide_eq_true (by omega)
  · intro hlate
    unfold delayed at hlate
    rw [Bool.and_eq_true, Bool.and_eq_true] at hlate
    obtain ⟨⟨-, hin⟩, hc2⟩ := hlate
    have hin := inB_true hin
    rw [doHold_of h1 hc2 h3, hldB, cells_later, all_map_later, Int.toNat_natCast, hdT]
    have hno : (cu.map (fun c => slk tm (laterC (d + 1) c))).all posI = false := by
      rcases c3 with c3 | ⟨c, hc, c3⟩
      · omega
      rw [List.all_eq_false]
      refine ⟨_, List.mem_map.2 ⟨c, hc, rfl⟩, ?_⟩
      have b3 := cut_mem (cutsB_true hc2).2.1 (List.mem_map.2 ⟨c, hc, rfl⟩)
      unfold laterC at b3
      dsimp only at b3
      unfold lastT at c3
      unfold posI slk laterC
      dsimp only
      split
      · rename_i e
        rw [if_pos e] at c3
        omega
      · rename_i e
        rw [if_neg e] at c3
        rw [decide_eq_true_eq]
        omega
    rw [hno]
    rfl
end
end Go.Proofs.YtojfbcgfeojdfaaGreat

/-
  Arrival times of the program: the plain law of its loop over the nearest cells.
-/
namespace Go.Proofs.YtojfbcgfeojdfaaGreat
set_option linter.unusedSimpArgs false
set_option linter.unusedVariables false
open Go.RowKit

/-- so many are set, the rest is nought -/
def negL (n k : Nat) : List Int := List.replicate k (-1) ++ List.replicate (n - k) 0
theorem negL_set {n k : Nat} (hk : k < n) : (negL n k).set k (-1) = negL n (k + 1) := by
  unfold negL
  apply List.ext_getElem
  · simp; omega
  · intro i h1 h2
    rw [List.getElem_set]
    by_cases e : k = i
    · subst e
      rw [if_pos rfl, List.getElem_append_left (by simp)]
      simp
    · rw [if_neg e]
      by_cases h : i < k
      · rw [List.getElem_append_left (by simpa using h), List.getElem_append_left (by simp; omega)]
        simp
      · rw [List.getElem_append_right (by simp; omega), List.getElem_append_right (by simp; omega)]
        simp
theorem negL_all {n : Nat} : negL n n = List.replicate n (-1) := by simp [negL]
def srcTo (start : Int) (cells acc : List Int) : List Int := cells.foldl (fun acc c => acc.set c.toNat start) acc
theorem srcTo_succ {start : Int} {cells acc : List Int} {k : Nat} (hk : k < cells.length) : srcTo start (cells.take (k + 1)) acc = (srcTo start (cells.take k) acc).set (cells.getD k 0).toNat start := by
  unfold srcTo
  rw [take_succ' hk, List.foldl_append]
  rfl
theorem srcTo_length {start : Int} : ∀ (cells acc : List Int), (srcTo start cells acc).length = acc.length
  | [], _ => rfl
  | c :: r, acc => by
    have e : srcTo start (c :: r) acc = srcTo start r (acc.set c.toNat start) := rfl
    rw [e, srcTo_length r, List.length_set]
theorem srcTo_get {start : Int} {n : Nat} : ∀ (cells acc : List Int), (∀ x ∈ cells, 0 ≤ x ∧ x < n) → acc.length = n → ∀ c, c < n → (srcTo start cells acc).getD c 0 = if hasI cells c then start else acc.getD c 0
  | [], acc, _, _, c, _ => by simp [srcTo, hasI]
  | y :: r, acc, h, hl, c, hc => by
    have h1 := h y (by simp)
    have e : srcTo start (y :: r) acc = srcTo start r (acc.set y.toNat start) := rfl
    rw [e, srcTo_get r _ (fun x hx => h x (by simp [hx])) (by simpa using hl) c hc]
    have e2 : hasI (y :: r) (c : Int) = ((y == (c : Int)) || hasI r c) := by simp [hasI]
    rw [e2, set_get hl hc]
    by_cases hr : hasI r (c : Int) = true
    · rw [hr]; simp
    · have hr' : hasI r (c : Int) = false := by simpa using hr
      rw [hr']
      by_cases hy : y = c
      · subst hy
        simp
      · have : ¬ c = y.toNat := by omega
        simp [hy, this]
theorem srcTo_beg {n : Nat} {xs ss : List Int} {start : Int} (hs : setB n ss = true) : srcTo start (ss.filter fun x => brn xs x.toNat) (List.replicate n (-1)) = beg0 n xs ss start := by
  have hm := (setB_true hs).2
  apply List.ext_getElem
  · rw [srcTo_length]; simp [beg0]
  · intro i h1 h2
    have hi : i < n := by simpa [beg0] using h2
    have h3 := srcTo_get (start := start) (n := n) (ss.filter fun x => brn xs x.toNat) (List.replicate n (-1)) (fun x hx => by have := hm x (List.mem_filter.1 hx).1; omega) (by simp) i hi
    have e1 : (srcTo start (ss.filter fun x => brn xs x.toNat) (List.replicate n (-1))).getD i 0 = (srcTo start (ss.filter fun x => brn xs x.toNat) (List.replicate n (-1)))[i] := by simp [List.getD, h1]
    have e2 : (beg0 n xs ss start).getD i 0 = (beg0 n xs ss start)[i] := by simp [List.getD, h2]
    rw [← e1, ← e2, h3, beg0_get hi]
    have e3 : hasI (ss.filter fun x => brn xs x.toNat) (i : Int) = (brn xs i && hasI ss i) := by
      rw [Bool.eq_iff_iff, hasI_iff, List.mem_filter, Bool.and_eq_true, hasI_iff]
      simp [and_comm]
    rw [e3]
    split
    · rfl
    · simp [List.getD, hi]

section
variable {W n : Nat} {xs ss : List Int} {l : List PhaseI} {start : Int}
/-- cells are fixed in the order in which fire comes to them -/
structure DijT (W n : Nat) (xs ss : List Int) (l : List PhaseI) (start : Int) (fx : Nat → Bool) (ts : List Int) : Prop where
  beg : BegTI W n xs ss l start ts
  bnd : BndT n ts
  fin : ∀ a, a < n → fx a = true → ts.getD a 0 ≠ -1
  edg : ∀ a b, a < n → b < n → fx a = true → edgeI W xs l ts a b
  ord : ∀ a b, a < n → b < n → fx a = true → fx b = false → ts.getD b 0 ≠ -1 → ts.getD a 0 ≤ ts.getD b 0
theorem DijT.init {ts : List Int} (h : BegTI W n xs ss l start ts) (hb : BndT n ts) : DijT W n xs ss l start (fun _ => false) ts :=
  ⟨h, hb, fun _ _ e => by simp at e, fun _ _ _ _ e => by simp at e, fun _ _ _ _ e => by simp at e⟩
theorem DijT.done {fx : Nat → Bool} {ts : List Int} (hp : phasesB l = true) (h : DijT W n xs ss l start fx ts) (he : ∀ i, i < n → fx i = false → ts.getD i 0 = -1) : arrT W n xs ss l start = ts := by
  refine BegTI.done hp h.beg fun a b ha hb => ?_
  cases hf : fx a
  · intro e
    exact absurd (he a ha hf) e
  · exact h.edg a b ha hb hf
/-- a cell is being fixed: its first neighbors have been told -/
structure RelT (W n : Nat) (xs ss : List Int) (l : List PhaseI) (start : Int) (fx : Nat → Bool) (c : Nat) (v : Int) (told : Nat → Prop) (ts : List Int) : Prop where
  beg : BegTI W n xs ss l start ts
  bnd : BndT n ts
  val : ts.getD c 0 = v
  nev : v ≠ -1
  fin : ∀ a, a < n → fx a = true → ts.getD a 0 ≠ -1
  edg : ∀ a b, a < n → b < n → fx a = true → edgeI W xs l ts a b
  low : ∀ a, a < n → fx a = true → ts.getD a 0 ≤ v
  hi : ∀ b, b < n → fx b = false → ts.getD b 0 ≠ -1 → v ≤ ts.getD b 0
  tol : ∀ b, b < n → told b → edgeI W xs l ts c b
theorem RelT.init {fx : Nat → Bool} {ts : List Int} {c : Nat} (h : DijT W n xs ss l start fx ts) (hc : c < n) (hf : fx c = false) (h1 : ts.getD c 0 ≠ -1) (hm : ∀ i, i < n → fx i = false → ts.getD i 0 ≠ -1 → ts.getD c 0 ≤ ts.getD i 0) : RelT W n xs ss l start fx c (ts.getD c 0) (fun _ => False) ts :=
  ⟨h.beg, h.bnd, rfl, h1, h.fin, h.edg, fun a ha hfa => h.ord a c ha hc hfa hf h1, hm, fun _ _ e => e.elim⟩
theorem RelT.more {fx : Nat → Bool} {ts : List Int} {c : Nat} {v : Int} {told told' : Nat → Prop} (h : RelT W n xs ss l start fx c v told ts) (ht : ∀ b, b < n → told' b → told b ∨ edgeI W xs l ts c b) : RelT W n xs ss l start fx c v told' ts :=
  ⟨h.beg, h.bnd, h.val, h.nev, h.fin, h.edg, h.low, h.hi, fun b hb e => (ht b hb e).elim (h.tol b hb) id⟩
/-- a cell that is fixed already -/
theorem RelT.old {fx : Nat → Bool} {ts : List Int} {c b : Nat} {v : Int} {told : Nat → Prop} (h : RelT W n xs ss l start fx c v told ts) (hb : b < n) (hf : fx b = true) : edgeI W xs l ts c b := by
  intro _ _ _
  have h1 := h.low b hb hf
  have h2 := donI_ge (W := W) (xs := xs) (l := l) c b (ts.getD c 0)
  rw [h.val] at h2 ⊢
  exact ⟨h.fin b hb hf, by omega⟩
theorem RelT.set {fx : Nat → Bool} {ts : List Int} {c b : Nat} {v : Int} {told : Nat → Prop} (h : RelT W n xs ss l start fx c v told ts) (hx : ∀ x ∈ xs, 0 ≤ x ∧ x ≤ 20) (hl : xs.length = n) (hn : n ≤ 25) (hc : c < n) (hb : b < n) (hf : fx b = false) (hbb : brn xs b = true) (hnr : nearN W c b = true) (hlt : ts.getD b 0 = -1 ∨ donI W xs l c b v < ts.getD b 0) :
    RelT W n xs ss l start fx c v (fun i => told i ∨ i = b) (ts.set b (donI W xs l c b v)) := by
  have hcb : c ≠ b := near_ne hnr
  have hr := relaxI (W := W) (l := l) (start := start) (ss := ss) hx hl hn h.beg h.bnd hc hb (by rw [h.val]; exact h.nev) hbb hnr (by rw [h.val]; exact hlt)
  rw [h.val] at hr
  have hv0 : 0 ≤ v := by
    rcases h.beg.is c hc with e | e
    · rw [h.val] at e; exact absurd e h.nev
    · rw [h.val] at e; exact e.1
  have hg := donI_ge (W := W) (xs := xs) (l := l) c b v
  have hgb : (ts.set b (donI W xs l c b v)).getD b 0 = donI W xs l c b v := by rw [set_get h.beg.len hb, if_pos rfl]
  have hgo : ∀ i, i ≠ b → (ts.set b (donI W xs l c b v)).getD i 0 = ts.getD i 0 := fun i e => set_get' e
  have keep : ∀ a i, a < n → i < n → a ≠ b → edgeI W xs l ts a i → edgeI W xs l (ts.set b (donI W xs l c b v)) a i := by
    intro a i ha hi hab he h1 h2 h3
    rw [hgo a hab] at h1 ⊢
    obtain ⟨e1, e2⟩ := he h1 h2 h3
    by_cases e : i = b
    · subst e
      rw [hgb]
      rcases hlt with hlt | hlt
      · exact absurd hlt e1
      · exact ⟨by omega, by omega⟩
    · rw [hgo i e]
      exact ⟨e1, e2⟩
  have hne : ∀ a, fx a = true → a ≠ b := fun a e1 e2 => by subst e2; rw [hf] at e1; cases e1
  refine ⟨hr.1, hr.2.1, by rw [hgo c hcb]; exact h.val, h.nev, fun a ha e => by rw [hgo a (hne a e)]; exact h.fin a ha e, fun a i ha hi e => keep a i ha hi (hne a e) (h.edg a i ha hi e), fun a ha e => by rw [hgo a (hne a e)]; exact h.low a ha e, fun i hi e h1 => ?_, fun i hi e => ?_⟩
  · by_cases e2 : i = b
    · subst e2; rw [hgb]; exact hg
    · rw [hgo i e2] at h1 ⊢; exact h.hi i hi e h1
  · rcases e with e | rfl
    · exact keep c i hc hi hcb (h.tol i hi e)
    · intro _ _ _
      rw [hgb, hgo c hcb, h.val]
      exact ⟨by omega, Int.le_refl _⟩
theorem RelT.done {fx : Nat → Bool} {ts : List Int} {c : Nat} {v : Int} {told : Nat → Prop} (h : RelT W n xs ss l start fx c v told ts) (ht : ∀ b, b < n → nearN W c b = true → told b) : DijT W n xs ss l start (fun i => fx i || i == c) ts := by
  have sp : ∀ a, (fx a || a == c) = true → fx a = true ∨ a = c := fun a e => by simpa using e
  refine ⟨h.beg, h.bnd, fun a ha e => ?_, fun a b ha hb e => ?_, fun a b ha hb e e2 h1 => ?_⟩
  · rcases sp a e with e | rfl
    · exact h.fin a ha e
    · rw [h.val]; exact h.nev
  · rcases sp a e with e | rfl
    · exact h.edg a b ha hb e
    · intro h1 h2 h3
      exact h.tol b hb (ht b hb h3) h1 h2 h3
  · have hb2 : fx b = false := by
      cases hfb : fx b
      · rfl
      · rw [hfb] at e2; simp at e2
    have h3 := h.hi b hb hb2 h1
    rcases sp a e with e | rfl
    · have := h.low a ha e; omega
    · rw [h.val]; exact h3
end
end Go.Proofs.YtojfbcgfeojdfaaGreat
