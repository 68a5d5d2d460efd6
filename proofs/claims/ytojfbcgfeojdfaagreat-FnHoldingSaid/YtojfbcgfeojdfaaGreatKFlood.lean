/-
  What a flood reaches: the plain law.
-/
import Derived.Test.YtojfbcgfeojdfaaGreatKClear
import Derived.Test.YtojfbcgfeojdfaaGreatKMkr
import Derived.Test.YtojfbcgfeojdfaaGreatKSpeed
namespace Go.Proofs.YtojfbcgfeojdfaaGreat
set_option linter.unusedSimpArgs false
set_option linter.unusedVariables false
open Go.RowKit

set_option maxRecDepth 100000 in
set_option maxHeartbeats 4000000 in
theorem cleared_any (Wn Hn : Nat) (a : Option Addr) (n c : Nat) (xs : List Int) (a' : Option Addr) (n' c' : Nat) (cells : List Int) (w : World) (h : Ints w a n c xs) (h' : Ints w a' n' c' cells) (hnp : 0 < n) (hn25 : n ≤ 25) (hs : setB n cells = true) :
    Calls Tryz.prog 128 #[.agg #[.int .i64 Wn, .int .i64 Hn, .slice a n c], .slice a' n' c'] w fun e w' => ∃ a2 c2, e = .returned (.agg #[.int .i64 Wn, .int .i64 Hn, .slice a2 n c2]) ∧ Own w.heap.size w' a2 n c2 (clrL xs cells) ∧ Below w.heap.size w w' := by
  have hn := h.cap
  have hc := h.room
  have HL := Lib.hid h.len
  have hn' := h'.cap
  have hc' := h'.room
  have HL' := Lib.hid h'.len
  have HAF := Lib.hid (fun k (hk : k < cells.length) => set_fact hs hk)
  have HT := Lib.hid (setB_true hs).1
  clear hs
  go_enter Tryz.func128, Tryz.ntmps128
  go_wp2_with fail
  have R0 : Row ((w.alloc (.cells #[.int .i64 Wn, .int .i64 Hn, .slice a n c] 26)).alloc (.cells #[.int .i64 0, .int .i64 0, .slice none 0 0] 26)) w.heap.size _ := (Row.new _ w.heap.size rfl _ _).alloc _
  have R1 : Row ((w.alloc (.cells #[.int .i64 Wn, .int .i64 Hn, .slice a n c] 26)).alloc (.cells #[.int .i64 0, .int .i64 0, .slice none 0 0] 26)) (w.heap.size + 1) _ := Row.new _ (w.heap.size + 1) (by simp) _ _
  have hb4 : Below w.heap.size w ((w.alloc (.cells #[.int .i64 Wn, .int .i64 Hn, .slice a n c] 26)).alloc (.cells #[.int .i64 0, .int .i64 0, .slice none 0 0] 26)) := by (repeat' (first | exact Below.refl _ _ | with_reducible refine Below.setCell ?_ (by first | omega | (simp; done) | (simp; omega)) _ | with_reducible refine Below.alloc ?_ (by first | omega | (simp; done) | (simp; omega)) _ | with_reducible refine Below.drew ?_ | with_reducible refine bdrewN ?_ _))
  generalize ((w.alloc (.cells #[.int .i64 Wn, .int .i64 Hn, .slice a n c] 26)).alloc (.cells #[.int .i64 0, .int .i64 0, .slice none 0 0] 26)) = w3 at *
  have l3 : w.heap.size + 1 < w3.heap.size := R1.lt
  refine (copiedTerrain_any _ _ a n c xs _ (h.below hb4)).mono ?_
  rintro e w4 ⟨a2, c2, rfl, hO, hb5⟩
  have hF := (Far.refl w3).ext hb5
  replace R0 := R0.ext hb5
  replace R1 := R1.ext hb5
  have hs5 : w3.heap.size ≤ w4.heap.size := hb5.size
  have HTill := Lib.hid hO.till
  clear hb5
  obtain ⟨g, rfl, hgB, hgs, _, _⟩ := hO.head hnp
  have hgb : g ≠ w4.heap.size := by omega
  have k0 := R0.cell
  have m0 := R0.lt
  go_wp2
  go_loopw [12] (fun i wr => ∃ k : Nat, k ≤ n' ∧ i = .int .i64 k ∧ Row wr (w.heap.size + 1) #[.int .i64 0, .int .i64 0, .slice none 0 0] ∧
      Row wr w4.heap.size #[.int .i64 Wn, .int .i64 Hn, .slice (some ⟨g, 0, none⟩) n c2] ∧ Own w3.heap.size wr (some ⟨g, 0, none⟩) n c2 (clrL xs (cells.take k)) ∧ Far w3 wr)
    (fun i _ => n' - (intOf i).toNat)
  case atStart => exact ⟨0, Nat.zero_le _, rfl, R1.alloc _, Row.new _ _ rfl _ _, by simpa [clrL] using hO.alloc _, hF.alloc _⟩
  case round =>
    obtain ⟨k, hk, rfl, hR1, hR2, hOk, hFr⟩ := hrel
    clear k0
    by_cases hlt : k < n'
    · obtain ⟨b, off, rfl, hbb, hcell⟩ := ((h'.below hb4).ext hFr.below).at' _ hlt
      have hck := hcell k hlt
      clear hcell
      obtain ⟨m, hm, hmn⟩ := HAF.out k (by rw [HL'.out]; exact hlt)
      rw [hm] at hck
      have hdk := hOk.cellAt hmn
      have hfk := hOk.freeAt m
      have HM := Lib.hid hm; clear hm
      have q2 := hR2.cell
      go_wp2
      go_roundw
      case rel =>
        have hO2 := hOk.set m 0 (by unfold I64; omega)
        have e1 := clrL_succ (xs := xs) (cells := cells) (k := k) (by rw [HL'.out]; exact hlt)
        rw [HM.out, Int.toNat_natCast] at e1
        rw [← e1] at hO2
        exact ⟨k + 1, by omega, by go_num, hR1.far _ _ (by first | omega | (simp; done) | (simp; omega)), hR2.far _ _ hgb, hO2, hFr.set _ _ (by first | omega | (simp; done) | (simp; omega))⟩
      case measure => simp [intOf]; omega
    · obtain rfl : k = n' := by omega
      rw [List.take_of_length_le (by rw [HL'.out]; exact Nat.le_refl _)] at hOk
      obtain ⟨k2, f2, m2⟩ := hR2
      obtain ⟨k1, f1, m1⟩ := hR1
      have hbf := hFr.below
      have hs0 := hb4.size
      have hsf := hbf.size
      go_wp2
      refine bodyPost_ret (v := .agg #[.int .i64 Wn, .int .i64 Hn, .slice (some ⟨g, 0, none⟩) n c2]) (by simp [results, Tryz.results128, go_sem, k1]) rfl ⟨_, c2, rfl, ?_, ?_⟩
      · ((repeat with_reducible refine Own.setCell_far ?_ (hOk.apart (by first | omega | (simp; done) | (simp; omega))) _); exact hOk.mono (by first | omega | (simp; done) | (simp; omega)))
      · (repeat' (first | exact Below.refl _ _ | with_reducible refine Below.setCell ?_ (by first | omega | (simp; done) | (simp; omega)) _ | with_reducible refine Below.alloc ?_ (by first | omega | (simp; done) | (simp; omega)) _ | with_reducible refine Below.drew ?_ | with_reducible refine bdrewN ?_ _ | with_reducible refine Below.trans ?_ (Below.mono hb4 (by first | omega | (simp; done) | (simp; omega))) | with_reducible refine Below.trans ?_ (Below.mono hbf (by first | omega | (simp; done) | (simp; omega)))))

end Go.Proofs.YtojfbcgfeojdfaaGreat

/-
  impl.all over a slice whose elements take one cell each (slices of numbers).
-/
namespace Go.Proofs.YtojfbcgfeojdfaaGreat
set_option linter.unusedSimpArgs false
set_option linter.unusedVariables false
open Go.RowKit

/-- what a function value answers on the values of an array -/
def AnsV (f : FuncId) (fi caps : Array Value) (p : Nat → Bool) (vs : Array Value) (w : World) : Prop :=
  ∀ k v, vs[k]? = some v → ∀ w', Below w.heap.size w w' → Calls Tryz.prog f (fi ++ #[v] ++ caps) w' fun e w'' => e = .returned (.bool (p k)) ∧ Below w'.heap.size w' w''
theorem range_any_succ (p : Nat → Bool) (k : Nat) : (List.range (k + 1)).any p = ((List.range k).any p || p k) := by
  rw [List.range_succ, List.any_append]
  simp
theorem idxR_range {p : Nat → Bool} {n k : Nat} (hk : k < n) (h : (List.range k).any p = false) (hp : p k = true) : idxR p (List.range n) = k := by
  have h1 : (List.range n).any p = true := List.any_eq_true.2 ⟨k, List.mem_range.2 hk, hp⟩
  rw [idxR_pos h1]
  have h2 : (List.range n).findIdx p = k := by
    rw [List.findIdx_eq (by simpa using hk)]
    refine ⟨by simpa using hp, fun j hj => ?_⟩
    rw [List.any_eq_false] at h
    have := h j (List.mem_range.2 hj)
    simpa using this
  rw [h2]

set_option maxRecDepth 100000 in
set_option maxHeartbeats 400000 in
theorem indexV_any (f : FuncId) (fi caps : Array Value) (p : Nat → Bool) (b n : Nat) (vs : Array Value) (w : World) (hn : n ≤ 100) (hsz : vs.size = n) (hr : Row w b vs) (hsl : ∀ (k : Nat) v, vs[k]? = some v → ∃ a m c, v = .slice a m c) (hcf : ∀ args w, (callFunc f args).run Tryz.prog w = .ok (.enter f args) w) (hf : AnsV f fi caps p vs w) :
    Calls Tryz.prog 161 #[.slice (some ⟨b, 0, none⟩) n n, .func (.func f) fi caps] w fun e w' => e = .returned (.int .i64 (idxR p (List.range n))) ∧ Below w.heap.size w w' := by
  have HF := Lib.hid hf
  have HSZ := Lib.hid hsz
  have HSL := Lib.hid hsl
  clear hf hsz hsl
  go_enter Tryz.func161, Tryz.ntmps161
  go_wp2
  go_loopw [8] (fun i wr => ∃ k : Nat, k ≤ n ∧ i = .int .i64 k ∧ (List.range k).any p = false ∧ Below w.heap.size w wr) (fun i _ => n - (intOf i).toNat)
  case atStart => exact ⟨0, Nat.zero_le _, rfl, by simp, Below.refl _ _⟩
  case round =>
    obtain ⟨k, hk, rfl, hall, hbr⟩ := hrel
    have HA := Lib.hid hall; clear hall
    by_cases hlt : k < n
    · obtain ⟨v, hv⟩ : ∃ v, vs[k]? = some v := ⟨_, Array.getElem?_eq_getElem (by rw [HSZ.out]; exact hlt)⟩
      obtain ⟨a, m, c, rfl⟩ := HSL.out k v hv
      have hck := (hr.ext hbr).cell k
      rw [hv] at hck
      have HV := Lib.hid hv; clear hv
      have i0 : (0 : Int) ≤ (k : Int) := by omega
      have i1 : (k : Int) < (n : Int) := by omega
      go_wp2_with fail
      refine (HF.out k _ HV.out _ hbr).mono ?_
      rintro e w1 ⟨rfl, hb1⟩
      have hb2 : Below w.heap.size w w1 := hbr.trans (hb1.mono hbr.size)
      cases hp : p k
      · go_wp2
        go_roundw
        case rel => exact ⟨k + 1, by omega, by go_num, by rw [range_any_succ, HA.out, hp]; rfl, hb2⟩
        case measure => simp [intOf]; omega
      · go_wp2
        go_ret
        exact ⟨ri (by rw [idxR_range hlt HA.out hp]), hb2⟩
    · go_wp2
      go_ret
      obtain rfl : k = n := by omega
      exact ⟨ri (by rw [idxR_neg HA.out]), hbr⟩

set_option maxRecDepth 100000 in
set_option maxHeartbeats 400000 in
theorem containsV_any (f : FuncId) (fi caps : Array Value) (p : Nat → Bool) (b n : Nat) (vs : Array Value) (w : World) (hn : n ≤ 100) (hsz : vs.size = n) (hr : Row w b vs) (hsl : ∀ (k : Nat) v, vs[k]? = some v → ∃ a m c, v = .slice a m c) (hcf : ∀ args w, (callFunc f args).run Tryz.prog w = .ok (.enter f args) w) (hf : AnsV f fi caps p vs w) :
    Calls Tryz.prog 146 #[.slice (some ⟨b, 0, none⟩) n n, .func (.func f) fi caps] w fun e w' => e = .returned (.bool ((List.range n).any p)) ∧ Below w.heap.size w w' := by
  have HF := Lib.hid hf
  have HSZ := Lib.hid hsz
  have HSL := Lib.hid hsl
  clear hf hsz hsl
  have HR := Lib.hid (idxR_sign p (List.range n))
  go_enter Tryz.func146, Tryz.ntmps146
  go_wp2_with fail
  refine (indexV_any f fi caps p b n vs _ hn HSZ.out hr HSL.out hcf HF.out).mono ?_
  rintro e w1 ⟨rfl, hb1⟩
  cases hp : (List.range n).any p
  all_goals
    have hd : decide (0 ≤ idxR p (List.range n)) = (List.range n).any p := HR.out
    rw [hp] at hd
    go_wp2
    go_ret
    exact ⟨rb hp.symm, hb1⟩

set_option maxRecDepth 100000 in
set_option maxHeartbeats 400000 in
theorem allV1_any (f : FuncId) (fi caps : Array Value) (y : Bool) (v : Value) (b : Nat) (w : World) (hv : ∃ a m c, v = .slice a m c) (hc : w.cell? ⟨b, 0, none⟩ = some (.func (.func f) fi caps)) (hcf : ∀ args w, (callFunc f args).run Tryz.prog w = .ok (.enter f args) w)
    (hf : Calls Tryz.prog f (fi ++ #[v] ++ caps) w fun e w'' => e = .returned (.bool y) ∧ Below w.heap.size w w'') :
    Calls Tryz.prog 147 #[v, .pointer (some ⟨b, 0, none⟩)] w fun e w' => e = .returned (.bool (!y)) ∧ Below w.heap.size w w' := by
  obtain ⟨a, m, c, rfl⟩ := hv
  have HF := Lib.hid hf
  clear hf
  go_enter Tryz.func147, Tryz.ntmps147
  go_wp2_with fail
  refine HF.out.mono ?_
  rintro e w1 ⟨rfl, hb1⟩
  cases y
  all_goals
    go_wp2
    go_ret
    exact ⟨rfl, hb1⟩

theorem range_any_not (p : Nat → Bool) (n : Nat) : (List.range n).any (fun k => !p k) = !(List.range n).all p := by
  induction n with
  | zero => rfl
  | succ n ih => simp only [List.range_succ, List.any_append, List.all_append, ih]; simp

set_option maxRecDepth 100000 in
set_option maxHeartbeats 400000 in
theorem allV_any (f : FuncId) (fi caps : Array Value) (p : Nat → Bool) (b n : Nat) (vs : Array Value) (w : World) (hn : n ≤ 100) (hsz : vs.size = n) (hr : Row w b vs) (hsl : ∀ (k : Nat) v, vs[k]? = some v → ∃ a m c, v = .slice a m c) (hcf : ∀ args w, (callFunc f args).run Tryz.prog w = .ok (.enter f args) w) (hf : AnsV f fi caps p vs w) :
    Calls Tryz.prog 119 #[.slice (some ⟨b, 0, none⟩) n n, .func (.func f) fi caps] w fun e w' => e = .returned (.bool ((List.range n).all p)) ∧ Below w.heap.size w w' := by
  have HF := Lib.hid hf
  have HSZ := Lib.hid hsz
  have HSL := Lib.hid hsl
  clear hf hsz hsl
  have hM := Mem.start w
  have HN := Lib.hid (range_any_not p n)
  have hmf : ∀ (fn : Fn) (first cap : Array Value) (w : World), (Instr.makeFunc fn first cap).run Tryz.prog w = .ok (.func fn first cap) w := fun _ _ _ _ => rfl
  go_enter Tryz.func119, Tryz.ntmps119
  go_wp2_with fail
  apply Mem.at
  · exact memA
  clear hM
  intro hM
  (try simp only [World.size_alloc, World.size_setCell, World.heap_drewN, heapDrew, Nat.add_assoc, Nat.reduceAdd, sA, List.cons_append, List.nil_append] at hM)
  refine (containsV_any _ _ _ (fun k => !p k) b n vs _ hn HSZ.out (hr.ext hM.below) HSL.out (enters Tryz.func147 (by kernel_rfl) rfl) (fun k v hv w' hb => by
    have hM' := hM.ext hb
    exact allV1_any f fi caps (p k) v _ w' (HSL.out k v hv) ((hM'.row .here).cell 0) hcf (HF.out k v hv w' hM'.below))).mono ?_
  rw [HN.out]
  rintro e w1 ⟨rfl, hb⟩
  replace hM := hM.ext hb
  clear hb
  cases hp : (List.range n).all p
  all_goals
    go_wp2
    go_ret
    exact ⟨rb hp.symm, (by apply Mem.below; (exact memA))⟩
end Go.Proofs.YtojfbcgfeojdfaaGreat

/-
  What a flood reaches: the plain law.
-/
namespace Go.Proofs.YtojfbcgfeojdfaaGreat
set_option linter.unusedSimpArgs false
set_option linter.unusedVariables false
open Go.RowKit

/-- how many of the first n are not marked -/
def unseen (n : Nat) (f : Nat → Bool) : Nat := ((List.range n).filter fun c => !f c).length
theorem unseen_le (n : Nat) (f : Nat → Bool) : unseen n f ≤ n := Nat.le_trans (List.length_filter_le _ _) (by simp)
theorem filter_split {α : Type} (p q : α → Bool) (l : List α) : (l.filter p).length = (l.filter fun x => p x && q x).length + (l.filter fun x => p x && !q x).length := by
  induction l with
  | nil => rfl
  | cons x l ih =>
    simp only [List.filter_cons]
    cases p x <;> cases q x <;> simp [ih] <;> omega
/-- marked behind the first k steps from x, and what is new -/
def stepF (st : Nat → Nat → Bool) (x : Nat) (f : Nat → Bool) (k : Nat) (c : Nat) : Bool := f c || (decide (c < k) && st x c)
def newF (st : Nat → Nat → Bool) (x : Nat) (f : Nat → Bool) (k : Nat) : List Nat := (List.range k).filter fun c => !f c && st x c
theorem newF_succ (st : Nat → Nat → Bool) (x : Nat) (f : Nat → Bool) (k : Nat) : newF st x f (k + 1) = newF st x f k ++ if !f k && st x k then [k] else [] := by
  unfold newF
  rw [List.range_succ, List.filter_append]
  cases h : (!f k && st x k) <;> simp [h]
theorem newF_length (st : Nat → Nat → Bool) (x : Nat) (f : Nat → Bool) (k : Nat) : (newF st x f k).length ≤ k := Nat.le_trans (List.length_filter_le _ _) (by simp)
theorem stepF_zero (st : Nat → Nat → Bool) (x : Nat) (f : Nat → Bool) : stepF st x f 0 = f := by
  funext c
  simp [stepF]
theorem stepF_at (st : Nat → Nat → Bool) (x : Nat) (f : Nat → Bool) (k : Nat) : stepF st x f k k = f k := by simp [stepF]
theorem stepF_yes {st : Nat → Nat → Bool} {x : Nat} {f : Nat → Bool} {k : Nat} (h : st x k = true) (i : Nat) : (stepF st x f k i || i == k) = stepF st x f (k + 1) i := by
  unfold stepF
  by_cases e : i = k
  · subst e; simp [h]
  · have : decide (i < k + 1) = decide (i < k) := by simp; omega
    rw [this]
    have h2 : (i == k) = false := by simpa using e
    rw [h2, Bool.or_false]
theorem stepF_no {st : Nat → Nat → Bool} {x : Nat} {f : Nat → Bool} {k : Nat} (h : (!f k && st x k) = false) (i : Nat) : stepF st x f k i = stepF st x f (k + 1) i := by
  unfold stepF
  by_cases e : i = k
  · subst e
    cases h1 : f i <;> simp [h1] at h ⊢
    exact h
  · have : decide (i < k + 1) = decide (i < k) := by simp; omega
    rw [this]
theorem unseen_step (n : Nat) (st : Nat → Nat → Bool) (x : Nat) (f : Nat → Bool) : unseen n f = (newF st x f n).length + unseen n (stepF st x f n) := by
  unfold unseen newF
  rw [filter_split (fun c => !f c) (fun c => st x c)]
  congr 2
  refine List.filter_congr fun c hc => ?_
  have : c < n := List.mem_range.1 hc
  simp [stepF, this]

/-- where a flood stands -/
structure FI (n : Nat) (st : Nat → Nat → Bool) (src : Nat → Bool) (f : Nat → Bool) (q : List Nat) : Prop where
  seed : ∀ c, c < n → src c = true → f c = true
  que : ∀ c ∈ q, c < n ∧ f c = true
  only : ∀ c, c < n → f c = true → Reach n st (fun _ => true) src c
  shut : ∀ c, c < n → f c = true → c ∈ q ∨ ∀ d, d < n → st c d = true → f d = true
theorem FI.start {n : Nat} {st : Nat → Nat → Bool} {src : Nat → Bool} {q : List Nat} (h : ∀ c ∈ q, c < n ∧ src c = true) (h2 : ∀ c, c < n → src c = true → c ∈ q) : FI n st src src q :=
  ⟨fun _ _ h => h, h, fun c hc hs => Reach.base hc hs rfl, fun c hc hs => .inl (h2 c hc hs)⟩
theorem FI.step {n : Nat} {st : Nat → Nat → Bool} {src f : Nat → Bool} {x : Nat} {q : List Nat} (h : FI n st src f (x :: q)) : FI n st src (stepF st x f n) (q ++ newF st x f n) := by
  obtain ⟨hx, hfx⟩ := h.que x (by simp)
  refine ⟨fun c hc hs => ?_, fun c hc => ?_, fun c hc hf => ?_, fun c hc hf => ?_⟩
  · simp [stepF, h.seed c hc hs]
  · rcases List.mem_append.1 hc with hc | hc
    · obtain ⟨h1, h2⟩ := h.que c (by simp [hc])
      exact ⟨h1, by simp [stepF, h2]⟩
    · obtain ⟨h1, h2⟩ := List.mem_filter.1 hc
      have h3 := List.mem_range.1 h1
      simp only [Bool.and_eq_true] at h2
      exact ⟨h3, by simp [stepF, h3, h2.2]⟩
  · simp only [stepF, Bool.or_eq_true, Bool.and_eq_true, decide_eq_true_eq] at hf
    rcases hf with hf | hf
    · exact h.only c hc hf
    · exact Reach.step (h.only x hx hfx) hc rfl hf.2
  · by_cases h1 : f c = true
    · rcases h.shut c hc h1 with h2 | h2
      · rcases List.mem_cons.1 h2 with rfl | h2
        · refine .inr fun d hd hst => ?_
          simp [stepF, hd, hst]
        · exact .inl (by simp [h2])
      · refine .inr fun d hd hst => ?_
        simp [stepF, h2 d hd hst]
    · refine .inl (List.mem_append_right _ (List.mem_filter.2 ⟨List.mem_range.2 hc, ?_⟩))
      simp only [stepF, Bool.or_eq_true, Bool.and_eq_true] at hf
      rcases hf with hf | hf
      · exact absurd hf h1
      · simp [h1, hf.2]
theorem FI.done {n : Nat} {st : Nat → Nat → Bool} {src f : Nat → Bool} (h : FI n st src f []) {c : Nat} (hc : c < n) : f c = reachB n st (fun _ => true) src c := by
  rw [Bool.eq_iff_iff, reachB_iff]
  refine ⟨h.only c hc, fun hr => ?_⟩
  have := hr.least (T := fun c => c < n ∧ f c = true) (fun c hc hs _ => ⟨hc, h.seed c hc hs⟩) (fun d c hd hc _ hst => ⟨hc, ?_⟩)
  · exact this.2
  · rcases h.shut d hd.1 hd.2 with h1 | h1
    · simp at h1
    · exact h1 c hc hst
/-- natural numbers as Go's -/
def natsI (q : List Nat) : List Int := q.map Int.ofNat
theorem natsI_length (q : List Nat) : (natsI q).length = q.length := by simp [natsI]
theorem natsI_append (q r : List Nat) : natsI (q ++ r) = natsI q ++ natsI r := by simp [natsI]
theorem natsI_of {xs : List Int} (h : ∀ x ∈ xs, 0 ≤ x) : natsI (xs.map Int.toNat) = xs := by
  unfold natsI
  rw [List.map_map]
  conv => rhs; rw [← List.map_id xs]
  refine List.map_congr_left fun x hx => ?_
  have := h x hx
  simp
  omega
/-- a flood over steps that ask whether it burns there is what burns and is reached -/
theorem reachB_flood {n : Nat} {near : Nat → Nat → Bool} {burn src : Nat → Bool} {c : Nat} :
    reachB n (fun a b => near a b && burn b) (fun _ => true) (fun c => src c && burn c) c = reachB n near burn src c := by
  rw [Bool.eq_iff_iff, reachB_iff, reachB_iff]
  constructor
  · intro h
    refine h.least (T := Reach n near burn src) (fun c hc hs _ => ?_) (fun d c hd hc _ hst => ?_)
    · simp only [Bool.and_eq_true] at hs
      exact Reach.base hc hs.1 hs.2
    · simp only [Bool.and_eq_true] at hst
      exact Reach.step hd hc hst.2 hst.1
  · intro h
    refine h.least (T := fun c => Reach n (fun a b => near a b && burn b) (fun _ => true) (fun c => src c && burn c) c) (fun c hc hs hb => ?_) (fun d c hd hc hb hst => ?_)
    · exact Reach.base hc (by simp [hs, hb]) rfl
    · exact Reach.step hd hc rfl (by simp [hst, hb])
end Go.Proofs.YtojfbcgfeojdfaaGreat
