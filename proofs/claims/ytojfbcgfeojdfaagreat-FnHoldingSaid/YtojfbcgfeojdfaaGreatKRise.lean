/- Lemmas. -/
import Derived.Test.YtojfbcgfeojdfaaGreatKWork
import Derived.Test.YtojfbcgfeojdfaaGreatKRd
import Derived.Test.YtojfbcgfeojdfaaGreatKMir
import Derived.Test.YtojfbcgfeojdfaaGreatKSpeed
import Derived.Test.YtojfbcgfeojdfaaGreatKSpeedW
/-
  Arrival times: the plain laws of the reference's and the program's loops.
-/
namespace Go.Proofs.YtojfbcgfeojdfaaGreat
set_option linter.unusedSimpArgs false
set_option linter.unusedVariables false
open Go.RowKit

def donI (W : Nat) (xs : List Int) (l : List PhaseI) (a b : Nat) (t : Int) : Int := doneT (spd l) t (wkI W xs a b)
abbrev IsTI (W n : Nat) (xs ss : List Int) (l : List PhaseI) (start : Int) (ts : List Int) : Prop := IsT n (nearN W) (brn xs) (fun c => hasI ss c) start (donI W xs l) ts
abbrev BegTI (W n : Nat) (xs ss : List Int) (l : List PhaseI) (start : Int) (ts : List Int) : Prop := BegT n (nearN W) (brn xs) (fun c => hasI ss c) start (donI W xs l) ts
abbrev edgeI (W : Nat) (xs : List Int) (l : List PhaseI) (ts : List Int) (a b : Nat) : Prop := edgeT (brn xs) (nearN W) (donI W xs l) ts a b
/-- the times at which fire arrives -/
noncomputable def arrT (W n : Nat) (xs ss : List Int) (l : List PhaseI) (start : Int) : List Int := @Classical.epsilon (List Int) ⟨[]⟩ (IsTI W n xs ss l start)
section
variable {W n : Nat} {xs ss : List Int} {l : List PhaseI} {start : Int} {ts : List Int}
theorem arrT_eq (h : IsTI W n xs ss l start ts) : arrT W n xs ss l start = ts :=
  IsT.unique (@Classical.epsilon_spec _ (IsTI W n xs ss l start) ⟨ts, h⟩) h
theorem donI_ge (a b : Nat) (t : Int) : t ≤ donI W xs l a b t := doneT_ge _ _
theorem donI_mono (hp : phasesB l = true) (a b : Nat) (t t' : Int) (h0 : 0 ≤ t) (h : t ≤ t') : donI W xs l a b t ≤ donI W xs l a b t' := doneT_le_of (fun t h => (spd_pos hp (t := t) h).1) h0 h
theorem donI_le (hx : ∀ x ∈ xs, 0 ≤ x ∧ x ≤ 20) {a b : Nat} (ha : a < xs.length) (hb : b < xs.length) (t : Int) : donI W xs l a b t ≤ t + 120 := by
  have h1 := wkI_bound (W := W) hx ha hb
  have h2 := doneT_le (sp := spd l) (t := t) h1.1
  unfold donI
  omega
theorem BegTI.done (hp : phasesB l = true) (h : BegTI W n xs ss l start ts) (he : ∀ a b, a < n → b < n → edgeI W xs l ts a b) : arrT W n xs ss l start = ts :=
  arrT_eq (BegT.done h (fun a b t t' h0 h1 => donI_mono hp a b t t' h0 h1) he)

def beg0 (n : Nat) (xs ss : List Int) (start : Int) : List Int := (List.range n).map fun c => if brn xs c && hasI ss c then start else -1
theorem beg0_get {c : Nat} (hc : c < n) : (beg0 n xs ss start).getD c 0 = if brn xs c && hasI ss c then start else -1 := by simp [beg0, List.getD, hc]
theorem beg0_ok (hs : 0 ≤ start) : BegTI W n xs ss l start (beg0 n xs ss start) := by
  refine ⟨by simp [beg0], fun c hc => ?_, fun c hc h1 h2 => ?_⟩
  · rw [beg0_get hc]
    cases hb : brn xs c
    · exact .inl rfl
    · cases hh : hasI ss (c : Int)
      · exact .inl rfl
      · exact .inr ⟨hs, Arr.base hc hh hb⟩
  · rw [beg0_get hc, h2, h1]
    simp only [Bool.and_self, if_true]
    exact ⟨by omega, Int.le_refl _⟩

def valT (ts : List Int) (c : Nat) : Nat := if ts.getD c 0 = -1 then 5000 else (ts.getD c 0).toNat
def oneT (ts : List Int) (c : Nat) : Nat := if ts.getD c 0 = -1 then 0 else 1
def sumA (f : Nat → Nat) : Nat → Nat
  | 0 => 0
  | n + 1 => sumA f n + f n
theorem sumA_congr {f g : Nat → Nat} : ∀ {n : Nat}, (∀ c, c < n → f c = g c) → sumA f n = sumA g n
  | 0, _ => rfl
  | n + 1, h => by rw [sumA, sumA, sumA_congr (fun c hc => h c (by omega)), h n (by omega)]
theorem sumA_one {f g : Nat → Nat} {b : Nat} : ∀ {n : Nat}, b < n → (∀ c, c ≠ b → f c = g c) → sumA f n + g b = sumA g n + f b
  | 0, h, _ => by omega
  | n + 1, h, hc => by
    by_cases e : b = n
    · subst e
      have := sumA_congr (f := f) (g := g) (n := b) (fun c h => hc c (by omega))
      rw [sumA, sumA, this]
      omega
    · have := sumA_one (f := f) (g := g) (b := b) (n := n) (by omega) hc
      have h2 := hc n (by omega)
      rw [sumA, sumA, h2]
      omega
theorem sumA_le {f : Nat → Nat} {k : Nat} : ∀ {n : Nat}, (∀ c, c < n → f c ≤ k) → sumA f n ≤ k * n
  | 0, _ => Nat.zero_le _
  | n + 1, h => by
    have h1 := sumA_le (f := f) (k := k) (n := n) (fun c hc => h c (by omega))
    have h2 := h n (by omega)
    rw [sumA, Nat.mul_succ]
    omega
def sumT (ts : List Int) (n : Nat) : Nat := sumA (valT ts) n
def cntT (ts : List Int) (n : Nat) : Nat := sumA (oneT ts) n
theorem cntT_le (ts : List Int) (n : Nat) : cntT ts n ≤ n := by
  have := sumA_le (f := oneT ts) (k := 1) (n := n) (fun c _ => by unfold oneT; split <;> omega)
  unfold cntT
  omega
structure BndT (n : Nat) (ts : List Int) : Prop where
  le : ∀ c, c < n → ts.getD c 0 ≤ 1000 + 120 * (cntT ts n : Nat)
theorem BndT.max {n : Nat} {ts : List Int} (h : BndT n ts) (hn : n ≤ 25) {c : Nat} (hc : c < n) : ts.getD c 0 ≤ 4000 := by
  have h1 := h.le c hc
  have h2 := cntT_le ts n
  omega
theorem beg0_bnd (hs : start ≤ 1000) : BndT n (beg0 n xs ss start) := by
  refine ⟨fun c hc => ?_⟩
  rw [beg0_get hc]
  split <;> omega
theorem set_get {b c : Nat} {v : Int} (hl : ts.length = n) (hc : c < n) : (ts.set b v).getD c 0 = if c = b then v else ts.getD c 0 := by
  by_cases e : c = b
  · subst e
    rw [if_pos rfl]
    simp [List.getD, hl, hc]
  · rw [if_neg e]
    simp [List.getD, List.getElem?_set_ne (Ne.symm e)]
theorem set_get' {b c : Nat} {v : Int} (e : c ≠ b) : (ts.set b v).getD c 0 = ts.getD c 0 := by
  simp [List.getD, List.getElem?_set_ne (Ne.symm e)]
/-- a shorter time: less is left, and the bound stays -/
theorem relax_sum (hl : ts.length = n) (hn : n ≤ 25) (hb : BndT n ts) {b : Nat} {v : Int} (hbn : b < n) (h0 : 0 ≤ v) (hv : v ≤ 1120 + 120 * (cntT ts n : Nat)) (hlt : ts.getD b 0 = -1 ∨ (0 ≤ ts.getD b 0 ∧ v < ts.getD b 0)) :
    sumT (ts.set b v) n < sumT ts n ∧ BndT n (ts.set b v) := by
  have e1 := sumA_one (f := valT (ts.set b v)) (g := valT ts) hbn (fun c hc => by unfold valT; rw [set_get' hc])
  have e2 := sumA_one (f := oneT (ts.set b v)) (g := oneT ts) hbn (fun c hc => by unfold oneT; rw [set_get' hc])
  have g := set_get (b := b) (v := v) hl hbn
  rw [if_pos rfl] at g
  have v1 : valT (ts.set b v) b = v.toNat := by unfold valT; rw [g, if_neg (by omega)]
  have o1 : oneT (ts.set b v) b = 1 := by unfold oneT; rw [g, if_neg (by omega)]
  have hc := cntT_le ts n
  rw [v1] at e1
  rw [o1] at e2
  change sumT (ts.set b v) n + _ = sumT ts n + _ at e1
  change cntT (ts.set b v) n + _ = cntT ts n + _ at e2
  rcases hlt with h | ⟨hp, h⟩
  · have v2 : valT ts b = 5000 := by unfold valT; rw [if_pos h]
    have o2 : oneT ts b = 0 := by unfold oneT; rw [if_pos h]
    rw [v2] at e1
    rw [o2] at e2
    refine ⟨?_, ⟨fun c hcn => ?_⟩⟩
    · have h5 : cntT (ts.set b v) n ≤ n := cntT_le _ _
      omega
    · rw [set_get hl hcn]
      split
      · omega
      · have := hb.le c hcn
        omega
  · have v2 : valT ts b = (ts.getD b 0).toNat := by unfold valT; rw [if_neg (by omega)]
    have o2 : oneT ts b = 1 := by unfold oneT; rw [if_neg (by omega)]
    rw [v2] at e1
    rw [o2] at e2
    refine ⟨by omega, ⟨fun c hcn => ?_⟩⟩
    rw [set_get hl hcn]
    have h6 := hb.le c hcn
    have h7 := hb.le b hbn
    split <;> omega
theorem sumT_le (hl : ts.length = n) (hn : n ≤ 25) (hb : BndT n ts) : sumT ts n ≤ 125000 := by
  have := sumA_le (f := valT ts) (k := 5000) (n := n) (fun c hc => by
    have := hb.max hn hc
    unfold valT
    split <;> omega)
  unfold sumT
  omega
end
end Go.Proofs.YtojfbcgfeojdfaaGreat

namespace Go.Proofs.YtojfbcgfeojdfaaGreat
set_option linter.unusedSimpArgs false
set_option linter.unusedVariables false
open Go.RowKit

structure CutI where
  cell : Int
  tick : Int
instance : DecidableEq CutI := fun a b => decidable_of_iff (a.cell = b.cell ∧ a.tick = b.tick) (by cases a; cases b; simp [and_assoc])
def CutI.zero : CutI := ⟨0, 0⟩
def FCut : Fl CutI where
  sz := 2
  enc x := [.int .i64 x.cell, .int .i64 x.tick]
  z := CutI.zero
  wf x := I64 x.cell ∧ I64 x.tick
  pos := by decide
  len _ := rfl
  one := by intro x v hv; simp at hv; rcases hv with rfl | rfl <;> rfl
abbrev CutI.val (x : CutI) : Value := .agg #[.int .i64 x.cell, .int .i64 x.tick]
theorem Rd.cellCut {w : World} {b off n c : Nat} {xs : List CutI} (h : Rd FCut w (some ⟨b, off, none⟩) n c xs) {k : Nat} (hk : k < n) : b < w.heap.size ∧ w.cell? ⟨b, off + k * 2, none⟩ = some (.int .i64 (xs.getD k CutI.zero).cell) ∧ w.cell? ⟨b, off + k * 2 + 1, none⟩ = some (.int .i64 (xs.getD k CutI.zero).tick) := by
  obtain ⟨b', off', e, hl, hc⟩ := h.at' k hk
  simp only [Option.some.injEq, Addr.mk.injEq] at e
  obtain ⟨rfl, rfl, _⟩ := e
  exact ⟨hl, by rw [show off + k * 2 = off + (k * FCut.sz + 0) by show _ = off + (k * 2 + 0); omega]; exact hc k hk 0 (by decide), by rw [show off + k * 2 + 1 = off + (k * FCut.sz + 1) by show _ = off + (k * 2 + 1); omega]; exact hc k hk 1 (by decide)⟩
theorem Ow.cellCut {E : TypeId} {B : Nat} {w : World} {g n c : Nat} {xs : List CutI} (h : Ow FCut E B w (some ⟨g, 0, none⟩) n c xs) {k : Nat} (hk : k < n) : w.cell? ⟨g, k * 2, none⟩ = some (.int .i64 (xs.getD k CutI.zero).cell) ∧ w.cell? ⟨g, k * 2 + 1, none⟩ = some (.int .i64 (xs.getD k CutI.zero).tick) := by
  exact ⟨h.cell hk (j := 0) (by decide), h.cell hk (j := 1) (by decide)⟩
theorem Ow.putCut {E : TypeId} {B : Nat} {w : World} {g n c : Nat} {xs : List CutI} (h : Ow FCut E B w (some ⟨g, 0, none⟩) n c xs) {k : Nat} (hk : k < n) (y : CutI) (hw : FCut.wf y) : Ow FCut E B ((w.setCell ⟨g, k * 2, none⟩ (.int .i64 y.cell)).setCell ⟨g, k * 2 + 1, none⟩ (.int .i64 y.tick)) (some ⟨g, 0, none⟩) n c (xs.set k y) :=
  h.putRec hk y hw
theorem Mem.putCut {E : TypeId} {B : Nat} {w0 w : World} {G G' : List Ent} {g n c : Nat} {xs : List CutI} (h : Mem B w0 w G) {k : Nat} (hk : k < n) (y : CutI) (hw : FCut.wf y) (p : Put G (owE FCut E (some ⟨g, 0, none⟩) n c xs) (owE FCut E (some ⟨g, 0, none⟩) n c (xs.set k y)) G') : Mem B w0 ((w.setCell ⟨g, k * 2, none⟩ (.int .i64 y.cell)).setCell ⟨g, k * 2 + 1, none⟩ (.int .i64 y.tick)) G' :=
  h.put p (setRec_keeps (d := blockOf (some ⟨g, 0, none⟩)) g ⟨_, rfl, rfl⟩ (FCut.enc y) (k * 2) w) ((h.ow p.mem').putCut hk y hw) (fun k hk => .inl hk)
theorem Tryz.info37 : (Tryz.prog.info? 37).map (fun i => (i.zero, i.size, i.bytes)) = some (some (.agg #[.int .i64 0, .int .i64 0]), 2, 16) := by kernel_rfl
end Go.Proofs.YtojfbcgfeojdfaaGreat

/-
  A make of ints as a step of a region that draws its order.
-/
namespace Go.Proofs.YtojfbcgfeojdfaaGreat
set_option linter.unusedSimpArgs false
set_option linter.unusedVariables false
open Go.RowKit

theorem wp_makeI {P : Program} {w : World} {o : Oper} {a : Act} {K : Act → World → Prop} {Q : Exit → Act → World → Prop} {B : Nat} {w0 : World} {G : List Ent} (hM : Mem B w0 w G) (d : Option Tmp) (hd : o.dst = d) (l c : Operand) (t : TypeId) (hop : o.op = Op.makeSlice t l c)
    (i : TypeInfo) (h1 : P.underlying t = some (.slice 3)) (h2 : P.info? 3 = some i) (hz0 : i.zero = some (.int .i64 0)) (hz1 : i.size = 1) (hz2 : i.bytes = 8) (n : Nat) (hl : a.eval l = .int .i64 n) (hc : a.eval c = .int .i64 n) (hn : n ≤ 17592186044416)
    (hK : ∀ b w', Mem B w0 w' (intE (some ⟨b, 0, none⟩) n n (List.replicate n 0) :: G) → K (a.put d (.slice (some ⟨b, 0, none⟩) n n)) w') : Oper.wp P o a w K Q := by
  subst hd
  obtain ⟨w', hrun, r1, r2⟩ := run_make_full (P := P) w w.heap.size t 3 i (.int .i64 0) 1 h1 h2 hz0 hz1 .i64 .i64 n (by rw [hz2]; omega) (by unfold maxLen; omega) (Nat.le_refl _)
  unfold Oper.wp
  simp [execOp, hop, hl, hc, hrun, Result.andThen]
  exact hK _ _ (hM.own ((Below.refl _ _).grown r2 (Nat.le_refl _) (by intro k hk; cases hk)) (own_made (by rw [Nat.mul_one] at r1; exact r1) (by omega)))
end Go.Proofs.YtojfbcgfeojdfaaGreat

/-
  Phases: the pure part.
-/
namespace Go.Proofs.YtojfbcgfeojdfaaGreat
set_option linter.unusedSimpArgs false
set_option linter.unusedVariables false
open Go.RowKit

def phTo (l : List PhaseI) (k : Nat) : Bool := (List.range k).all (phOK l)
theorem phTo_succ (l : List PhaseI) (k : Nat) : phTo l (k + 1) = (phTo l k && phOK l k) := by
  simp [phTo, List.range_succ]
theorem phases_to {l : List PhaseI} : phasesB l = (phTo l l.length && inB l.length 1 6) := rfl
theorem phases_bad {l : List PhaseI} {k : Nat} (hk : k < l.length) (h : phOK l k = false) : phasesB l = false := by
  cases hp : phasesB l
  · rfl
  · have := (phasesB_true hp).1 k hk
    rw [h] at this
    exact this.symm
theorem phases_len {l : List PhaseI} (h : inB l.length 1 6 = false) : phasesB l = false := by
  rw [phases_to, h, Bool.and_false]
theorem phases_zero {l : List PhaseI} (hl : inB l.length 1 6 = true) (h : (l.getD 0 PhaseI.zero).fr ≠ 0) : phasesB l = false := by
  have := inB_true hl
  refine phases_bad (k := 0) (by omega) ?_
  have h0 : decide ((l.getD 0 PhaseI.zero).fr = 0) = false := by simpa using h
  rw [phOK, if_pos rfl, h0, Bool.and_false]

theorem phTick_any (d : Int) (w : World) : Calls Tryz.prog 41 #[.int .i64 d] w fun e w' => e = .returned (.bool (inB d 0 9999)) ∧ w = w' := by
  go_enter Tryz.func41, Tryz.ntmps41
  go_wp2_with (go_at_call 71; refine (in_any _ _ _ _).mono ?_; rintro e w' ⟨rfl, rfl⟩)
  go_ret
  exact ⟨rfl, rfl⟩
theorem phTickS_any (d : Int) (w : World) : Calls Tryz.prog 83 #[.int .i64 d] w fun e w' => e = .returned (.bool (inB d 0 9999)) ∧ w = w' := by
  go_enter Tryz.func83, Tryz.ntmps83
  go_wp2_with (go_at_call 81; refine (l1In_any _ _ _ _).mono ?_; rintro e w' ⟨rfl, rfl⟩)
  go_ret
  exact ⟨rfl, rfl⟩

end Go.Proofs.YtojfbcgfeojdfaaGreat

/-
  Cuts: what both tests find.
-/
namespace Go.Proofs.YtojfbcgfeojdfaaGreat
set_option linter.unusedSimpArgs false
set_option linter.unusedVariables false
open Go.RowKit

def cutOK (xs : List Int) (l : List CutI) (k : Nat) : Bool :=
  inB (l.getD k CutI.zero).cell 0 ((xs.length : Int) - 1) && inB (l.getD k CutI.zero).tick 0 9999 && !(xs.getD (l.getD k CutI.zero).cell.toNat 0 == 0) && (if k = 0 then true else decide ((l.getD (k - 1) CutI.zero).cell < (l.getD k CutI.zero).cell))
def cutTo (xs : List Int) (l : List CutI) (k : Nat) : Bool := (List.range k).all (cutOK xs l)
def cutsB (W H : Int) (xs : List Int) (l : List CutI) : Bool := goodB 20 W H xs && cutTo xs l l.length && decide (l.length ≤ 8)
theorem cutTo_succ (xs : List Int) (l : List CutI) (k : Nat) : cutTo xs l (k + 1) = (cutTo xs l k && cutOK xs l k) := by
  simp [cutTo, List.range_succ]
theorem cuts_bad {W H : Int} {xs : List Int} {l : List CutI} {k : Nat} (hk : k < l.length) (h : cutOK xs l k = false) : cutsB W H xs l = false := by
  have : cutTo xs l l.length = false := by
    cases hp : cutTo xs l l.length
    · rfl
    · rw [cutTo, List.all_eq_true] at hp
      have := hp k (List.mem_range.2 hk)
      rw [h] at this
      exact this.symm
  rw [cutsB, this, Bool.and_false, Bool.false_and]

end Go.Proofs.YtojfbcgfeojdfaaGreat

/-
  Slacks: the pure part.
-/
namespace Go.Proofs.YtojfbcgfeojdfaaGreat
set_option linter.unusedSimpArgs false
set_option linter.unusedVariables false
open Go.RowKit

theorem least_nat {P : Nat → Prop} (h : ∃ n, P n) : ∃ n, P n ∧ ∀ m, P m → n ≤ m := by
  obtain ⟨n, hn⟩ := h
  induction n using Nat.strongRecOn with
  | ind n ih =>
    by_cases hq : ∃ m, m < n ∧ P m
    · obtain ⟨m, hm, hp⟩ := hq
      exact ih m hm hp
    · exact ⟨n, hn, fun m hm => Nat.le_of_not_lt (fun hlt => hq ⟨m, hlt, hm⟩)⟩
section
variable {W n : Nat} {xs ss : List Int} {l : List PhaseI} {start : Int}
theorem arr_pos (hst : 0 ≤ start) {c : Nat} {t : Int} (h : Arr n (nearN W) (brn xs) (fun c => hasI ss c) start (donI W xs l) c t) : 0 ≤ t :=
  Arr.least (T := fun _ t => 0 ≤ t) (fun _ _ _ _ => hst) (fun d c t ht _ _ _ => Int.le_trans ht (donI_ge d c t)) h
theorem arr_lt {c : Nat} {t : Int} (h : Arr n (nearN W) (brn xs) (fun c => hasI ss c) start (donI W xs l) c t) : c < n :=
  Arr.least (T := fun c _ => c < n) (fun _ h _ _ => h) (fun _ _ _ _ h _ _ => h) h
theorem arrT_is (hst : 0 ≤ start) : IsTI W n xs ss l start (arrT W n xs ss l start) := by
  classical
  have hex : ∀ c, ∃ v : Int, (c < n → v = -1 ∨ (0 ≤ v ∧ Arr n (nearN W) (brn xs) (fun c => hasI ss c) start (donI W xs l) c v)) ∧ ∀ t, Arr n (nearN W) (brn xs) (fun c => hasI ss c) start (donI W xs l) c t → v ≠ -1 ∧ v ≤ t := by
    intro c
    by_cases h : ∃ t : Nat, Arr n (nearN W) (brn xs) (fun c => hasI ss c) start (donI W xs l) c (t : Int)
    · obtain ⟨m, hm, hl⟩ := least_nat h
      refine ⟨m, fun _ => .inr ⟨by omega, hm⟩, fun t ht => ?_⟩
      obtain ⟨q, rfl⟩ := Int.eq_ofNat_of_zero_le (arr_pos hst ht)
      have := hl q ht
      exact ⟨by omega, by omega⟩
    · refine ⟨-1, fun _ => .inl rfl, fun t ht => ?_⟩
      obtain ⟨q, rfl⟩ := Int.eq_ofNat_of_zero_le (arr_pos hst ht)
      exact absurd ⟨q, ht⟩ h
  obtain ⟨f, hf⟩ := Classical.axiomOfChoice hex
  have hg : ∀ c, c < n → ((List.range n).map f).getD c 0 = f c := fun c hc => by simp [List.getD, hc]
  have hi : IsTI W n xs ss l start ((List.range n).map f) := by
    refine ⟨by simp, fun c hc => ?_, fun c t h => ?_⟩
    · rw [hg c hc]
      exact (hf c).1 hc
    · rw [hg c (arr_lt h)]
      exact (hf c).2 t h
  exact @Classical.epsilon_spec _ (IsTI W n xs ss l start) ⟨_, hi⟩
theorem arrT_len (hst : 0 ≤ start) : (arrT W n xs ss l start).length = n := (arrT_is hst).len
theorem arrT_ge (hst : 0 ≤ start) {c : Nat} (hc : c < n) : -1 ≤ (arrT W n xs ss l start).getD c 0 := by
  rcases (arrT_is (W := W) (xs := xs) (ss := ss) (l := l) hst).is c hc with h | h
  · omega
  · omega
end

/-- the slack of a cut -/
def slk (ts : List Int) (c : CutI) : Int := if ts.getD c.cell.toNat 0 = -1 then 9999 else ts.getD c.cell.toNat 0 - c.tick
theorem slk_take {ts : List Int} {l : List CutI} {k : Nat} (hk : k < l.length) : (l.map (slk ts)).take (k + 1) = (l.map (slk ts)).take k ++ [slk ts (l.getD k CutI.zero)] := by
  rw [← List.map_take, ← List.map_take, take_succV (z := CutI.zero) hk, List.map_append]
  rfl

end Go.Proofs.YtojfbcgfeojdfaaGreat

namespace Go.Proofs.YtojfbcgfeojdfaaGreat
set_option linter.unusedSimpArgs false
set_option linter.unusedVariables false
open Go.RowKit

/-- strictly ascending, as far as place k -/
def risesTo (xs : List Int) : Nat → Bool
  | 0 => true
  | k + 1 => risesTo xs k && (k == 0 || decide (xs.getD (k - 1) 0 < xs.getD k 0))
def risingB (xs : List Int) : Bool := risesTo xs xs.length
theorem risesTo_le {xs : List Int} {n : Nat} (h : risesTo xs n = true) : ∀ {k : Nat}, k ≤ n → risesTo xs k = true := by
  induction n with
  | zero => intro k hk; obtain rfl : k = 0 := (by omega); exact h
  | succ n ih =>
    intro k hk
    by_cases e : k = n + 1
    · subst e; exact h
    · simp only [risesTo, Bool.and_eq_true] at h
      exact ih h.1 (by omega)
theorem rising_false {xs : List Int} {k j : Nat} (hk : k < xs.length) (hj : k = j + 1) (h : ¬ xs.getD j 0 < xs.getD k 0) : risingB xs = false := by
  cases hr : risingB xs with
  | false => rfl
  | true =>
    have h1 := risesTo_le hr (show k + 1 ≤ xs.length by omega)
    subst hj
    simp only [risesTo, Bool.and_eq_true, Bool.or_eq_true, decide_eq_true_eq, beq_iff_eq] at h1
    rcases h1.2 with h2 | h2
    · omega
    · exact absurd h2 h
theorem risesTo_succ {xs : List Int} {k j : Nat} (hj : k = j + 1) (h0 : risesTo xs k = true) (h : xs.getD j 0 < xs.getD k 0) : risesTo xs (k + 1) = true := by
  subst hj
  simp only [risesTo, Bool.and_eq_true, Bool.or_eq_true, decide_eq_true_eq]
  simp only [risesTo, Bool.and_eq_true, Bool.or_eq_true, decide_eq_true_eq] at h0
  exact ⟨h0, .inr h⟩
/-- a set of the numbers below m -/
def setB (m : Nat) (xs : List Int) : Bool := risingB xs && xs.all fun x => inB x 0 ((m : Int) - 1)
theorem rising_ge {xs : List Int} (h : risingB xs = true) (h0 : ∀ x ∈ xs, 0 ≤ x) : ∀ k, k < xs.length → (k : Int) ≤ xs.getD k 0 := by
  intro k
  induction k with
  | zero => intro hk; exact h0 _ (getD_mem hk)
  | succ k ih =>
    intro hk
    have h1 := risesTo_le h (show k + 2 ≤ xs.length by omega)
    simp only [risesTo, Bool.and_eq_true, Bool.or_eq_true, decide_eq_true_eq, beq_iff_eq] at h1
    have h2 := ih (by omega)
    rcases h1.2 with e | e
    · omega
    · simp only [Nat.add_sub_cancel] at e
      omega
theorem setB_true {m : Nat} {xs : List Int} (h : setB m xs = true) : xs.length ≤ m ∧ ∀ x ∈ xs, 0 ≤ x ∧ x < m := by
  unfold setB at h
  simp only [Bool.and_eq_true, List.all_eq_true] at h
  have h0 : ∀ x ∈ xs, 0 ≤ x ∧ x < m := fun x hx => by have := inB_true (h.2 x hx); omega
  refine ⟨?_, h0⟩
  by_cases hz : xs.length = 0
  · omega
  · have h1 := rising_ge h.1 (fun x hx => (h0 x hx).1) (xs.length - 1) (by omega)
    have h2 := h0 _ (getD_mem (xs := xs) (k := xs.length - 1) (by omega))
    omega

set_option maxRecDepth 100000 in
set_option maxHeartbeats 4000000 in
theorem isRising_any (a : Option Addr) (n c : Nat) (xs : List Int) (w : World) (h : Ints w a n c xs) :
    Calls Tryz.prog 89 #[.slice a n c] w fun e w' => e = .returned (.bool (risingB xs)) ∧ Below w.heap.size w w' := by
  have hn := h.cap
  have hc := h.room
  have HL := Lib.hid h.len
  go_enter Tryz.func89, Tryz.ntmps89
  go_wp2
  go_loopw [3] (fun i wr => ∃ j : Nat, (j + 1 ≤ n ∨ j = 0) ∧ i = .int .i64 ((j : Int) + 1) ∧ (j < n → risesTo xs (j + 1) = true) ∧ Below w.heap.size w wr) (fun i _ => n + 1 - (intOf i).toNat)
  case atStart => exact ⟨0, .inr rfl, rfl, fun _ => by simp [risesTo], Below.refl _ _⟩
  case round =>
    obtain ⟨j, hk, rfl, hris, hbr⟩ := hrel
    have HA := Lib.hid hris; clear hris
    by_cases hlt : j + 1 < n
    · obtain ⟨b, off, rfl, hb, hcell⟩ := (h.below hbr).at' _ hlt
      have hck := hcell (j + 1) hlt
      have hcj := hcell j (by omega)
      clear hcell
      obtain ⟨x, hx⟩ : ∃ x, xs.getD (j + 1) 0 = x := ⟨_, rfl⟩
      obtain ⟨y, hy⟩ : ∃ y, xs.getD j 0 = y := ⟨_, rfl⟩
      rw [hx] at hck
      rw [hy] at hcj
      have HX := Lib.hid hx; clear hx
      have HY := Lib.hid hy; clear hy
      obtain ⟨k, hkj⟩ : ∃ k, k = j + 1 := ⟨_, rfl⟩
      have hkI : ((j : Int) + 1) = (k : Int) := by omega
      rw [hkI]
      rw [← hkj] at hck hlt
      have hjI : IntKind.i64.wrap ((k : Int) - 1) = (j : Int) := by rw [wrap_in (by omega)]; omega
      have i0 : (0 : Int) ≤ (k : Int) := by omega
      have i1 : (k : Int) < (n : Int) := by omega
      have j0 : (0 : Int) ≤ (j : Int) := by omega
      have j1 : (j : Int) < (n : Int) := by omega
      have HK := Lib.hid hkj
      clear hkI hkj
      by_cases hle : x ≤ y
      · go_wp2_with fail
        go_quiet (fail)
        go_wp2_with fail
        go_ret
        exact ⟨rb (rising_false (k := k) (j := j) (by rw [HL.out]; exact hlt) HK.out (by rw [HY.out, HK.out, HX.out]; omega)).symm, by (repeat' (first | exact Below.refl _ _ | with_reducible refine Below.setCell ?_ (by first | omega | (simp; done) | (simp; omega)) _ | with_reducible refine Below.alloc ?_ (by first | omega | (simp; done) | (simp; omega)) _ | with_reducible refine Below.drew ?_ | with_reducible refine bdrewN ?_ _ | with_reducible refine Below.trans ?_ (Below.mono hbr (by first | omega | (simp; done) | (simp; omega)))))⟩
      · go_wp2_with fail
        go_quiet (fail)
        go_wp2_with fail
        go_roundw
        case rel =>
          have e := HK.out
          subst e
          refine ⟨j + 1, .inl (by omega), by go_num, fun _ => ?_, by (repeat' (first | exact Below.refl _ _ | with_reducible refine Below.setCell ?_ (by first | omega | (simp; done) | (simp; omega)) _ | with_reducible refine Below.alloc ?_ (by first | omega | (simp; done) | (simp; omega)) _ | with_reducible refine Below.drew ?_ | with_reducible refine bdrewN ?_ _ | with_reducible refine Below.trans ?_ (Below.mono hbr (by first | omega | (simp; done) | (simp; omega)))))⟩
          exact risesTo_succ (j := j) rfl (HA.out (by omega)) (by rw [HY.out, HX.out]; omega)
        case measure => simp [intOf]; omega
    · go_wp2
      go_ret
      refine ⟨rb ?_, hbr⟩
      by_cases h0 : n = 0
      · rw [risingB, HL.out, h0]; rfl
      · obtain rfl : n = j + 1 := by omega
        rw [risingB, HL.out]; exact (HA.out (by omega)).symm

set_option maxRecDepth 100000 in
set_option maxHeartbeats 4000000 in
theorem l1Rising_any (a : Option Addr) (n c : Nat) (xs : List Int) (lo hi : Int) (w : World) (h : Ints w a n c xs) :
    Calls Tryz.prog 123 #[.slice a n c, .int .i64 lo, .int .i64 hi] w fun e w' => e = .returned (.bool (risingB xs && xs.all fun x => inB x lo hi)) ∧ Below w.heap.size w w' := by
  have hn := h.cap
  have hc := h.room
  have HL := Lib.hid h.len
  go_enter Tryz.func123, Tryz.ntmps123
  go_wp2
  go_loopw [7] (fun i wr => ∃ k : Nat, k ≤ n ∧ i = .int .i64 k ∧ (risesTo xs k && (xs.take k).all fun x => inB x lo hi) = true ∧ Below w.heap.size w wr) (fun i _ => n - (intOf i).toNat)
  case atStart => exact ⟨0, Nat.zero_le _, rfl, by simp [risesTo], Below.refl _ _⟩
  case round =>
    obtain ⟨k, hk, rfl, hris, hbr⟩ := hrel
    have HA := Lib.hid hris; clear hris
    by_cases hlt : k < n
    · obtain ⟨b, off, rfl, hb, hcell⟩ := (h.below hbr).at' _ hlt
      have hck := hcell k hlt
      obtain ⟨x, hx⟩ : ∃ x, xs.getD k 0 = x := ⟨_, rfl⟩
      rw [hx] at hck
      have HX := Lib.hid hx; clear hx
      have i0 : (0 : Int) ≤ (k : Int) := by omega
      have i1 : (k : Int) < (n : Int) := by omega
      cases hin : inB x lo hi
      · clear hcell
        go_wp2_with fail
        go_quiet ((go_at_call 81; exact Calls.quiet_of_same ((l1In_any _ _ _ _).mono fun _ _ h => ⟨h.1, h.2.symm⟩)))
        go_wp2_with fail
        go_ret
        refine ⟨rb ?_, by (repeat' (first | exact Below.refl _ _ | with_reducible refine Below.setCell ?_ (by first | omega | (simp; done) | (simp; omega)) _ | with_reducible refine Below.alloc ?_ (by first | omega | (simp; done) | (simp; omega)) _ | with_reducible refine Below.drew ?_ | with_reducible refine bdrewN ?_ _ | with_reducible refine Below.trans ?_ (Below.mono hbr (by first | omega | (simp; done) | (simp; omega)))))⟩
        rw [all_false_of (k := k) (by rw [HL.out]; exact hlt) (by rw [HX.out]; exact hin), Bool.and_false]
      by_cases h0 : k = 0
      · have kz : decide (0 < k) = false := decide_eq_false (by omega)
        have H0 := Lib.hid h0
        clear hcell h0
        go_wp2_with fail
        go_quiet ((go_at_call 81; exact Calls.quiet_of_same ((l1In_any _ _ _ _).mono fun _ _ h => ⟨h.1, h.2.symm⟩)))
        go_wp2_with fail
        go_roundw
        case rel =>
          refine ⟨k + 1, by omega, by go_num, ?_, by (repeat' (first | exact Below.refl _ _ | with_reducible refine Below.setCell ?_ (by first | omega | (simp; done) | (simp; omega)) _ | with_reducible refine Below.alloc ?_ (by first | omega | (simp; done) | (simp; omega)) _ | with_reducible refine Below.drew ?_ | with_reducible refine bdrewN ?_ _ | with_reducible refine Below.trans ?_ (Below.mono hbr (by first | omega | (simp; done) | (simp; omega)))))⟩
          rw [all_take_succ (by rw [HL.out]; exact hlt), HX.out, hin, H0.out]
          simp [risesTo]
        case measure => simp [intOf]; omega
      obtain ⟨j, hj⟩ : ∃ j, k = j + 1 := ⟨k - 1, by omega⟩
      have hcj := hcell j (by omega)
      clear hcell
      obtain ⟨y, hy⟩ : ∃ y, xs.getD j 0 = y := ⟨_, rfl⟩
      rw [hy] at hcj
      have HY := Lib.hid hy; clear hy
      have hjI : IntKind.i64.wrap ((k : Int) - 1) = (j : Int) := by rw [wrap_in (by omega)]; omega
      have j0 : (0 : Int) ≤ (j : Int) := by omega
      have j1 : (j : Int) < (n : Int) := by omega
      have kp : decide (0 < k) = true := decide_eq_true (by omega)
      have HK := Lib.hid hj
      clear hj h0
      by_cases hle : x ≤ y
      · go_wp2_with fail
        go_quiet ((go_at_call 81; exact Calls.quiet_of_same ((l1In_any _ _ _ _).mono fun _ _ h => ⟨h.1, h.2.symm⟩)))
        go_wp2_with fail
        go_ret
        refine ⟨rb ?_, by (repeat' (first | exact Below.refl _ _ | with_reducible refine Below.setCell ?_ (by first | omega | (simp; done) | (simp; omega)) _ | with_reducible refine Below.alloc ?_ (by first | omega | (simp; done) | (simp; omega)) _ | with_reducible refine Below.drew ?_ | with_reducible refine bdrewN ?_ _ | with_reducible refine Below.trans ?_ (Below.mono hbr (by first | omega | (simp; done) | (simp; omega)))))⟩
        rw [rising_false (k := k) (j := j) (by rw [HL.out]; exact hlt) HK.out (by rw [HY.out, HX.out]; omega), Bool.false_and]
      · go_wp2_with fail
        go_quiet ((go_at_call 81; exact Calls.quiet_of_same ((l1In_any _ _ _ _).mono fun _ _ h => ⟨h.1, h.2.symm⟩)))
        go_wp2_with fail
        go_roundw
        case rel =>
          have hA := HA.out
          rw [Bool.and_eq_true] at hA
          refine ⟨k + 1, by omega, by go_num, ?_, by (repeat' (first | exact Below.refl _ _ | with_reducible refine Below.setCell ?_ (by first | omega | (simp; done) | (simp; omega)) _ | with_reducible refine Below.alloc ?_ (by first | omega | (simp; done) | (simp; omega)) _ | with_reducible refine Below.drew ?_ | with_reducible refine bdrewN ?_ _ | with_reducible refine Below.trans ?_ (Below.mono hbr (by first | omega | (simp; done) | (simp; omega)))))⟩
          rw [all_take_succ (by rw [HL.out]; exact hlt), HX.out, hin, hA.2, risesTo_succ HK.out hA.1 (by rw [HY.out, HX.out]; omega)]
          rfl
        case measure => simp [intOf]; omega
    · go_wp2
      go_ret
      obtain rfl : k = n := by omega
      refine ⟨rb ?_, hbr⟩
      have hA := HA.out
      rw [List.take_of_length_le (by rw [HL.out]; exact Nat.le_refl _)] at hA
      rw [risingB, HL.out, hA]

end Go.Proofs.YtojfbcgfeojdfaaGreat
