/-
  Slacks: the pure part.
-/
import Derived.Test.YtojfbcgfeojdfaaGreatCRd
import Derived.Test.YtojfbcgfeojdfaaGreatCSpeed
import Derived.Test.YtojfbcgfeojdfaaGreatCSpeedW
import Derived.Test.YtojfbcgfeojdfaaGreatCFlCut
import Derived.Test.YtojfbcgfeojdfaaGreatCNear2
import Derived.Test.YtojfbcgfeojdfaaGreatCArrP
/-
  A make of ints as a step of a region that draws its order.
-/
namespace Go.Proofs.YtojfbcgfeojdfaaGreat
set_option linter.unusedSimpArgs false
set_option linter.unusedVariables false
open Go.RowKit

theorem wp_makeI {P : Program} {w : World} {o : Oper} {a : Act} {K : Act → World → Prop} {Q : Exit → Act → World → Prop} {B : Nat} {w0 : World} {G : List Ent} (hM : Mem B w0 w G) (d : Option Tmp) (hd : o.dst = d) (l c : Operand) (t : TypeId) (hop : o.op = Op.makeSlice t l c)
    (i : TypeInfo) (h1 : P.underlying t = some (.slice 3)) (h2 : P.info? 3 = some i) (hz0 : i.zero = some (.int .i64 0)) (hz1 : i.size = 1) (hz2 : i.bytes = 8) (n : Nat) (hl : a.eval l = .int .i64 n) (hc : a.eval c = .int .i64 n) (hn : n ≤ 17592186044416)
    (hK : ∀ b w', Mem B w0 w' (intE (some ⟨b, 0, none⟩) n n (List.replicate n 0) :: G) → K (a.put d (.slice (some ⟨b, 0, none⟩) n n)) w') : Oper.wp P o a w K Q := by
  subst hd
  obtain ⟨w', hrun, r1, r2⟩ := run_make_full (P := P) w w.heap.size t 3 i (.int .i64 0) 1 h1 h2 hz0 hz1 .i64 .i64 n (by rw [hz2]; omega) (by unfold maxLen; omega) (Nat.le_refl _)
  unfold Oper.wp
  simp [execOp, hop, hl, hc, hrun, Result.andThen]
  exact hK _ _ (hM.own ((Below.refl _ _).grown r2 (Nat.le_refl _) (by intro k hk; cases hk)) (own_made (by rw [Nat.mul_one] at r1; exact r1) (by omega)))
end Go.Proofs.YtojfbcgfeojdfaaGreat

/-
  Phases: the pure part.
-/
namespace Go.Proofs.YtojfbcgfeojdfaaGreat
set_option linter.unusedSimpArgs false
set_option linter.unusedVariables false
open Go.RowKit

def phTo (l : List PhaseI) (k : Nat) : Bool := (List.range k).all (phOK l)
theorem phTo_succ (l : List PhaseI) (k : Nat) : phTo l (k + 1) = (phTo l k && phOK l k) := by
  simp [phTo, List.range_succ]
theorem phases_to {l : List PhaseI} : phasesB l = (phTo l l.length && inB l.length 1 6) := rfl
theorem phases_bad {l : List PhaseI} {k : Nat} (hk : k < l.length) (h : phOK l k = false) : phasesB l = false := by
  cases hp : phasesB l
  · rfl
  · have := (phasesB_true hp).1 k hk
    rw [h] at this
    exact this.symm
theorem phases_len {l : List PhaseI} (h : inB l.length 1 6 = false) : phasesB l = false := by
  rw [phases_to, h, Bool.and_false]
theorem phases_zero {l : List PhaseI} (hl : inB l.length 1 6 = true) (h : (l.getD 0 PhaseI.zero).fr ≠ 0) : phasesB l = false := by
  have := inB_true hl
  refine phases_bad (k := 0) (by omega) ?_
  have h0 : decide ((l.getD 0 PhaseI.zero).fr = 0) = false := by simpa using h
  rw [phOK, if_pos rfl, h0, Bool.and_false]

theorem phTick_any (d : Int) (w : World) : Calls Tryz.prog 41 #[.int .i64 d] w fun e w' => e = .returned (.bool (inB d 0 9999)) ∧ w = w' := by
  go_enter Tryz.func41, Tryz.ntmps41
  go_wp2_with (go_at_call 71; refine (in_any _ _ _ _).mono ?_; rintro e w' ⟨rfl, rfl⟩)
  go_ret
  exact ⟨rfl, rfl⟩
theorem phTickS_any (d : Int) (w : World) : Calls Tryz.prog 83 #[.int .i64 d] w fun e w' => e = .returned (.bool (inB d 0 9999)) ∧ w = w' := by
  go_enter Tryz.func83, Tryz.ntmps83
  go_wp2_with (go_at_call 81; refine (l1In_any _ _ _ _).mono ?_; rintro e w' ⟨rfl, rfl⟩)
  go_ret
  exact ⟨rfl, rfl⟩

end Go.Proofs.YtojfbcgfeojdfaaGreat

/-
  Cuts: what both tests find.
-/
namespace Go.Proofs.YtojfbcgfeojdfaaGreat
set_option linter.unusedSimpArgs false
set_option linter.unusedVariables false
open Go.RowKit

def cutOK (xs : List Int) (l : List CutI) (k : Nat) : Bool :=
  inB (l.getD k CutI.zero).cell 0 ((xs.length : Int) - 1) && inB (l.getD k CutI.zero).tick 0 9999 && !(xs.getD (l.getD k CutI.zero).cell.toNat 0 == 0) && (if k = 0 then true else decide ((l.getD (k - 1) CutI.zero).cell < (l.getD k CutI.zero).cell))
def cutTo (xs : List Int) (l : List CutI) (k : Nat) : Bool := (List.range k).all (cutOK xs l)
def cutsB (W H : Int) (xs : List Int) (l : List CutI) : Bool := goodB 20 W H xs && cutTo xs l l.length && decide (l.length ≤ 8)
theorem cutTo_succ (xs : List Int) (l : List CutI) (k : Nat) : cutTo xs l (k + 1) = (cutTo xs l k && cutOK xs l k) := by
  simp [cutTo, List.range_succ]
theorem cuts_bad {W H : Int} {xs : List Int} {l : List CutI} {k : Nat} (hk : k < l.length) (h : cutOK xs l k = false) : cutsB W H xs l = false := by
  have : cutTo xs l l.length = false := by
    cases hp : cutTo xs l l.length
    · rfl
    · rw [cutTo, List.all_eq_true] at hp
      have := hp k (List.mem_range.2 hk)
      rw [h] at this
      exact this.symm
  rw [cutsB, this, Bool.and_false, Bool.false_and]

end Go.Proofs.YtojfbcgfeojdfaaGreat

/-
  Slacks: the pure part.
-/
namespace Go.Proofs.YtojfbcgfeojdfaaGreat
set_option linter.unusedSimpArgs false
set_option linter.unusedVariables false
open Go.RowKit

theorem least_nat {P : Nat → Prop} (h : ∃ n, P n) : ∃ n, P n ∧ ∀ m, P m → n ≤ m := by
  obtain ⟨n, hn⟩ := h
  induction n using Nat.strongRecOn with
  | ind n ih =>
    by_cases hq : ∃ m, m < n ∧ P m
    · obtain ⟨m, hm, hp⟩ := hq
      exact ih m hm hp
    · exact ⟨n, hn, fun m hm => Nat.le_of_not_lt (fun hlt => hq ⟨m, hlt, hm⟩)⟩
section
variable {W n : Nat} {xs ss : List Int} {l : List PhaseI} {start : Int}
theorem arr_pos (hst : 0 ≤ start) {c : Nat} {t : Int} (h : Arr n (nearN W) (brn xs) (fun c => hasI ss c) start (donI W xs l) c t) : 0 ≤ t :=
  Arr.least (T := fun _ t => 0 ≤ t) (fun _ _ _ _ => hst) (fun d c t ht _ _ _ => Int.le_trans ht (donI_ge d c t)) h
theorem arr_lt {c : Nat} {t : Int} (h : Arr n (nearN W) (brn xs) (fun c => hasI ss c) start (donI W xs l) c t) : c < n :=
  Arr.least (T := fun c _ => c < n) (fun _ h _ _ => h) (fun _ _ _ _ h _ _ => h) h
theorem arrT_is (hst : 0 ≤ start) : IsTI W n xs ss l start (arrT W n xs ss l start) := by
  classical
  have hex : ∀ c, ∃ v : Int, (c < n → v = -1 ∨ (0 ≤ v ∧ Arr n (nearN W) (brn xs) (fun c => hasI ss c) start (donI W xs l) c v)) ∧ ∀ t, Arr n (nearN W) (brn xs) (fun c => hasI ss c) start (donI W xs l) c t → v ≠ -1 ∧ v ≤ t := by
    intro c
    by_cases h : ∃ t : Nat, Arr n (nearN W) (brn xs) (fun c => hasI ss c) start (donI W xs l) c (t : Int)
    · obtain ⟨m, hm, hl⟩ := least_nat h
      refine ⟨m, fun _ => .inr ⟨by omega, hm⟩, fun t ht => ?_⟩
      obtain ⟨q, rfl⟩ := Int.eq_ofNat_of_zero_le (arr_pos hst ht)
      have := hl q ht
      exact ⟨by omega, by omega⟩
    · refine ⟨-1, fun _ => .inl rfl, fun t ht => ?_⟩
      obtain ⟨q, rfl⟩ := Int.eq_ofNat_of_zero_le (arr_pos hst ht)
      exact absurd ⟨q, ht⟩ h
  obtain ⟨f, hf⟩ := Classical.axiomOfChoice hex
  have hg : ∀ c, c < n → ((List.range n).map f).getD c 0 = f c := fun c hc => by simp [List.getD, hc]
  have hi : IsTI W n xs ss l start ((List.range n).map f) := by
    refine ⟨by simp, fun c hc => ?_, fun c t h => ?_⟩
    · rw [hg c hc]
      exact (hf c).1 hc
    · rw [hg c (arr_lt h)]
      exact (hf c).2 t h
  exact @Classical.epsilon_spec _ (IsTI W n xs ss l start) ⟨_, hi⟩
theorem arrT_len (hst : 0 ≤ start) : (arrT W n xs ss l start).length = n := (arrT_is hst).len
theorem arrT_ge (hst : 0 ≤ start) {c : Nat} (hc : c < n) : -1 ≤ (arrT W n xs ss l start).getD c 0 := by
  rcases (arrT_is (W := W) (xs := xs) (ss := ss) (l := l) hst).is c hc with h | h
  · omega
  · omega
end

/-- the slack of a cut -/
def slk (ts : List Int) (c : CutI) : Int := if ts.getD c.cell.toNat 0 = -1 then 9999 else ts.getD c.cell.toNat 0 - c.tick
theorem slk_take {ts : List Int} {l : List CutI} {k : Nat} (hk : k < l.length) : (l.map (slk ts)).take (k + 1) = (l.map (slk ts)).take k ++ [slk ts (l.getD k CutI.zero)] := by
  rw [← List.map_take, ← List.map_take, take_succV (z := CutI.zero) hk, List.map_append]
  rfl

end Go.Proofs.YtojfbcgfeojdfaaGreat
