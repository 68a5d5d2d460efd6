/-
  Small functions of the laws over numbers: same lists, members, sums.
-/
import Derived.Test.YtjnbdgldpmmamaaGreatUBefI
import Derived.Test.YtjnbdgldpmmamaaGreatUQueue
import Derived.Deep.DeepCutAuto
import Derived.Deep.CutBlock
import Derived.Test.YtjnbdgldpmmamaaGreatRows
import Derived.Test.YtjnbdgldpmmamaaGreatUVoc
import Derived.ProofKit
import Derived.OpenShut
import Derived.SizedLaws
import Derived.Lib.SmallJoins
import Derived.Test.YtjnbdgldpmmamaaGreatULst
import Derived.Test.YtjnbdgldpmmamaaGreatURd
/-
  LatestNotes: both sides.
-/
namespace Go.Proofs.YtjnbdgldpmmamaaGreat
set_option linter.unusedSimpArgs false
set_option linter.unusedVariables false
open Go.RowKit

/-- in a valid notebook places of two notes lie within the clock of the other -/
theorem book_place {u : Int} {xs : List NoteI} {w : World} {a : Option Addr} {n c : Nat} (hb : bookB u (coreN xs) = true) (h : RdN w a n c xs) {i j : Nat} (hi : i < n) (hj : j < n) : 0 ≤ (xs.getD i NoteI.zero).un ∧ (xs.getD i NoteI.zero).un < ((xs.getD j NoteI.zero).n : Int) := by
  have h1 := book_note hb (k := i) (by rw [coreN_len, h.rd.len]; exact hi)
  have h2 := book_note hb (k := j) (by rw [coreN_len, h.rd.len]; exact hj)
  rw [coreN_getD] at h1 h2
  exact note_place h1 h2 (h.get hj)
end Go.Proofs.YtjnbdgldpmmamaaGreat

/-
  From a walk to the given statement: what is alike at every law.
-/
namespace Go.Proofs.YtjnbdgldpmmamaaGreat
set_option linter.unusedSimpArgs false
set_option linter.unusedVariables false
open Go.ChangeShapes Go.WideShapes Go.ChangeAt Go.RowKit Go.Joins

theorem Tryz.own : ownKnob Tryz.prog.godebug = none := by kernel_rfl
theorem Tryz.laidOut : laidOutB Tryz.prog = true := by kernel_rfl
theorem trodAll_below {H : Type} {enc : TypeId × Value → H} {W W' : World} (hb : Below W.heap.size W W') : ∀ {ts : List TypeId} {vs : List Value} {ds : List (DataW H)} {ps : List MemPlace},
    (∀ t ∈ ts, Tryz.prog.readableRec t = true ∧ t < Tryz.prog.types.size) → (∀ x ∈ ps, x.block < W.heap.size) →
    DataW.TrodAll enc Tryz.prog W 0 (fun _ => true) true ts vs ds ps → DataW.TrodAll enc Tryz.prog W' 0 (fun b => decide (b < W.heap.size)) true ts vs ds ps
  | [], _, _, _, _, _, h => by
    obtain ⟨rfl, rfl, rfl⟩ := trodAll_nil h
    exact trodAll_mk0
  | t :: ts, _, _, _, hr, hp, h => by
    obtain ⟨v, vs', d, ds', p, q, rfl, rfl, rfl, h1, h2⟩ := trodAll_cons h
    have ht := hr t (by simp)
    exact trodAll_cons_mk (Below.trod Tryz.laidOut ht.1 ht.2 h1 hb (fun x hx => hp x (by simp [hx]))) (trodAll_below hb (fun t' h' => hr t' (by simp [h'])) (fun x hx => hp x (by simp [hx])) h2)

/-- the law returned true and all that was there is as it was: that is the row's post -/
theorem post_law {H : Type} {enc : TypeId × Value → H} {f : Func} {s : ChangeSpec} {W W' : World} {args : Array Value} {ds gs : List (DataW H)} {before : List MemPlace}
    (hW : DataW.Whole enc Tryz.prog f.params.toList s.vars false W args.toList ds gs before) (hv : s.vars = []) (hres : f.resultTypes = #[4])
    (hs : s.fn H ds = { results := [.lit (.bool true)], args := ds }) (hr : ∀ t ∈ f.params.toList, Tryz.prog.readableRec t = true ∧ t < Tryz.prog.types.size)
    (hb : Below W.heap.size W W') : s.post enc Tryz.prog f false true false false W args (.bool true) W' := by
  have hlt : ∀ p ∈ before, p.block < W.heap.size := fun p hp => by simpa using hW.lt p hp
  have hW' := hW
  obtain ⟨p, q, hA, hV, rfl, _, _⟩ := hW
  rw [hv] at hV
  obtain ⟨rfl, rfl⟩ := trodVars_none hV
  have hs' : s.fn H (ds ++ []) = { results := [.lit (.bool true)], args := ds } := by rw [List.append_nil]; exact hs
  refine ⟨ds, [], p ++ [], [], p, [], hW', ?_, ?_, ?_, hb.frame _, fun h => by cases h⟩
  · rw [hs', hres]
    exact trodAll_mk1 (shut_bool Tryz.underlying4 true)
  · rw [hs']
    exact trodAll_below hb hr (fun x hx => hlt x (by simp [hx])) hA
  · rw [hs', hv]
    rfl

end Go.Proofs.YtjnbdgldpmmamaaGreat

/-
  Small functions of the laws over numbers: same lists, members, sums.
-/
namespace Go.Proofs.YtjnbdgldpmmamaaGreat
set_option linter.unusedSimpArgs false
set_option linter.unusedVariables false
open Go.RowKit

set_option maxRecDepth 100000 in
set_option maxHeartbeats 1000000 in
theorem vInts_any (a : Option Addr) (n c : Nat) (xs : List Int) (a2 : Option Addr) (n2 c2 : Nat) (ys : List Int) (w : World) (h : Ints w a n c xs) (h2 : Ints w a2 n2 c2 ys) :
    Calls Tryz.prog 8 #[.slice a n c, .slice a2 n2 c2] w fun e w' => e = .returned (.bool (xs == ys)) ∧ Below w.heap.size w w' := by
  have hn := h.cap
  have hc := h.room
  have HL := Lib.hid h.len
  have HL2 := Lib.hid h2.len
  by_cases hne : n = n2
  · subst hne
    go_enter Tryz.func8, Tryz.ntmps8
    go_wp2
    go_loopw [5] (fun i wr => ∃ k : Nat, k ≤ n ∧ i = .int .i64 k ∧ xs.take k = ys.take k ∧ Below w.heap.size w wr) (fun i _ => n - (intOf i).toNat)
    case atStart => exact ⟨0, Nat.zero_le _, rfl, by simp, Below.refl _ _⟩
    case round =>
      obtain ⟨k, hk, rfl, hall, hbr⟩ := hrel
      have HA := Lib.hid hall; clear hall
      by_cases hlt : k < n
      · obtain ⟨b, off, rfl, hb, hcell⟩ := (h.below hbr).at' _ hlt
        obtain ⟨b2, off2, rfl, hb2, hcell2⟩ := (h2.below hbr).at' _ hlt
        have hck := hcell k hlt
        have hck2 := hcell2 k hlt
        clear hcell hcell2
        obtain ⟨x, hx⟩ : ∃ x, xs.getD k 0 = x := ⟨_, rfl⟩
        obtain ⟨y, hy⟩ : ∃ y, ys.getD k 0 = y := ⟨_, rfl⟩
        rw [hx] at hck
        rw [hy] at hck2
        have HX := Lib.hid hx; clear hx
        have HY := Lib.hid hy; clear hy
        by_cases he : x = y
        · subst he
          go_wp2
          go_quiet (fail)
          go_wp2
          go_roundw
          case rel => exact ⟨k + 1, by omega, by go_num, by rw [take_succ' (by rw [HL.out]; exact hlt), take_succ' (by rw [HL2.out]; exact hlt), HA.out, HX.out, HY.out], bdrewN hbr _⟩
          case measure => simp [intOf]; omega
        · go_wp2
          go_quiet (fail)
          go_wp2
          go_ret
          refine ⟨rb ?_, bdrewN hbr _⟩
          symm
          rw [beq_eq_false_iff_ne]
          rintro rfl
          exact he (HX.out.symm.trans HY.out)
      · go_wp2
        go_ret
        obtain rfl : k = n := by omega
        refine ⟨rb ?_, hbr⟩
        symm
        rw [beq_iff_eq, ← List.take_of_length_le (show xs.length ≤ k by rw [HL.out]; exact Nat.le_refl _), HA.out, List.take_of_length_le (by rw [HL2.out]; exact Nat.le_refl _)]
  · have hne' : ((n : Int) != n2) = true := by simp; omega
    go_enter Tryz.func8, Tryz.ntmps8
    go_wp2
    go_ret
    refine ⟨rb ?_, Below.refl _ _⟩
    symm
    rw [beq_eq_false_iff_ne]
    rintro rfl
    exact hne (HL.out.symm.trans HL2.out)
theorem vInts_same (a : Option Addr) (n c : Nat) (xs : List Int) (a2 : Option Addr) (n2 c2 : Nat) (w : World) (h : Ints w a n c xs) (h2 : Ints w a2 n2 c2 xs) :
    Calls Tryz.prog 8 #[.slice a n c, .slice a2 n2 c2] w fun e w' => e = .returned (.bool true) ∧ Below w.heap.size w w' := by
  have := vInts_any a n c xs a2 n2 c2 xs w h h2
  rw [beq_self_eq_true] at this
  exact this
end Go.Proofs.YtjnbdgldpmmamaaGreat
