/- Lemmas. -/
import Derived.Test.YtpflnmejbialjaaGreatDoorVLst
namespace Go.Proofs.YtpflnmejbialjaaGreatDoor
set_option linter.unusedSimpArgs false
set_option linter.unusedVariables false
open Go.RowKit

set_option maxHeartbeats 400000 in
theorem szIntS_any (a : Option Addr) (n c : Nat) (l : Int) (w : World) (hc : n ≤ 17592186044416) (hl : -1 ≤ l ∧ l ≤ 1048576) :
    Calls Tryz.prog 11 #[.slice a n c, .int .i64 l] w fun e w' => e = .returned (.int .i64 (szF n l)) ∧ w = w' := by
  by_cases h : l - n < 0
  all_goals
    go_enter Tryz.func11, Tryz.ntmps11
    go_wp2
    go_ret
    exact ⟨ri (by unfold szF; first | rw [if_pos (by omega)] | rw [if_neg (by omega)]), rfl⟩

set_option maxRecDepth 100000 in
set_option maxHeartbeats 400000 in
theorem eqIntS_any (a : Option Addr) (n c : Nat) (xs : List Int) (a2 : Option Addr) (n2 c2 : Nat) (ys : List Int) (w : World) (h : Ints w a n c xs) (h2 : Ints w a2 n2 c2 ys) :
    Calls Tryz.prog 27 #[.slice a n c, .slice a2 n2 c2] w fun e w' => e = .returned (.bool (xs == ys)) ∧ Below w.heap.size w w' := by
  have hn := h.cap
  have hc := h.room
  have HL := Lib.hid h.len
  have HL2 := Lib.hid h2.len
  by_cases hne : n = n2
  · subst hne
    go_enter Tryz.func27, Tryz.ntmps27
    go_wp2
    go_loopw [5] (fun i wr => ∃ k : Nat, k ≤ n ∧ i = .int .i64 k ∧ xs.take k = ys.take k ∧ Below w.heap.size w wr) (fun i _ => n - (intOf i).toNat)
    case atStart => exact ⟨0, Nat.zero_le _, rfl, by simp, Below.refl _ _⟩
    case round =>
      obtain ⟨k, hk, rfl, hall, hbr⟩ := hrel
      have HA := Lib.hid hall; clear hall
      by_cases hlt : k < n
      · obtain ⟨b, off, rfl, hb, hcell⟩ := (h.below hbr).at' _ hlt
        obtain ⟨b2, off2, rfl, hb2, hcell2⟩ := (h2.below hbr).at' _ hlt
        have hck := hcell k hlt
        have hck2 := hcell2 k hlt
        clear hcell hcell2
        obtain ⟨x, hx⟩ : ∃ x, xs.getD k 0 = x := ⟨_, rfl⟩
        obtain ⟨y, hy⟩ : ∃ y, ys.getD k 0 = y := ⟨_, rfl⟩
        rw [hx] at hck
        rw [hy] at hck2
        have HX := Lib.hid hx; clear hx
        have HY := Lib.hid hy; clear hy
        by_cases he : x = y
        · subst he
          go_wp2
          go_quiet (fail)
          go_wp2
          go_roundw
          case rel => exact ⟨k + 1, by omega, by go_num, by rw [take_succ' (by rw [HL.out]; exact hlt), take_succ' (by rw [HL2.out]; exact hlt), HA.out, HX.out, HY.out], bdrewN hbr _⟩
          case measure => simp [intOf]; omega
        · go_wp2
          go_quiet (fail)
          go_wp2
          go_ret
          refine ⟨rb ?_, bdrewN hbr _⟩
          symm
          rw [beq_eq_false_iff_ne]
          rintro rfl
          exact he (HX.out.symm.trans HY.out)
      · go_wp2
        go_ret
        obtain rfl : k = n := by omega
        refine ⟨rb ?_, hbr⟩
        symm
        rw [beq_iff_eq, ← List.take_of_length_le (show xs.length ≤ k by rw [HL.out]; exact Nat.le_refl _), HA.out, List.take_of_length_le (by rw [HL2.out]; exact Nat.le_refl _)]
  · have hne' : ((n : Int) != n2) = true := by simp; omega
    go_enter Tryz.func27, Tryz.ntmps27
    go_wp2
    go_ret
    refine ⟨rb ?_, Below.refl _ _⟩
    symm
    rw [beq_eq_false_iff_ne]
    rintro rfl
    exact hne (HL.out.symm.trans HL2.out)

set_option maxRecDepth 100000 in
set_option maxHeartbeats 400000 in
theorem toIntS_any (a : Option Addr) (n c : Nat) (xs : List Int) (w : World) (h : Ints w a n c xs) :
    Calls Tryz.prog 18 #[.slice a n c] w fun e w' => ∃ a' c', e = .returned (.slice a' n c') ∧ Own w.heap.size w' a' n c' xs ∧ Below w.heap.size w w' := by
  have hn := h.cap
  have hc := h.room
  have HL := Lib.hid h.len
  have HW := Lib.hid h.wf
  obtain ⟨i0, hi, hz0, hz1, hz2⟩ := info_parts Tryz.info3
  go_enter Tryz.func18, Tryz.ntmps18
  go_wp2_with (at_make; refine wpList_make_full _ rfl _ _ 22 rfl w.heap.size 3 i0 (.int .i64 0) 1 Tryz.underlying22 hi hz0 hz1 .i64 .i64 n n n rfl rfl rfl rfl ?b1 ?b2 ?b3 ?_)
  case b1 => rw [hz2]; omega
  case b2 => unfold maxLen; omega
  case b3 => exact Nat.le_refl _
  intro w1 hown hg
  have hO := own_made hown hc
  have hb1 : Below w.heap.size w w1 := (Below.refl _ _).grown hg (Nat.le_refl _) (by intro k hk; cases hk)
  clear hown hg
  go_wp2
  go_loopw [4] (fun i wr => ∃ k : Nat, k ≤ n ∧ i = .int .i64 k ∧ Own w.heap.size wr (some ⟨w.heap.size, 0, none⟩) n n (xs.take k ++ List.replicate (n - k) 0) ∧ Below w.heap.size w wr) (fun i _ => n - (intOf i).toNat)
  case atStart => exact ⟨0, Nat.zero_le _, rfl, by simpa using hO, hb1⟩
  case round =>
    obtain ⟨k, hk, rfl, hO, hbr⟩ := hrel
    by_cases hlt : k < n
    · obtain ⟨b, off, rfl, hb, hcell⟩ := (h.below hbr).at' _ hlt
      have hck := hcell k hlt
      clear hcell
      obtain ⟨g, hg, _, _, hd, hfz⟩ := hO.head (by omega)
      obtain rfl : w.heap.size = g := by simpa using hg
      have hdk := hd k hlt
      have hfk := hfz k
      clear hd hfz hg
      have hmem : I64 (xs.getD k 0) := HW.out _ (getD_mem (by rw [HL.out]; exact hlt))
      have HM := Lib.hid hmem; clear hmem
      obtain ⟨x, hx⟩ : ∃ x, xs.getD k 0 = x := ⟨_, rfl⟩
      rw [hx] at hck HM
      obtain ⟨y, hy⟩ : ∃ y, (xs.take k ++ List.replicate (n - k) 0).getD k 0 = y := ⟨_, rfl⟩
      rw [hy] at hdk
      clear hy
      have HX := Lib.hid hx; clear hx
      go_wp2
      go_roundw
      case rel => exact ⟨k + 1, by omega, by go_num, by
        have := hO.set k x HM.out
        rw [set_take_rep (by rw [HL.out]; exact hlt) hlt HX.out] at this
        exact this, hbr.setCell (Nat.le_refl _) _⟩
      case measure => simp [intOf]; omega
    · go_wp2
      go_ret
      obtain rfl : k = n := by omega
      rw [List.take_of_length_le (by rw [HL.out]; exact Nat.le_refl _), Nat.sub_self, List.replicate_zero, List.append_nil] at hO
      exact ⟨_, _, rfl, hO, hbr⟩

end Go.Proofs.YtpflnmejbialjaaGreatDoor
