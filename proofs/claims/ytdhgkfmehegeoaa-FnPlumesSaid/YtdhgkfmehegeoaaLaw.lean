import Derived.Test.YtdhgkfmehegeoaaLst
namespace Go.Proofs.Ytdhgkfmehegeoaa
set_option linter.unusedSimpArgs false
set_option linter.unusedVariables false
open Go.RowKit

set_option maxRecDepth 100000 in
set_option maxHeartbeats 400000 in
theorem eqIntS_any (a : Option Addr) (n c : Nat) (xs : List Int) (a2 : Option Addr) (n2 c2 : Nat) (ys : List Int) (w : World) (h : Ints w a n c xs) (h2 : Ints w a2 n2 c2 ys) :
    Calls Try.prog 41 #[.slice a n c, .slice a2 n2 c2] w fun e w' => e = .returned (.bool (xs == ys)) ∧ Below w.heap.size w w' := by
  have hn := h.cap
  have hc := h.room
  have HL := Lib.hid h.len
  have HL2 := Lib.hid h2.len
  by_cases hne : n = n2
  · subst hne
    go_enter Try.func41, Try.ntmps41
    go_wp2
    go_loopw [5] (fun i wr => ∃ k : Nat, k ≤ n ∧ i = .int .i64 k ∧ xs.take k = ys.take k ∧ Below w.heap.size w wr) (fun i _ => n - (intOf i).toNat)
    case atStart => exact ⟨0, Nat.zero_le _, rfl, by simp, Below.refl _ _⟩
    case round =>
      obtain ⟨k, hk, rfl, hall, hbr⟩ := hrel
      have HA := Lib.hid hall; clear hall
      by_cases hlt : k < n
      · obtain ⟨b, off, rfl, hb, hcell⟩ := (h.below hbr).at' _ hlt
        obtain ⟨b2, off2, rfl, hb2, hcell2⟩ := (h2.below hbr).at' _ hlt
        have hck := hcell k hlt
        have hck2 := hcell2 k hlt
        clear hcell hcell2
        obtain ⟨x, hx⟩ : ∃ x, xs.getD k 0 = x := ⟨_, rfl⟩
        obtain ⟨y, hy⟩ : ∃ y, ys.getD k 0 = y := ⟨_, rfl⟩
        rw [hx] at hck
        rw [hy] at hck2
        have HX := Lib.hid hx; clear hx
        have HY := Lib.hid hy; clear hy
        by_cases he : x = y
        · subst he
          go_wp2
          go_quiet (fail)
          go_wp2
          go_roundw
          case rel => exact ⟨k + 1, by omega, by go_num, by rw [take_succ' (by rw [HL.out]; exact hlt), take_succ' (by rw [HL2.out]; exact hlt), HA.out, HX.out, HY.out], bdrewN hbr _⟩
          case measure => simp [intOf]; omega
        · go_wp2
          go_quiet (fail)
          go_wp2
          go_ret
          refine ⟨rb ?_, bdrewN hbr _⟩
          symm
          rw [beq_eq_false_iff_ne]
          rintro rfl
          exact he (HX.out.symm.trans HY.out)
      · go_wp2
        go_ret
        obtain rfl : k = n := by omega
        refine ⟨rb ?_, hbr⟩
        symm
        rw [beq_iff_eq, ← List.take_of_length_le (show xs.length ≤ k by rw [HL.out]; exact Nat.le_refl _), HA.out, List.take_of_length_le (by rw [HL2.out]; exact Nat.le_refl _)]
  · have hne' : ((n : Int) != n2) = true := by simp; omega
    go_enter Try.func41, Try.ntmps41
    go_wp2
    go_ret
    refine ⟨rb ?_, Below.refl _ _⟩
    symm
    rw [beq_eq_false_iff_ne]
    rintro rfl
    exact hne (HL.out.symm.trans HL2.out)

set_option maxRecDepth 100000 in
set_option maxHeartbeats 400000 in
theorem heldIntS_any (a : Option Addr) (n c : Nat) (xs : List Int) (q : Int) (w : World) (h : Ints w a n c xs) (hq : 0 ≤ q ∧ q ≤ 1152921504606846976) :
    Calls Try.prog 45 #[.slice a n c, .int .i64 q] w fun e w' => e = .returned (.int .i64 (heldF xs q n)) ∧ w = w' := by
  have hn := h.cap
  have hc := h.room
  go_enter Try.func45, Try.ntmps45
  go_wp2
  go_loop [1, 5] (fun v i => ∃ k : Nat, k ≤ n ∧ i = .int .i64 k ∧ v = .int .i64 (q + k) ∧ ∀ i, i < k → xs.getD i 0 = q + i) (fun _ i => n - (intOf i).toNat)
  case atStart => exact ⟨0, Nat.zero_le _, rfl, by simp, by intro i hi; omega⟩
  case round =>
    obtain ⟨k, hk, rfl, rfl, hall⟩ := hrel
    have HA := Lib.hid hall; clear hall
    by_cases hlt : k < n
    · obtain ⟨b, off, rfl, hb, hcell⟩ := h.at' _ hlt
      have hck := hcell k hlt
      clear hcell
      obtain ⟨x, hx⟩ : ∃ x, xs.getD k 0 = x := ⟨_, rfl⟩
      rw [hx] at hck
      have HX := Lib.hid hx; clear hx
      by_cases he : x = q + k
      · subst he
        go_wp2
        go_round
        case rel => exact ⟨k + 1, by omega, by go_num, by go_num, by
          intro i hi
          by_cases hik : i = k
          · subst hik; exact HX.out
          · exact HA.out i (by omega)⟩
        case measure => simp [intOf]; omega
      · go_wp2
        go_ret
        have h0 := HX.out
        refine ⟨ri ?_, rfl⟩
        unfold heldF
        rw [if_neg (fun hh => he (by rw [← h0]; exact hh k hlt))]
    · go_wp2
      go_ret
      obtain rfl : k = n := by omega
      refine ⟨ri ?_, rfl⟩
      unfold heldF
      rw [if_pos HA.out]

set_option maxRecDepth 100000 in
set_option maxHeartbeats 400000 in
theorem markIntS_any (B : Nat) (a : Option Addr) (n c : Nat) (xs : List Int) (q : Int) (w : World) (h : Own B w a n c xs) (hq : 0 ≤ q ∧ q ≤ 1152921504606846976) :
    Calls Try.prog 44 #[.slice a n c, .int .i64 q] w fun e w' => e = .returned (.int .i64 (q + n)) ∧ Own B w' a n c (fromI q n) ∧ Keeps (blockOf a) w w' := by
  have hn := h.ints.cap
  have hc := h.room
  have HL := Lib.hid h.len
  go_enter Try.func44, Try.ntmps44
  go_wp2
  go_loopw [1, 5] (fun v i wr => ∃ k : Nat, k ≤ n ∧ i = .int .i64 k ∧ v = .int .i64 (q + k) ∧ Own B wr a n c (fromI q k ++ xs.drop k) ∧ Keeps (blockOf a) w wr) (fun _ i _ => n - (intOf i).toNat)
  case atStart => exact ⟨0, Nat.zero_le _, rfl, by simp, by simpa [fromI] using h, Keeps.refl _ _⟩
  case round =>
    obtain ⟨k, hk, rfl, rfl, hO, hbr⟩ := hrel
    by_cases hlt : k < n
    · obtain ⟨g, rfl, _, _, hd, hfz⟩ := hO.head (by omega)
      have hdk := hd k hlt
      have hfk := hfz k
      clear hd hfz
      obtain ⟨y, hy⟩ : ∃ y, (fromI q k ++ xs.drop k).getD k 0 = y := ⟨_, rfl⟩
      rw [hy] at hdk
      clear hy
      go_wp2
      go_roundw
      case rel => exact ⟨k + 1, by omega, by go_num, by go_num, by
        have := hO.set k (q + k) (by unfold I64; omega)
        rw [set_fromI (by rw [HL.out]; exact hlt)] at this
        exact this, hbr.setCell ⟨g, k, none⟩ ⟨_, rfl, rfl⟩ _⟩
      case measure => simp [intOf]; omega
    · go_wp2
      go_ret
      obtain rfl : k = n := by omega
      rw [List.drop_of_length_le (by rw [HL.out]; exact Nat.le_refl _), List.append_nil] at hO
      exact ⟨rfl, hO, hbr⟩

end Go.Proofs.Ytdhgkfmehegeoaa
