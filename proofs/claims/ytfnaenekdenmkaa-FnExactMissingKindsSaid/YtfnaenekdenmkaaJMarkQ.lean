/-
  What a law writes over orders.
-/
import Derived.Test.YtfnaenekdenmkaaJMarkO
/-
  What a law writes over orders.
-/
namespace Go.Proofs.Ytfnaenekdenmkaa
set_option linter.unusedSimpArgs false
set_option linter.unusedVariables false
open Go.RowKit

def fromO (q m : Nat) : List OrderI := (List.range m).map fun i => ⟨((q + 5 * i : Nat) : Int), mkT (q + 5 * i + 1), ((q + 5 * i + 2 : Nat) : Int), ((q + 5 * i + 3 : Nat) : Int), ((q + 5 * i + 4 : Nat) : Int)⟩
theorem fromO_length (q m : Nat) : (fromO q m).length = m := by simp [fromO]
theorem set_getO {xs : List OrderI} {k : Nat} (hk : k < xs.length) (y : OrderI) : (xs.set k y).getD k OrderI.zero = y := by
  rw [List.getD_eq_getElem?_getD, List.getElem?_set_self hk]
  rfl

set_option maxRecDepth 100000 in
set_option maxHeartbeats 4000000 in
theorem markOrderS_any (B : Nat) (w0 : World) (G : List Ent) (a : Option Addr) (n c : Nat) (xs : List OrderI) (q : Nat) (w : World) (hM : Mem B w0 w (owE FOrder 48 a n c xs :: G)) (hq : 0 < q) (hq2 : q + 5 * n ≤ 900000000) :
    Calls Try.prog 17 #[.slice a n c, .int .i64 q] w fun e w' => e = .returned (.int .i64 ((q + 5 * n : Nat) : Int)) ∧ Mem B w0 w' (owE FOrder 48 a n c (fromO q n) :: G) := by
  have HL := Lib.hid ((hM.ow .here).len)
  go_enter Try.func17, Try.ntmps17
  go_wp2
  go_loopw [1, 5] (fun v i wr => ∃ k : Nat, k ≤ n ∧ i = .int .i64 k ∧ v = .int .i64 ((q + 5 * k : Nat) : Int) ∧ Mem B w0 wr (owE FOrder 48 a n c (fromO q k ++ xs.drop k) :: G)) (fun _ i _ => n - (intOf i).toNat)
  case atStart => exact ⟨0, Nat.zero_le _, rfl, rfl, by simpa [fromO] using hM⟩
  case round =>
    clear hM
    obtain ⟨k, hk, rfl, rfl, hM⟩ := hrel
    by_cases hlt : k < n
    · obtain ⟨g, rfl, -⟩ := (hM.ow .here).head (by omega)
      have hlen : (fromO q k ++ xs.drop k).length = n := by rw [List.length_append, fromO_length, List.length_drop, HL.out]; omega
      obtain ⟨ys, hys⟩ : ∃ ys, fromO q k ++ xs.drop k = ys := ⟨_, rfl⟩
      rw [hys] at hlen hM
      have HYS := Lib.hid hys; clear hys
      have hwf := (hM.ow .here).rd.wf _ (getD_memO (d := OrderI.zero) (xs := ys) (k := k) (by omega))
      obtain ⟨y, hy⟩ : ∃ y, ys.getD k OrderI.zero = y := ⟨_, rfl⟩
      rw [hy] at hwf
      have HY := Lib.hid hy; have HWF := Lib.hid hwf; have HYL := Lib.hid hlen
      clear hy hwf hlen
      obtain ⟨yi, yk, yc, yu, yt⟩ := y
      have hfz := (hM.ow .here).free
      have hd := (hM.ow .here).cellOrder hlt
      rw [HY.out] at hd
      obtain ⟨hd0, hd1, hd2, hd3, hd4⟩ := hd
      dsimp only at hd0 hd1 hd2 hd3 hd4
      obtain ⟨p, hp⟩ : ∃ p, p = q + 5 * k := ⟨_, rfl⟩
      rw [← hp]
      have i0 : (0 : Int) ≤ (k : Int) := by omega
      have i1 : (k : Int) < (n : Int) := by omega
      have hw1 : IntKind.i64.wrap ((p : Int) + 1) = ((p + 1 : Nat) : Int) := by rw [wrap_in (by omega)]; omega
      have hw2 : IntKind.i64.wrap (((p + 1 : Nat) : Int) + 1) = ((p + 2 : Nat) : Int) := by rw [wrap_in (by omega)]; omega
      have hw3 : IntKind.i64.wrap (((p + 2 : Nat) : Int) + 1) = ((p + 3 : Nat) : Int) := by rw [wrap_in (by omega)]; omega
      have hw4 : IntKind.i64.wrap (((p + 3 : Nat) : Int) + 1) = ((p + 4 : Nat) : Int) := by rw [wrap_in (by omega)]; omega
      have hw5 : IntKind.i64.wrap (((p + 4 : Nat) : Int) + 1) = ((p + 5 : Nat) : Int) := by rw [wrap_in (by omega)]; omega
      have HM1 := Lib.hid (fun w => markText_any (p + 1) w (by omega) (by omega))
      have HSL := Lib.hid (mkT_len (k := p + 1) (by omega))
      have HP0 := Lib.hid (show I64 (p : Int) by unfold I64; omega)
      have HP2 := Lib.hid (show I64 ((p + 2 : Nat) : Int) by unfold I64; omega)
      have HP3 := Lib.hid (show I64 ((p + 3 : Nat) : Int) by unfold I64; omega)
      have HP4 := Lib.hid (show I64 ((p + 4 : Nat) : Int) by unfold I64; omega)
      have HP5 := Lib.hid (show ((p + 5 : Nat) : Int) = ((q + 5 * (k + 1) : Nat) : Int) by omega)
      have HF := Lib.hid (show fromO q (k + 1) = fromO q k ++ [⟨(p : Int), mkT (p + 1), ((p + 2 : Nat) : Int), ((p + 3 : Nat) : Int), ((p + 4 : Nat) : Int)⟩] by rw [hp]; simp [fromO, List.range_succ])
      clear hp
      generalize mkT (p + 1) = s at HM1 HF HSL
      generalize p + 1 = p1 at hw1 hw2 HM1
      generalize p + 2 = p2 at hw2 hw3 HF HP2
      generalize p + 3 = p3 at hw3 hw4 HF HP3
      generalize p + 4 = p4 at hw4 hw5 HF HP4
      generalize p + 5 = p5 at hw5 HP5
      go_wp2_with fail
      replace hM := hM.setOrder0 hlt (p : Int) HP0.out ⟨yi, yk, yc, yu, yt⟩ HY.out HWF.out .here
      apply Mem.atA hM
      clear hM hd0 hd1 hd2 hd3 hd4 hfz
      intro w5 hM
      refine (HM1.out _).mono ?_
      rintro e w6 ⟨rfl, hb⟩
      replace hM := hM.ext hb
      clear hb
      have hg0 : (ys.set k ⟨(p : Int), yk, yc, yu, yt⟩).getD k OrderI.zero = ⟨(p : Int), yk, yc, yu, yt⟩ := set_getO (by rw [HYL.out]; exact hlt) _
      dsimp only at hM
      have hfz := (hM.ow .here).free
      have hd := (hM.ow .here).cellOrder hlt
      rw [hg0] at hd
      obtain ⟨hd0, hd1, hd2, hd3, hd4⟩ := hd
      dsimp only at hd0 hd1 hd2 hd3 hd4
      have hl : ∀ y, (ys.set k y).length = n := fun y => by rw [List.length_set]; exact HYL.out
      have w0' : FOrder.wf (⟨(p : Int), yk, yc, yu, yt⟩ : OrderI) := ⟨HP0.out, HWF.out.2⟩
      have w1' : FOrder.wf (⟨(p : Int), s, yc, yu, yt⟩ : OrderI) := ⟨HP0.out, HSL.out, HWF.out.2.2⟩
      have w2' : FOrder.wf (⟨(p : Int), s, (p2 : Int), yu, yt⟩ : OrderI) := ⟨HP0.out, HSL.out, HP2.out, HWF.out.2.2.2⟩
      have w3' : FOrder.wf (⟨(p : Int), s, (p2 : Int), (p3 : Int), yt⟩ : OrderI) := ⟨HP0.out, HSL.out, HP2.out, HP3.out, HWF.out.2.2.2.2⟩
      have hM2 := hM.setOrder1 hlt s HSL.out ⟨(p : Int), yk, yc, yu, yt⟩ hg0 w0' .here
      rw [List.set_set] at hM2
      have hM3 := hM2.setOrder2 hlt (p2 : Int) HP2.out ⟨(p : Int), s, yc, yu, yt⟩ (set_getO (by rw [HYL.out]; exact hlt) _) w1' .here
      rw [List.set_set] at hM3
      have hM4 := hM3.setOrder3 hlt (p3 : Int) HP3.out ⟨(p : Int), s, (p2 : Int), yu, yt⟩ (set_getO (by rw [HYL.out]; exact hlt) _) w2' .here
      rw [List.set_set] at hM4
      have hM5 := hM4.setOrder4 hlt (p4 : Int) HP4.out ⟨(p : Int), s, (p2 : Int), (p3 : Int), yt⟩ (set_getO (by rw [HYL.out]; exact hlt) _) w3' .here
      have HM3 := Lib.hid hM5
      rw [List.set_set, ← HYS.out, set_fromV (fromO q k) (fromO_length q k) (by rw [HL.out]; exact hlt), ← HF.out] at HM3
      clear hM hM2 hM3 hM4 hM5 w0' w1' w2' w3' hl hg0
      go_wp2
      go_roundw
      case rel => exact ⟨k + 1, by omega, by go_num, by rw [HP5.out], HM3.out⟩
      case measure => simp [intOf]; omega
    · obtain rfl : k = n := by omega
      rw [List.drop_of_length_le (by rw [HL.out]; exact Nat.le_refl _), List.append_nil] at hM
      go_wp2
      go_ret
      exact ⟨rfl, by (repeat' (first | with_reducible exact hM | with_reducible exact hMp | with_reducible apply Mem.drew | with_reducible apply Mem.drewN | with_reducible apply Mem.alloc | with_reducible apply Mem.set | with_reducible exact Sto.row | ((with_reducible refine Sto.rowEq2 ?_ ?_); omega; rfl) | ((with_reducible refine Sto.rowEq ?_); omega) | with_reducible apply Sto.int | with_reducible apply Sto.there | with_reducible assumption | (unfold I64; omega) | (with_reducible (have hMx := Mem.undrew hM; exact hMx)) | (with_reducible (have hMx := Mem.undrew hMp; exact hMx))))⟩

end Go.Proofs.Ytfnaenekdenmkaa
