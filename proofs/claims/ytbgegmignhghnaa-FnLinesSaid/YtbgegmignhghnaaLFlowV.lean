/-
  The program's touches.
-/
import Derived.Test.YtbgegmignhghnaaLFlowJ
import Derived.Test.YtbgegmignhghnaaLFlowQ
import Derived.Test.YtbgegmignhghnaaLNearest
/-
  The program's touches.
-/
namespace Go.Proofs.Ytbgegmignhghnaa
set_option linter.unusedSimpArgs false
set_option linter.unusedVariables false
open Go.RowKit

theorem filt_fact {n : Nat} {xs ss fs : List Int} (hs : setB n ss = true) (hf : (ss.filter fun c => brn xs c.toNat) = fs) {k : Nat} (hk : k < fs.length) : ∃ m : Nat, fs.getD k 0 = m ∧ m < n := by
  subst hf
  have h1 := (List.mem_filter.1 (getD_mem hk)).1
  have h2 := (setB_iff.1 hs).2 _ h1
  exact ⟨_, (Int.toNat_of_nonneg h2.1).symm, by omega⟩
set_option maxRecDepth 100000 in
set_option maxHeartbeats 30000000 in
theorem touches_any (W Hn : Nat) (a : Option Addr) (n c : Nat) (xs : List Int) (a1 : Option Addr) (n1 c1 : Nat) (ss : List Int) (a2 : Option Addr) (n2 c2 : Nat) (ts : List Int) (w : World) (h : Ints w a n c xs) (h1 : Ints w a1 n1 c1 ss) (h2 : Ints w a2 n2 c2 ts) (hn25 : n ≤ 25) (hW : 1 ≤ W ∧ W ≤ 5) (hs : setB n ss = true) (ht : setB n ts = true) :
    Calls Try.prog 28 #[.agg #[.int .i64 W, .int .i64 Hn, .slice a n c], .slice a1 n1 c1, .slice a2 n2 c2] w (fun e w' => e = .returned (.bool (touchesB W xs ss ts)) ∧ Below w.heap.size w w') := by
  have hM := Mem.start w
  have hmf : ∀ (fn : Fn) (first cap : Array Value) (w : World), (Instr.makeFunc fn first cap).run Try.prog w = .ok (.func fn first cap) w := fun _ _ _ _ => rfl
  obtain ⟨fs, hfs⟩ : ∃ l, (ss.filter fun c => brn xs c.toNat) = l := ⟨_, rfl⟩
  obtain ⟨gs, hgs⟩ : ∃ l, (ts.filter fun c => brn xs c.toNat) = l := ⟨_, rfl⟩
  have HT := Lib.hid (show touchesB W xs ss ts = fs.any fun s => gs.any fun a => apI W s.toNat a.toNat == 1 by unfold touchesB; rw [hfs, hgs])
  have HMF := Lib.hid (fun k (hk : k < fs.length) => filt_fact hs hfs hk)
  have HMG := Lib.hid (fun k (hk : k < gs.length) => filt_fact ht hgs hk)
  have HMS := Lib.hid (show ∀ x ∈ ss, ∃ m : Nat, x = m ∧ m < n from fun x hx => by have := (setB_iff.1 hs).2 x hx; exact ⟨x.toNat, by omega, by omega⟩)
  have HMT := Lib.hid (show ∀ x ∈ ts, ∃ m : Nat, x = m ∧ m < n from fun x hx => by have := (setB_iff.1 ht).2 x hx; exact ⟨x.toNat, by omega, by omega⟩)
  have HFS := Lib.hid hfs; have HGS := Lib.hid hgs
  clear hs ht hfs hgs
  go_enter Try.func28, Try.ntmps28
  go_wp2_with fail
  apply Mem.atA
  · (repeat' (first | with_reducible exact hM | with_reducible exact hMp | with_reducible apply Mem.drew | with_reducible apply Mem.drewN | with_reducible apply Mem.alloc | with_reducible apply Mem.set | with_reducible exact Sto.row | ((with_reducible refine Sto.rowEq2 ?_ ?_); omega; rfl) | ((with_reducible refine Sto.rowEq ?_); omega) | with_reducible apply Sto.int | with_reducible apply Sto.there | with_reducible assumption | (unfold I64; omega) | (with_reducible (have hMx := Mem.undrew hM; exact hMx)) | (with_reducible (have hMx := Mem.undrew hMp; exact hMx))))
  clear hM
  intro wst hM
  (try simp only [World.size_alloc, World.size_setCell, World.heap_drewN, heapDrew, Nat.add_assoc, Nat.reduceAdd, List.setIfInBounds_toArray, List.set_cons_zero, List.set_cons_succ, List.cons_append, List.nil_append] at hM)
  (first | refine ((filterI_any _ _ _ (fun x => brn xs x.toNat) a1 n1 c1 ss _ (h1.ext hM.below) (enters Try.func46 (by kernel_rfl) rfl) (fun x hx w' hb => by
          obtain ⟨m, rfl, hm⟩ := HMS.out x hx
          exact burns_any _ _ a n c xs m _ ((h.ext hM.below).ext hb) hm))).mono ?_)
  rw [HFS.out]
  rintro e wc1 ⟨a4, n4, c4, rfl, hm⟩
  replace hM := hM.join hm
  clear hm
  (try simp only [World.size_alloc, World.size_setCell, World.heap_drewN, heapDrew, Nat.add_assoc, Nat.reduceAdd, List.setIfInBounds_toArray, List.set_cons_zero, List.set_cons_succ, List.cons_append, List.nil_append] at hM)
  have hl4 := (hM.ints .here).ints.len
  have hr4 := (hM.ints .here).ints.room
  have HL4 := Lib.hid hl4; clear hl4
  go_wp2_with fail
  go_loopw [16] (fun s16 wr => ∃ j : Nat, j ≤ n4 ∧ s16 = .int .i64 j ∧ Hid ((fs.take j).any (fun s => gs.any fun a => apI W s.toNat a.toNat == 1) = false) ∧ Mem w.heap.size w wr [intE a4 n4 c4 fs, rowE w.heap.size 26 #[.int .i64 W, .int .i64 Hn, .slice a n c]]) (fun s16 _ => n4 - (intOf s16).toNat)
  case atStart => exact ⟨0, Nat.zero_le _, rfl, Lib.hid (by simp), hM⟩
  case round =>
    clear hM
    obtain ⟨j, hj, rfl, HA, hM⟩ := hrel
    by_cases hlt : j < n4
    · have hjl : j < fs.length := by rw [HL4.out]; exact hlt
      have hts := any_take_succ (p := fun s => gs.any fun a => apI W s.toNat a.toNat == 1) hjl
      have htr := fun (e : (gs.any fun a => apI W (fs.getD j 0).toNat a.toNat == 1) = true) => (List.any_eq_true (p := fun s => gs.any fun a => apI W s.toNat a.toNat == 1)).2 ⟨_, getD_mem hjl, e⟩
      obtain ⟨d, hd, hdn⟩ := HMF.out j hjl
      obtain ⟨g, rfl, -⟩ := (hM.ints .here).head (by omega)
      have hce := (hM.ints .here).cellAt hlt
      have hlg := (hM.ints .here).till _ ⟨_, rfl, rfl⟩
      rw [hd] at hts htr hce
      rw [Int.toNat_natCast] at hts htr
      have HTS := Lib.hid hts; have HTR := Lib.hid htr
      clear hts htr hd hjl
      have i0 : (0 : Int) ≤ (j : Int) := by omega
      have i1 : (j : Int) < (n4 : Int) := by omega
      obtain ⟨k1, f1, l1⟩ := hM.row (.there .here)
      go_wp2_with fail
      clear k1 f1 l1
      apply Mem.atA
      · (repeat' (first | with_reducible exact hM | with_reducible exact hMp | with_reducible apply Mem.drew | with_reducible apply Mem.drewN | with_reducible apply Mem.alloc | with_reducible apply Mem.set | with_reducible exact Sto.row | ((with_reducible refine Sto.rowEq2 ?_ ?_); omega; rfl) | ((with_reducible refine Sto.rowEq ?_); omega) | with_reducible apply Sto.int | with_reducible apply Sto.there | with_reducible assumption | (unfold I64; omega) | (with_reducible (have hMx := Mem.undrew hM; exact hMx)) | (with_reducible (have hMx := Mem.undrew hMp; exact hMx))))
      clear hM
      intro wst hM
      (try simp only [World.size_alloc, World.size_setCell, World.heap_drewN, heapDrew, Nat.add_assoc, Nat.reduceAdd, List.setIfInBounds_toArray, List.set_cons_zero, List.set_cons_succ, List.cons_append, List.nil_append] at hM)
      (first | refine ((filterI_any _ _ _ (fun x => brn xs x.toNat) a2 n2 c2 ts _ (h2.ext hM.below) (enters Try.func46 (by kernel_rfl) rfl) (fun x hx w' hb => by
          obtain ⟨m, rfl, hm⟩ := HMT.out x hx
          exact burns_any _ _ a n c xs m _ ((h.ext hM.below).ext hb) hm))).mono ?_)
      rw [HGS.out]
      rintro e wc2 ⟨a5, n5, c5, rfl, hm⟩
      replace hM := hM.join hm
      clear hm
      (try simp only [World.size_alloc, World.size_setCell, World.heap_drewN, heapDrew, Nat.add_assoc, Nat.reduceAdd, List.setIfInBounds_toArray, List.set_cons_zero, List.set_cons_succ, List.cons_append, List.nil_append] at hM)
      clear hce hlg
      have hl5 := (hM.ints .here).ints.len
      have hr5 := (hM.ints .here).ints.room
      have HL5 := Lib.hid hl5; clear hl5
      go_wp2_with fail
      go_loopw [25] (fun s25 wq => ∃ i : Nat, i ≤ n5 ∧ s25 = .int .i64 i ∧ Hid ((gs.take i).any (fun a => apI W d a.toNat == 1) = false) ∧ Mem w.heap.size w wq [intE a5 n5 c5 gs, intE (some ⟨g, 0, none⟩) n4 c4 fs, rowE w.heap.size 26 #[.int .i64 W, .int .i64 Hn, .slice a n c]]) (fun s25 _ => n5 - (intOf s25).toNat)
      case atStart => exact ⟨0, Nat.zero_le _, rfl, Lib.hid (by simp), hM⟩
      case round =>
        clear hM
        obtain ⟨i, hi, rfl, HI, hM⟩ := hrel
        by_cases hlt5 : i < n5
        · have hil : i < gs.length := by rw [HL5.out]; exact hlt5
          have hts := any_take_succ (p := fun a => apI W d a.toNat == 1) hil
          have htr := fun (e : (apI W d (gs.getD i 0).toNat == 1) = true) => (List.any_eq_true (p := fun a => apI W d a.toNat == 1)).2 ⟨_, getD_mem hil, e⟩
          obtain ⟨y, hy, hyn⟩ := HMG.out i hil
          obtain ⟨g5, rfl, -⟩ := (hM.ints .here).head (by omega)
          have hce := (hM.ints .here).cellAt hlt5
          have hlg := (hM.ints .here).till _ ⟨_, rfl, rfl⟩
          rw [hy] at hts htr hce
          rw [Int.toNat_natCast] at hts htr
          obtain ⟨z, hz⟩ : ∃ z, apI W d y = z := ⟨_, rfl⟩
          rw [hz] at hts htr
          have HTS2 := Lib.hid hts; have HTR2 := Lib.hid htr; have HZ := Lib.hid hz
          clear hts htr hy hil hz
          have k0 : (0 : Int) ≤ (i : Int) := by omega
          have k1 : (i : Int) < (n5 : Int) := by omega
          obtain ⟨k2, f2, l2⟩ := hM.row (.there (.there .here))
          go_wp2_with fail
          clear k2 f2 l2
          apply Mem.atA
          · (repeat' (first | with_reducible exact hM | with_reducible exact hMp | with_reducible apply Mem.drew | with_reducible apply Mem.drewN | with_reducible apply Mem.alloc | with_reducible apply Mem.set | with_reducible exact Sto.row | ((with_reducible refine Sto.rowEq2 ?_ ?_); omega; rfl) | ((with_reducible refine Sto.rowEq ?_); omega) | with_reducible apply Sto.int | with_reducible apply Sto.there | with_reducible assumption | (unfold I64; omega) | (with_reducible (have hMx := Mem.undrew hM; exact hMx)) | (with_reducible (have hMx := Mem.undrew hMp; exact hMx))))
          clear hM
          intro wst hM
          (try simp only [World.size_alloc, World.size_setCell, World.heap_drewN, heapDrew, Nat.add_assoc, Nat.reduceAdd, List.setIfInBounds_toArray, List.set_cons_zero, List.set_cons_succ, List.cons_append, List.nil_append] at hM)
          clear hce hlg
          refine (apart_any W Hn _ d y _ hW (by omega) (by omega)).mono ?_
          rw [HZ.out]
          rintro e w3 ⟨rfl, hb⟩
          replace hM := hM.ext hb
          clear hb
          by_cases hz1 : z = 1
          · have hze : (z == 1) = true := by simpa using hz1
            have HR := Lib.hid (HTR.out (HTR2.out hze))
            clear hz1
            go_wp2
            go_ret
            exact ⟨rb (by rw [HT.out]; exact HR.out.symm), (by apply Mem.below; (repeat' (first | with_reducible exact hM | with_reducible exact hMp | with_reducible apply Mem.drew | with_reducible apply Mem.drewN | with_reducible apply Mem.alloc | with_reducible apply Mem.set | with_reducible exact Sto.row | ((with_reducible refine Sto.rowEq2 ?_ ?_); omega; rfl) | ((with_reducible refine Sto.rowEq ?_); omega) | with_reducible apply Sto.int | with_reducible apply Sto.there | with_reducible assumption | (unfold I64; omega) | (with_reducible (have hMx := Mem.undrew hM; exact hMx)) | (with_reducible (have hMx := Mem.undrew hMp; exact hMx)))))⟩
          · have hze : (z == 1) = false := by simpa using hz1
            have HZE := Lib.hid hze
            clear hz1
            go_wp2
            go_roundw
            case rel => exact ⟨i + 1, by omega, by go_num, Lib.hid (by rw [HTS2.out, HI.out, HZE.out]; rfl), hM⟩
            case measure => simp [intOf]; omega
        · obtain rfl : i = n5 := by omega
          have hall := HI.out
          rw [List.take_of_length_le (by rw [HL5.out]; exact Nat.le_refl _)] at hall
          have HAL := Lib.hid hall; clear hall
          go_wp2
          go_roundw
          case rel => exact ⟨j + 1, by omega, by go_num, Lib.hid (by rw [HTS.out, HA.out, HAL.out]; rfl), hM.tail⟩
          case measure => simp [intOf]; omega
    · obtain rfl : j = n4 := by omega
      have hany := HA.out
      rw [List.take_of_length_le (by rw [HL4.out]; exact Nat.le_refl _)] at hany
      have HB := Lib.hid hany; clear hany
      go_wp2
      go_ret
      exact ⟨rb (by rw [HT.out, HB.out]), (by apply Mem.below; (repeat' (first | with_reducible exact hM | with_reducible exact hMp | with_reducible apply Mem.drew | with_reducible apply Mem.drewN | with_reducible apply Mem.alloc | with_reducible apply Mem.set | with_reducible exact Sto.row | ((with_reducible refine Sto.rowEq2 ?_ ?_); omega; rfl) | ((with_reducible refine Sto.rowEq ?_); omega) | with_reducible apply Sto.int | with_reducible apply Sto.there | with_reducible assumption | (unfold I64; omega) | (with_reducible (have hMx := Mem.undrew hM; exact hMx)) | (with_reducible (have hMx := Mem.undrew hMp; exact hMx)))))⟩
end Go.Proofs.Ytbgegmignhghnaa
