/-
  The cells of cuts.
-/
import Derived.Test.YtojfbcgfeojdfaaGreatCSlk
import Derived.Test.YtojfbcgfeojdfaaGreatCLinesS
/-
  The cells of cuts.
-/
namespace Go.Proofs.YtojfbcgfeojdfaaGreat
set_option linter.unusedSimpArgs false
set_option linter.unusedVariables false
open Go.RowKit

theorem getD_memV {α : Type} {xs : List α} {z : α} {k : Nat} (hk : k < xs.length) : xs.getD k z ∈ xs := by
  rw [List.getD_eq_getElem?_getD, List.getElem?_eq_getElem hk]
  exact List.getElem_mem _
theorem cells_take {l : List CutI} {k : Nat} (hk : k < l.length) : (l.map (fun c => c.cell)).take (k + 1) = (l.map (fun c => c.cell)).take k ++ [(l.getD k CutI.zero).cell] := by
  rw [← List.map_take, ← List.map_take, take_succV (z := CutI.zero) hk, List.map_append]
  rfl

set_option maxRecDepth 100000 in
set_option maxHeartbeats 1000000 in
set_option maxRecDepth 100000 in
set_option maxHeartbeats 30000000 in
theorem cellsOf_any (a1 : Option Addr) (n1 c1 : Nat) (cu : List CutI) (w : World) (h1 : Rd FCut w a1 n1 c1 cu) (hw : ∀ x ∈ cu, FCut.wf x) :
    Calls Tryz.prog 78 #[.slice a1 n1 c1] w (fun e w' => ∃ a' m' c', e = .returned (.slice a' m' c') ∧ Mem w.heap.size w w' [intE a' m' c' (cu.map (fun c => c.cell))]) := by
  have hM := Mem.start w
  have hrm := h1.nroom
  have HL := Lib.hid h1.len
  have HW := Lib.hid hw; clear hw
  go_enter Tryz.func78, Tryz.ntmps78
  go_wp2_with fail
  apply Mem.atWp
  · (repeat' (first | with_reducible exact hM | with_reducible exact hMp | with_reducible apply Mem.drew | with_reducible apply Mem.drewN | with_reducible apply Mem.alloc | with_reducible apply Mem.set | with_reducible exact Sto.row | ((with_reducible refine Sto.rowEq2 ?_ ?_); omega; rfl) | ((with_reducible refine Sto.rowEq ?_); omega) | with_reducible apply Sto.int | with_reducible apply Sto.there | with_reducible assumption | (unfold I64; omega) | (with_reducible (have hMx := Mem.undrew hM; exact hMx)) | (with_reducible (have hMx := Mem.undrew hMp; exact hMx))))
  clear hM
  intro hM
  (try simp only [World.size_alloc, World.size_setCell, World.heap_drewN, heapDrew, Nat.add_assoc, Nat.reduceAdd, List.setIfInBounds_toArray, List.set_cons_zero, List.set_cons_succ, List.cons_append, List.nil_append] at hM)
  go_loopw [3, 9] (fun s3 s9 wr => ∃ (k : Nat) (a' : Option Addr) (m c' : Nat), k ≤ n1 ∧ s9 = .int .i64 k ∧ s3 = .slice a' m c' ∧ Mem w.heap.size w wr [intE a' m c' ((cu.map (fun c => c.cell)).take k)]) (fun _ s9 _ => n1 - (intOf s9).toNat)
  case atStart =>
    refine ⟨0, _, 0, _, Nat.zero_le _, rfl, rfl, ?_⟩
    rw [List.take_zero]
    exact hM.toInts0
  case round =>
    clear hM
    obtain ⟨k, a', m, c', hk, rfl, rfl, hM⟩ := hrel
    by_cases hlt : k < n1
    · obtain ⟨bl, offl, rfl, -, -⟩ := h1.at' _ hlt
      obtain ⟨-, hc0, hc1⟩ := (h1.ext hM.below).cellCut hlt
      have hts := cells_take (l := cu) (k := k) (by rw [HL.out]; exact hlt)
      have hxw := (HW.out _ (getD_memV (z := CutI.zero) (by rw [HL.out]; exact hlt))).1
      obtain ⟨v, hv⟩ : ∃ v, cu.getD k CutI.zero = v := ⟨_, rfl⟩
      rw [hv] at hc0 hc1 hts hxw
      have HTS := Lib.hid hts
      have HXW := Lib.hid hxw
      have hm5 := (hM.ints .here).len
      have hfl : ((cu.map (fun c => c.cell)).take k).length ≤ k := List.length_take_le _ _
      have hm5b : m ≤ k := by omega
      obtain ⟨vf, vs⟩ := v
      dsimp only at hc0 hc1
      clear hts hxw hv hm5 hfl
      have i0 : (0 : Int) ≤ (k : Int) := by omega
      have i1 : (k : Int) < (n1 : Int) := by omega
      go_wp2_with (at_builtin; apply Mem.atL; (focus ((repeat' (first | with_reducible exact hM | with_reducible exact hMp | with_reducible apply Mem.drew | with_reducible apply Mem.drewN | with_reducible apply Mem.alloc | with_reducible apply Mem.set | with_reducible exact Sto.row | ((with_reducible refine Sto.rowEq2 ?_ ?_); omega; rfl) | ((with_reducible refine Sto.rowEq ?_); omega) | with_reducible apply Sto.int | with_reducible apply Sto.there | with_reducible assumption | (unfold I64; omega) | (with_reducible (have hMx := Mem.undrew hM; exact hMx)) | (with_reducible (have hMx := Mem.undrew hMp; exact hMx)))); done)); clear hM; intro hM; (try simp only [World.size_alloc, World.size_setCell, World.heap_drewN, heapDrew, Nat.add_assoc, Nat.reduceAdd, List.setIfInBounds_toArray, List.set_cons_zero, List.set_cons_succ, List.cons_append, List.nil_append] at hM); refine wpList_pushI hM (fun _ => by (first | exact .here | exact .there .here)) HXW.out (by omega) rfl _ _ _ Tryz.underlying24 rfl rfl rfl ?_)
      intro a6 c6 w6 hM
      go_wp2
      go_roundw
      case rel =>
        refine ⟨k + 1, a6, m + 1, c6, by omega, by go_num, rfl, ?_⟩
        rw [HTS.out]
        first
          | exact hM
          | exact hM.pick (is := [1]) (by decide) rfl
      case measure => simp [intOf]; omega
    · obtain rfl : k = n1 := by omega
      rw [List.take_of_length_le (by rw [List.length_map, HL.out]; exact Nat.le_refl _)] at hM
      go_wp2
      go_ret
      exact ⟨a', m, c', rfl, hM⟩
set_option maxRecDepth 100000 in
set_option maxHeartbeats 1000000 in
set_option maxRecDepth 100000 in
set_option maxHeartbeats 30000000 in
theorem l25Cells_any (a1 : Option Addr) (n1 c1 : Nat) (cu : List CutI) (w : World) (h1 : Rd FCut w a1 n1 c1 cu) (hw : ∀ x ∈ cu, FCut.wf x) :
    Calls Tryz.prog 87 #[.slice a1 n1 c1] w (fun e w' => ∃ a' m' c', e = .returned (.slice a' m' c') ∧ Mem w.heap.size w w' [intE a' m' c' (cu.map (fun c => c.cell))]) := by
  have hM := Mem.start w
  have hrm := h1.nroom
  have HL := Lib.hid h1.len
  have HW := Lib.hid hw; clear hw
  go_enter Tryz.func87, Tryz.ntmps87
  go_wp2_with fail
  apply Mem.atWp
  · (repeat' (first | with_reducible exact hM | with_reducible exact hMp | with_reducible apply Mem.drew | with_reducible apply Mem.drewN | with_reducible apply Mem.alloc | with_reducible apply Mem.set | with_reducible exact Sto.row | ((with_reducible refine Sto.rowEq2 ?_ ?_); omega; rfl) | ((with_reducible refine Sto.rowEq ?_); omega) | with_reducible apply Sto.int | with_reducible apply Sto.there | with_reducible assumption | (unfold I64; omega) | (with_reducible (have hMx := Mem.undrew hM; exact hMx)) | (with_reducible (have hMx := Mem.undrew hMp; exact hMx))))
  clear hM
  intro hM
  (try simp only [World.size_alloc, World.size_setCell, World.heap_drewN, heapDrew, Nat.add_assoc, Nat.reduceAdd, List.setIfInBounds_toArray, List.set_cons_zero, List.set_cons_succ, List.cons_append, List.nil_append] at hM)
  go_loopw [3, 4] (fun s3 s9 wr => ∃ (k : Nat) (a' : Option Addr) (m c' : Nat), k ≤ n1 ∧ s9 = .int .i64 k ∧ s3 = .slice a' m c' ∧ Mem w.heap.size w wr [intE a' m c' ((cu.map (fun c => c.cell)).take k)]) (fun _ s9 _ => n1 - (intOf s9).toNat)
  case atStart =>
    refine ⟨0, _, 0, _, Nat.zero_le _, rfl, rfl, ?_⟩
    rw [List.take_zero]
    exact hM.toInts0
  case round =>
    clear hM
    obtain ⟨k, a', m, c', hk, rfl, rfl, hM⟩ := hrel
    by_cases hlt : k < n1
    · obtain ⟨bl, offl, rfl, -, -⟩ := h1.at' _ hlt
      obtain ⟨-, hc0, hc1⟩ := (h1.ext hM.below).cellCut hlt
      have hts := cells_take (l := cu) (k := k) (by rw [HL.out]; exact hlt)
      have hxw := (HW.out _ (getD_memV (z := CutI.zero) (by rw [HL.out]; exact hlt))).1
      obtain ⟨v, hv⟩ : ∃ v, cu.getD k CutI.zero = v := ⟨_, rfl⟩
      rw [hv] at hc0 hc1 hts hxw
      have HTS := Lib.hid hts
      have HXW := Lib.hid hxw
      have hm5 := (hM.ints .here).len
      have hfl : ((cu.map (fun c => c.cell)).take k).length ≤ k := List.length_take_le _ _
      have hm5b : m ≤ k := by omega
      obtain ⟨vf, vs⟩ := v
      dsimp only at hc0 hc1
      clear hts hxw hv hm5 hfl
      have i0 : (0 : Int) ≤ (k : Int) := by omega
      have i1 : (k : Int) < (n1 : Int) := by omega
      go_wp2_with (at_builtin; apply Mem.atL; (focus ((repeat' (first | with_reducible exact hM | with_reducible exact hMp | with_reducible apply Mem.drew | with_reducible apply Mem.drewN | with_reducible apply Mem.alloc | with_reducible apply Mem.set | with_reducible exact Sto.row | ((with_reducible refine Sto.rowEq2 ?_ ?_); omega; rfl) | ((with_reducible refine Sto.rowEq ?_); omega) | with_reducible apply Sto.int | with_reducible apply Sto.there | with_reducible assumption | (unfold I64; omega) | (with_reducible (have hMx := Mem.undrew hM; exact hMx)) | (with_reducible (have hMx := Mem.undrew hMp; exact hMx)))); done)); clear hM; intro hM; (try simp only [World.size_alloc, World.size_setCell, World.heap_drewN, heapDrew, Nat.add_assoc, Nat.reduceAdd, List.setIfInBounds_toArray, List.set_cons_zero, List.set_cons_succ, List.cons_append, List.nil_append] at hM); refine wpList_pushI hM (fun _ => by (first | exact .here | exact .there .here)) HXW.out (by omega) rfl _ _ _ Tryz.underlying24 rfl rfl rfl ?_)
      intro a6 c6 w6 hM
      go_wp2
      go_roundw
      case rel =>
        refine ⟨k + 1, a6, m + 1, c6, by omega, by go_num, rfl, ?_⟩
        rw [HTS.out]
        first
          | exact hM
          | exact hM.pick (is := [1]) (by decide) rfl
      case measure => simp [intOf]; omega
    · obtain rfl : k = n1 := by omega
      rw [List.take_of_length_le (by rw [List.length_map, HL.out]; exact Nat.le_refl _)] at hM
      go_wp2
      go_ret
      exact ⟨a', m, c', rfl, hM⟩

end Go.Proofs.YtojfbcgfeojdfaaGreat
