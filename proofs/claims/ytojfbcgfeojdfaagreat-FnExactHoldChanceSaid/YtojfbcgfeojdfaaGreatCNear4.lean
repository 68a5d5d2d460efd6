/- Lemmas. -/
import Derived.Test.YtojfbcgfeojdfaaGreatCNear3
namespace Go.Proofs.YtojfbcgfeojdfaaGreat
set_option linter.unusedSimpArgs false
set_option linter.unusedVariables false
open Go.RowKit

/-- what a function value answers on the numbers of a list -/
def AnsL (f : FuncId) (fi caps : Array Value) (p : Int → Bool) (xs : List Int) (w : World) : Prop :=
  ∀ x ∈ xs, ∀ w', Below w.heap.size w w' → Calls Tryz.prog f (fi ++ #[.int .i64 x] ++ caps) w' fun e w'' => e = .returned (.bool (p x)) ∧ Below w'.heap.size w' w''

set_option maxRecDepth 100000 in
set_option maxHeartbeats 1000000 in
theorem filterI_any (f : FuncId) (fi caps : Array Value) (p : Int → Bool) (a : Option Addr) (n c : Nat) (xs : List Int) (w : World) (h : Ints w a n c xs) (hcf : ∀ args w, (callFunc f args).run Tryz.prog w = .ok (.enter f args) w) (hf : AnsL f fi caps p xs w) :
    Calls Tryz.prog 93 #[.slice a n c, .func (.func f) fi caps] w fun e w' => ∃ a' m c', e = .returned (.slice a' m c') ∧ Mem w.heap.size w w' [intE a' m c' (xs.filter p)] := by
  have HF := Lib.hid hf
  clear hf
  have hM := Mem.start w
  have hn := h.cap
  have hc := h.room
  have HL := Lib.hid h.len
  go_enter Tryz.func93, Tryz.ntmps93
  go_wp2_with fail
  go_loopw [5, 11] (fun s i wr => ∃ (k : Nat) (a' : Option Addr) (m c' : Nat), k ≤ n ∧ i = .int .i64 k ∧ s = .slice a' m c' ∧ Mem w.heap.size w wr [intE a' m c' ((xs.take k).filter p)]) (fun _ i _ => n - (intOf i).toNat)
  case atStart =>
    refine ⟨0, _, 0, _, Nat.zero_le _, rfl, rfl, ?_⟩
    exact hM.empty
  case round =>
    clear hM
    obtain ⟨k, a', m, c', hk, rfl, rfl, hM⟩ := hrel
    by_cases hlt : k < n
    · obtain ⟨b, off, rfl, _⟩ := h.at' _ hlt
      have hck := (h.ext hM.below).get hlt
      have hm := (hM.ints .here).len
      have hl : ((xs.take k).filter p).length ≤ k := Nat.le_trans (List.length_filter_le _ _) (List.length_take_le _ _)
      have hkl : k < xs.length := by rw [HL.out]; exact hlt
      have hsu := take_succ' hkl
      have hmem := getD_mem hkl
      have hix := h.wf _ hmem
      obtain ⟨x, hx⟩ : ∃ x, xs.getD k 0 = x := ⟨_, rfl⟩
      rw [hx] at hck hsu hmem hix
      clear hkl hx
      obtain ⟨ys, hys⟩ : ∃ ys, (xs.take k).filter p = ys := ⟨_, rfl⟩
      have hs2 : (xs.take (k + 1)).filter p = ys ++ if p x then [x] else [] := by
        rw [hsu, List.filter_append, hys]
        cases hp : p x <;> simp [hp]
      rw [hys] at hM hl hm
      have HY := Lib.hid hs2; clear hys hsu hs2
      have hmk : m ≤ k := by omega
      have HL2 := Lib.hid hm; clear hm hl
      have HIX := Lib.hid hix; clear hix
      go_wp2_with fail
      apply Mem.at
      · (repeat' (first | with_reducible exact hM | with_reducible exact hMp | with_reducible apply Mem.drew | with_reducible apply Mem.drewN | with_reducible apply Mem.alloc | with_reducible apply Mem.set | with_reducible exact Sto.row | ((with_reducible refine Sto.rowEq2 ?_ ?_); omega; rfl) | ((with_reducible refine Sto.rowEq ?_); omega) | with_reducible apply Sto.int | with_reducible apply Sto.there | with_reducible assumption | (unfold I64; omega) | (with_reducible (have hMx := Mem.undrew hM; exact hMx)) | (with_reducible (have hMx := Mem.undrew hMp; exact hMx))))
      clear hM
      intro hM
      (try simp only [World.size_alloc, World.size_setCell, World.heap_drewN, heapDrew, Nat.add_assoc, Nat.reduceAdd, List.setIfInBounds_toArray, List.set_cons_zero, List.set_cons_succ, List.cons_append, List.nil_append] at hM)
      refine (HF.out x hmem _ hM.below).mono ?_
      rintro e w1 ⟨rfl, hb⟩
      replace hM := hM.ext hb
      clear hb hck
      cases hp : p x
      · go_wp2
        go_roundw
        case rel =>
          refine ⟨k + 1, a', m, c', by omega, by go_num, rfl, ?_⟩
          rw [HY.out, hp]
          simpa using hM
        case measure => simp [intOf]; omega
      · go_wp2_with (at_builtin; apply Mem.atL; (focus ((repeat' (first | with_reducible exact hM | with_reducible exact hMp | with_reducible apply Mem.drew | with_reducible apply Mem.drewN | with_reducible apply Mem.alloc | with_reducible apply Mem.set | with_reducible exact Sto.row | ((with_reducible refine Sto.rowEq2 ?_ ?_); omega; rfl) | ((with_reducible refine Sto.rowEq ?_); omega) | with_reducible apply Sto.int | with_reducible apply Sto.there | with_reducible assumption | (unfold I64; omega) | (with_reducible (have hMx := Mem.undrew hM; exact hMx)) | (with_reducible (have hMx := Mem.undrew hMp; exact hMx)))); done)); clear hM; intro hM; refine wpList_pushI hM (fun _ => .here) HIX.out (by omega) rfl _ _ _ Tryz.underlying24 rfl rfl rfl ?_)
        intro a2 c2 w2 hM
        go_wp2
        go_roundw
        case rel =>
          refine ⟨k + 1, a2, m + 1, c2, by omega, by go_num, rfl, ?_⟩
          rw [HY.out, hp]
          exact hM
        case measure => simp [intOf]; omega
    · obtain rfl : k = n := by omega
      rw [List.take_of_length_le (by rw [HL.out]; exact Nat.le_refl _)] at hM
      go_wp2
      go_ret
      exact ⟨a', m, c', rfl, hM⟩

set_option maxRecDepth 100000 in
set_option maxHeartbeats 400000 in
theorem neighbors1_any (W : Nat) (H : Int) (s : Value) (k b1 b2 d : Nat) (w : World) (hW : 1 ≤ W ∧ W ≤ 5) (hk : k ≤ 1000) (hd : d ≤ 1000) (h1 : Row w b1 #[.int .i64 W, .int .i64 H, s]) (h2 : Row w b2 #[.int .i64 d]) :
    Calls Tryz.prog 131 #[.int .i64 k, .pointer (some ⟨b1, 0, none⟩), .pointer (some ⟨b2, 0, none⟩)] w fun e w' => e = .returned (.bool (nearN W k d)) ∧ Below w.heap.size w w' := by
  have hA := (apI_bound (W := W) hk hd)
  obtain ⟨r, hr⟩ : ∃ r, apI W k d = r := ⟨_, rfl⟩
  have HF := Lib.hid (show nearN W k d = (r == 1) by unfold nearN; rw [hr])
  have HR := Lib.hid hr
  clear hr hA
  have k1 := h1.cell
  have k2 := h2.cell
  go_enter Tryz.func131, Tryz.ntmps131
  go_wp2_with fail
  refine (apart_any W H s k d _ hW hk hd).mono ?_
  rw [HR.out]
  rintro e w1 ⟨rfl, hb⟩
  go_wp2
  go_ret
  exact ⟨rb HF.out.symm, hb⟩

set_option maxRecDepth 100000 in
set_option maxHeartbeats 400000 in
theorem neighbors_any (W : Nat) (H : Int) (a : Option Addr) (n c : Nat) (xs : List Int) (d : Nat) (w : World) (h : Ints w a n c xs) (hn25 : n ≤ 25) (hW : 1 ≤ W ∧ W ≤ 5) (hd : d ≤ 1000) :
    Calls Tryz.prog 94 #[.agg #[.int .i64 W, .int .i64 H, .slice a n c], .int .i64 d] w fun e w' => ∃ a' m c', e = .returned (.slice a' m c') ∧ Mem w.heap.size w w' [intE a' m c' (cellsN n (nearN W d))] := by
  have hmf : ∀ (fn : Fn) (first cap : Array Value) (w : World), (Instr.makeFunc fn first cap).run Tryz.prog w = .ok (.func fn first cap) w := fun _ _ _ _ => rfl
  have hM := Mem.start w
  have HC := Lib.hid (cellsN_congr (n := n) (p := fun k => nearN W k d) (q := nearN W d) (fun k _ => nearN_symm W k d))
  go_enter Tryz.func94, Tryz.ntmps94
  go_wp2_with fail
  apply Mem.at
  · (repeat' (first | with_reducible exact hM | with_reducible exact hMp | with_reducible apply Mem.drew | with_reducible apply Mem.drewN | with_reducible apply Mem.alloc | with_reducible apply Mem.set | with_reducible exact Sto.row | ((with_reducible refine Sto.rowEq2 ?_ ?_); omega; rfl) | ((with_reducible refine Sto.rowEq ?_); omega) | with_reducible apply Sto.int | with_reducible apply Sto.there | with_reducible assumption | (unfold I64; omega) | (with_reducible (have hMx := Mem.undrew hM; exact hMx)) | (with_reducible (have hMx := Mem.undrew hMp; exact hMx))))
  clear hM
  intro hM
  (try simp only [World.size_alloc, World.size_setCell, World.heap_drewN, heapDrew, Nat.add_assoc, Nat.reduceAdd, List.setIfInBounds_toArray, List.set_cons_zero, List.set_cons_succ, List.cons_append, List.nil_append] at hM)
  refine (cellsThat_any _ _ _ (fun k => nearN W k d) _ _ a n c xs _ (h.ext hM.below) hn25 (enters Tryz.func131 (by kernel_rfl) rfl) (fun k hk w' hb => by
    have hM' := hM.ext hb
    exact neighbors1_any W H _ k _ _ d w' hW (by omega) hd (hM'.row (.there .here)) (hM'.row .here))).mono ?_
  rw [HC.out]
  rintro e w1 ⟨a', m, c', rfl, hm⟩
  replace hM := hM.join hm
  clear hm
  go_wp2
  go_ret
  exact ⟨a', m, c', rfl, hM.first⟩

set_option maxRecDepth 100000 in
set_option maxHeartbeats 1000000 in
theorem l2Near_any (W : Nat) (H : Int) (a : Option Addr) (n c : Nat) (xs : List Int) (d : Nat) (w : World) (h : Ints w a n c xs) (hn25 : n ≤ 25) (hW : 1 ≤ W ∧ W ≤ 5) (hd : d ≤ 1000) :
    Calls Tryz.prog 98 #[.agg #[.int .i64 W, .int .i64 H, .slice a n c], .int .i64 d] w fun e w' => ∃ a' m c', e = .returned (.slice a' m c') ∧ Mem w.heap.size w w' [intE a' m c' (cellsN n (nearN W d))] := by
  have hM := Mem.start w
  go_enter Tryz.func98, Tryz.ntmps98
  go_wp2_with fail
  go_loopw [5, 6] (fun s i wr => ∃ (k : Nat) (a' : Option Addr) (m c' : Nat), k ≤ n ∧ i = .int .i64 k ∧ s = .slice a' m c' ∧ Mem w.heap.size w wr [intE a' m c' (cellsN k (nearN W d)), rowE w.heap.size 26 #[.int .i64 W, .int .i64 H, .slice a n c]]) (fun _ i _ => n - (intOf i).toNat)
  case atStart =>
    refine ⟨0, _, 0, _, Nat.zero_le _, rfl, rfl, ?_⟩
    have hM := (hM.alloc #[.int .i64 W, .int .i64 H, .slice a n c] 26).empty
    simp only [World.size_alloc] at hM
    exact hM
  case round =>
    clear hM
    obtain ⟨k, a', m, c', hk, rfl, rfl, hM⟩ := hrel
    by_cases hlt : k < n
    · have hm := (hM.ints .here).len
      have hl := cellsN_length k (nearN W d)
      obtain ⟨ys, hys⟩ : ∃ ys, cellsN k (nearN W d) = ys := ⟨_, rfl⟩
      have hsu := cellsN_succ k (nearN W d)
      rw [hys] at hM hl hm hsu
      obtain ⟨r, hr⟩ : ∃ r, apI W d k = r := ⟨_, rfl⟩
      have hsu2 : cellsN (k + 1) (nearN W d) = ys ++ if r == 1 then [(k : Int)] else [] := by rw [hsu]; unfold nearN; rw [hr]
      have HY := Lib.hid hsu2; clear hys hsu hsu2
      have HR := Lib.hid hr; clear hr
      have hmk : m ≤ k := by omega
      have HL := Lib.hid hm; clear hm hl
      obtain ⟨k1, f1, l1⟩ := hM.row (.there .here)
      go_wp2_with fail
      clear k1 f1 l1
      apply Mem.at
      · (repeat' (first | with_reducible exact hM | with_reducible exact hMp | with_reducible apply Mem.drew | with_reducible apply Mem.drewN | with_reducible apply Mem.alloc | with_reducible apply Mem.set | with_reducible exact Sto.row | ((with_reducible refine Sto.rowEq2 ?_ ?_); omega; rfl) | ((with_reducible refine Sto.rowEq ?_); omega) | with_reducible apply Sto.int | with_reducible apply Sto.there | with_reducible assumption | (unfold I64; omega) | (with_reducible (have hMx := Mem.undrew hM; exact hMx)) | (with_reducible (have hMx := Mem.undrew hMp; exact hMx))))
      clear hM
      intro hM
      (try simp only [World.size_alloc, World.size_setCell, World.heap_drewN, heapDrew, Nat.add_assoc, Nat.reduceAdd, List.setIfInBounds_toArray, List.set_cons_zero, List.set_cons_succ, List.cons_append, List.nil_append] at hM)
      refine (l2Apart_any W H _ d k _ hW hd (by omega)).mono ?_
      rw [HR.out]
      rintro e w1 ⟨rfl, hb⟩
      replace hM := hM.ext hb
      clear hb
      obtain ⟨k1, f1, l1⟩ := hM.row (.there .here)
      cases hp : (r == 1)
      · go_wp2
        go_roundw
        case rel =>
          refine ⟨k + 1, a', m, c', by omega, by go_num, rfl, ?_⟩
          rw [HY.out, hp]
          simpa using hM
        case measure => simp [intOf]; omega
      · go_wp2_with (at_builtin; apply Mem.atL; (focus ((repeat' (first | with_reducible exact hM | with_reducible exact hMp | with_reducible apply Mem.drew | with_reducible apply Mem.drewN | with_reducible apply Mem.alloc | with_reducible apply Mem.set | with_reducible exact Sto.row | ((with_reducible refine Sto.rowEq2 ?_ ?_); omega; rfl) | ((with_reducible refine Sto.rowEq ?_); omega) | with_reducible apply Sto.int | with_reducible apply Sto.there | with_reducible assumption | (unfold I64; omega) | (with_reducible (have hMx := Mem.undrew hM; exact hMx)) | (with_reducible (have hMx := Mem.undrew hMp; exact hMx)))); done)); clear hM k1 f1 l1; intro hM; refine wpList_pushI hM (fun _ => .here) (i64_nat (by omega)) (by omega) rfl _ _ _ Tryz.underlying24 rfl rfl rfl ?_)
        intro a2 c2 w2 hM
        go_wp2
        go_roundw
        case rel =>
          refine ⟨k + 1, a2, m + 1, c2, by omega, by go_num, rfl, ?_⟩
          rw [HY.out, hp]
          exact hM
        case measure => simp [intOf]; omega
    · obtain rfl : k = n := by omega
      obtain ⟨k1, f1, l1⟩ := hM.row (.there .here)
      go_wp2
      go_ret
      exact ⟨a', m, c', rfl, hM.first⟩
end Go.Proofs.YtojfbcgfeojdfaaGreat
