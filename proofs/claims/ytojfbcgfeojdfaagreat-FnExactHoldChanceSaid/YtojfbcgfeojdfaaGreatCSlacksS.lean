/-
  Slacks of the reference.
-/
import Derived.Test.YtojfbcgfeojdfaaGreatCHoldP
import Derived.Test.YtojfbcgfeojdfaaGreatCArrS
/-
  Slacks of the reference.
-/
namespace Go.Proofs.YtojfbcgfeojdfaaGreat
set_option linter.unusedSimpArgs false
set_option linter.unusedVariables false
open Go.RowKit

theorem slk_i64 {ts : List Int} (h : ∀ x ∈ ts, I64 x) {c : Nat} (hc : c < ts.length) (h1 : -1 ≤ ts.getD c 0) : -1 ≤ ts.getD c 0 ∧ ts.getD c 0 ≤ 9223372036854775807 := by
  have := h _ (getD_mem hc)
  unfold I64 at this
  exact ⟨h1, this.2⟩

set_option maxRecDepth 100000 in
set_option maxHeartbeats 30000000 in
theorem l25Slacks_any (W Hn : Nat) (a : Option Addr) (n c : Nat) (xs : List Int) (a1 : Option Addr) (n1 c1 : Nat) (ph : List PhaseI) (a2 : Option Addr) (n2 c2 : Nat) (ss : List Int) (start : Int) (a4 : Option Addr) (n4 c4 : Nat) (cu : List CutI) (w : World) (h : Ints w a n c xs) (h1 : Rd FPhase w a1 n1 c1 ph) (h2 : Ints w a2 n2 c2 ss) (h4 : Rd FCut w a4 n4 c4 cu) (hnp : 0 < n) (hn25 : n ≤ 25) (hW : 1 ≤ W ∧ W ≤ 5) (hx : ∀ x ∈ xs, 0 ≤ x ∧ x ≤ 20) (hp : phasesB ph = true) (hst : 0 ≤ start ∧ start ≤ 1000) (hc : cutTo xs cu cu.length = true) :
    Calls Tryz.prog 45 #[.agg #[.int .i64 W, .int .i64 Hn, .slice a n c], .slice a1 n1 c1, .slice a2 n2 c2, .int .i64 start, .slice a4 n4 c4] w (fun e w' => ∃ a' m' c', e = .returned (.slice a' m' c') ∧ Mem w.heap.size w w' [intE a' m' c' (cu.map (slk (arrT W n xs ss ph start)))]) := by
  have hM := Mem.start w
  have hrm := h4.nroom
  have HL := Lib.hid h4.len
  have HCI := Lib.hid (fun k (hk : k < cu.length) => cut_in hc hk)
  have HX := Lib.hid hx; have HP := Lib.hid hp; have HXL := Lib.hid h.len
  have hlen := arrT_len (W := W) (n := n) (xs := xs) (ss := ss) (l := ph) hst.1
  have hge := fun (c : Nat) (hcn : c < n) => arrT_ge (W := W) (xs := xs) (ss := ss) (l := ph) hst.1 hcn
  obtain ⟨ts, hts⟩ : ∃ ts, arrT W n xs ss ph start = ts := ⟨_, rfl⟩
  rw [hts] at hlen hge
  have HTL := Lib.hid hlen; have HGE := Lib.hid hge; have HTS := Lib.hid hts
  clear hc hx hp hlen hge hts
  go_enter Tryz.func45, Tryz.ntmps45
  go_wp2_with fail
  apply Mem.atA
  · (repeat' (first | with_reducible exact hM | with_reducible exact hMp | with_reducible apply Mem.drew | with_reducible apply Mem.drewN | with_reducible apply Mem.alloc | with_reducible apply Mem.set | with_reducible exact Sto.row | ((with_reducible refine Sto.rowEq2 ?_ ?_); omega; rfl) | ((with_reducible refine Sto.rowEq ?_); omega) | with_reducible apply Sto.int | with_reducible apply Sto.there | with_reducible assumption | (unfold I64; omega) | (with_reducible (have hMx := Mem.undrew hM; exact hMx)) | (with_reducible (have hMx := Mem.undrew hMp; exact hMx))))
  clear hM
  intro wst hM
  (try simp only [World.size_alloc, World.size_setCell, World.heap_drewN, heapDrew, Nat.add_assoc, Nat.reduceAdd, List.setIfInBounds_toArray, List.set_cons_zero, List.set_cons_succ, List.cons_append, List.nil_append] at hM)
  apply Calls.mono
  · (apply l4Arrivals_any) <;> (first | (show (_ : Prop); with_reducible assumption) | (apply Hid.out; with_reducible assumption) | (apply Mem.intsR hM; (repeat' (first | with_reducible exact In.here | with_reducible apply In.there)); done) | (apply Ints.ext (hb := hM.below); with_reducible assumption) | (apply Rd.ext (hb := hM.below); with_reducible assumption) | (apply Mem.row hM; (repeat' (first | with_reducible exact In.here | with_reducible apply In.there)); done) | (apply Row.ext (hb := hM.below); with_reducible assumption) | exact ⟨by omega, by omega⟩ | omega | (trace_state; fail))
  rintro e wc1 ⟨a5, m5, c5, rfl, hm⟩
  replace hM := hM.join hm
  clear hm
  (try simp only [World.size_alloc, World.size_setCell, World.heap_drewN, heapDrew, Nat.add_assoc, Nat.reduceAdd, List.setIfInBounds_toArray, List.set_cons_zero, List.set_cons_succ, List.cons_append, List.nil_append] at hM)
  rw [HTS.out] at hM
  obtain rfl : n = m5 := by rw [← HTL.out]; exact (hM.ints .here).len
  replace hM := hM.toInts (xs := []) (.there .here) rfl (by simp) (by simp)
  obtain ⟨g, rfl, -⟩ := (hM.ints .here).head hnp
  have HTW := Lib.hid (hM.ints .here).ints.wf
  go_wp2_with fail
  go_loopw [11, 13] (fun s11 s13 wr => ∃ (k : Nat) (a' : Option Addr) (c' : Nat), k ≤ n4 ∧ s13 = .int .i64 k ∧ s11 = .slice a' k c' ∧ Mem w.heap.size w wr [intE (some ⟨g, 0, none⟩) n c5 ts, intE a' k c' ((cu.map (slk ts)).take k), rowE w.heap.size 26 #[.int .i64 W, .int .i64 Hn, .slice a n c]]) (fun _ s13 _ => n4 - (intOf s13).toNat)
  case atStart =>
    refine ⟨0, _, _, Nat.zero_le _, rfl, rfl, ?_⟩
    rw [List.take_zero]
    exact hM
  case round =>
    clear hM
    obtain ⟨k, a', c', hk, rfl, rfl, hM⟩ := hrel
    by_cases hlt : k < n4
    · obtain ⟨bl, offl, rfl, -, -⟩ := h4.at' _ hlt
      obtain ⟨-, hc0, hc1⟩ := (h4.ext hM.below).cellCut hlt
      have hts := slk_take (ts := ts) (l := cu) (k := k) (by rw [HL.out]; exact hlt)
      have hin := HCI.out k (by rw [HL.out]; exact hlt)
      rw [HXL.out] at hin
      obtain ⟨v, hv⟩ : ∃ v, cu.getD k CutI.zero = v := ⟨_, rfl⟩
      rw [hv] at hc0 hc1 hts hin
      obtain ⟨vc, vt⟩ := v
      dsimp only at hc0 hc1 hin
      obtain ⟨j0, j1, t0, t1⟩ := hin
      obtain ⟨j, rfl⟩ := Int.eq_ofNat_of_zero_le j0
      have hjn : j < n := by omega
      have hcell := (hM.ints .here).cellAt hjn
      have hsb := slk_i64 HTW.out (c := j) (by rw [HTL.out]; exact hjn) (HGE.out j hjn)
      have hsl : slk ts ⟨(j : Int), vt⟩ = if ts.getD j 0 = -1 then 9999 else ts.getD j 0 - vt := rfl
      rw [hsl] at hts
      obtain ⟨u, hu⟩ : ∃ u, ts.getD j 0 = u := ⟨_, rfl⟩
      rw [hu] at hcell hsb hts
      have HTK := Lib.hid hts
      obtain ⟨hs0, hs1⟩ := hsb
      clear hts hsl hv hu
      have i0 : (0 : Int) ≤ (k : Int) := by omega
      have i1 : (k : Int) < (n4 : Int) := by omega
      have i3 : (j : Int) < (n : Int) := by omega
      by_cases hne : u = -1
      · subst hne
        have HTK2 := Lib.hid (HTK.out.trans (by rw [if_pos rfl]))
        go_wp2_with (at_builtin; apply Mem.atL; (focus ((repeat' (first | with_reducible exact hM | with_reducible exact hMp | with_reducible apply Mem.drew | with_reducible apply Mem.drewN | with_reducible apply Mem.alloc | with_reducible apply Mem.set | with_reducible exact Sto.row | ((with_reducible refine Sto.rowEq2 ?_ ?_); omega; rfl) | ((with_reducible refine Sto.rowEq ?_); omega) | with_reducible apply Sto.int | with_reducible apply Sto.there | with_reducible assumption | (unfold I64; omega) | (with_reducible (have hMx := Mem.undrew hM; exact hMx)) | (with_reducible (have hMx := Mem.undrew hMp; exact hMx)))); done)); clear hM; intro hM; (try simp only [World.size_alloc, World.size_setCell, World.heap_drewN, heapDrew, Nat.add_assoc, Nat.reduceAdd, List.setIfInBounds_toArray, List.set_cons_zero, List.set_cons_succ, List.cons_append, List.nil_append] at hM); refine wpList_pushI hM (fun _ => .there .here) (by unfold I64; omega) (by omega) rfl _ _ _ Tryz.underlying24 rfl rfl rfl ?_)
        intro a6 c6 w6 hM
        go_wp2
        go_roundw
        case rel =>
          refine ⟨k + 1, a6, c6, by omega, by go_num, rfl, ?_⟩
          rw [HTK2.out]
          first
            | exact hM
            | exact hM.tail
        case measure => simp [intOf]; omega
      · have HTK2 := Lib.hid (HTK.out.trans (by rw [if_neg hne]))
        have hwu : IntKind.i64.wrap (u - vt) = u - vt := wrap_in (by omega)
        have hbe : (u == -1) = false := by simpa using hne
        go_wp2_with (at_builtin; apply Mem.atL; (focus ((repeat' (first | with_reducible exact hM | with_reducible exact hMp | with_reducible apply Mem.drew | with_reducible apply Mem.drewN | with_reducible apply Mem.alloc | with_reducible apply Mem.set | with_reducible exact Sto.row | ((with_reducible refine Sto.rowEq2 ?_ ?_); omega; rfl) | ((with_reducible refine Sto.rowEq ?_); omega) | with_reducible apply Sto.int | with_reducible apply Sto.there | with_reducible assumption | (unfold I64; omega) | (with_reducible (have hMx := Mem.undrew hM; exact hMx)) | (with_reducible (have hMx := Mem.undrew hMp; exact hMx)))); done)); clear hM; intro hM; (try simp only [World.size_alloc, World.size_setCell, World.heap_drewN, heapDrew, Nat.add_assoc, Nat.reduceAdd, List.setIfInBounds_toArray, List.set_cons_zero, List.set_cons_succ, List.cons_append, List.nil_append] at hM); refine wpList_pushI hM (fun _ => .there .here) (by unfold I64; omega) (by omega) rfl _ _ _ Tryz.underlying24 rfl rfl rfl ?_)
        intro a6 c6 w6 hM
        go_wp2
        go_roundw
        case rel =>
          refine ⟨k + 1, a6, c6, by omega, by go_num, rfl, ?_⟩
          rw [HTK2.out]
          first
            | exact hM
            | exact hM.tail
        case measure => simp [intOf]; omega
    · obtain rfl : k = n4 := by omega
      rw [List.take_of_length_le (by rw [List.length_map, HL.out]; exact Nat.le_refl _)] at hM
      go_wp2
      go_ret
      refine ⟨a', k, c', rfl, ?_⟩
      rw [HTS.out]
      exact hM.pick (is := [1]) (by decide) rfl

end Go.Proofs.YtojfbcgfeojdfaaGreat
