/-
  The cells of cuts.
-/
import Derived.Test.YtojfbcgfeojdfaaGreatKHoldP
import Derived.Test.YtojfbcgfeojdfaaGreatKArrS
import Derived.Test.YtojfbcgfeojdfaaGreatKArrI
import Derived.Test.YtojfbcgfeojdfaaGreatKRise
import Derived.Test.YtojfbcgfeojdfaaGreatKLinesS
/-
  Slacks of the reference.
-/
namespace Go.Proofs.YtojfbcgfeojdfaaGreat
set_option linter.unusedSimpArgs false
set_option linter.unusedVariables false
open Go.RowKit

theorem slk_i64 {ts : List Int} (h : ∀ x ∈ ts, I64 x) {c : Nat} (hc : c < ts.length) (h1 : -1 ≤ ts.getD c 0) : -1 ≤ ts.getD c 0 ∧ ts.getD c 0 ≤ 9223372036854775807 := by
  have := h _ (getD_mem hc)
  unfold I64 at this
  exact ⟨h1, this.2⟩

set_option maxRecDepth 100000 in
set_option maxHeartbeats 30000000 in
theorem l25Slacks_any (W Hn : Nat) (a : Option Addr) (n c : Nat) (xs : List Int) (a1 : Option Addr) (n1 c1 : Nat) (ph : List PhaseI) (a2 : Option Addr) (n2 c2 : Nat) (ss : List Int) (start : Int) (a4 : Option Addr) (n4 c4 : Nat) (cu : List CutI) (w : World) (h : Ints w a n c xs) (h1 : Rd FPhase w a1 n1 c1 ph) (h2 : Ints w a2 n2 c2 ss) (h4 : Rd FCut w a4 n4 c4 cu) (hnp : 0 < n) (hn25 : n ≤ 25) (hW : 1 ≤ W ∧ W ≤ 5) (hx : ∀ x ∈ xs, 0 ≤ x ∧ x ≤ 20) (hp : phasesB ph = true) (hst : 0 ≤ start ∧ start ≤ 1000) (hc : cutTo xs cu cu.length = true) :
    Calls Tryz.prog 45 #[.agg #[.int .i64 W, .int .i64 Hn, .slice a n c], .slice a1 n1 c1, .slice a2 n2 c2, .int .i64 start, .slice a4 n4 c4] w (fun e w' => ∃ a' m' c', e = .returned (.slice a' m' c') ∧ Mem w.heap.size w w' [intE a' m' c' (cu.map (slk (arrT W n xs ss ph start)))]) := by
  have hM := Mem.start w
  have hrm := h4.nroom
  have HL := Lib.hid h4.len
  have HCI := Lib.hid (fun k (hk : k < cu.length) => cut_in hc hk)
  have HX := Lib.hid hx; have HP := Lib.hid hp; have HXL := Lib.hid h.len
  have hlen := arrT_len (W := W) (n := n) (xs := xs) (ss := ss) (l := ph) hst.1
  have hge := fun (c : Nat) (hcn : c < n) => arrT_ge (W := W) (xs := xs) (ss := ss) (l := ph) hst.1 hcn
  obtain ⟨ts, hts⟩ : ∃ ts, arrT W n xs ss ph start = ts := ⟨_, rfl⟩
  rw [hts] at hlen hge
  have HTL := Lib.hid hlen; have HGE := Lib.hid hge; have HTS := Lib.hid hts
  clear hc hx hp hlen hge hts
  go_enter Tryz.func45, Tryz.ntmps45
  go_wp2_with fail
  apply Mem.atA
  · exact memA
  clear hM
  intro wst hM
  (try simp only [World.size_alloc, World.size_setCell, World.heap_drewN, heapDrew, Nat.add_assoc, Nat.reduceAdd, sA, List.cons_append, List.nil_append] at hM)
  apply Calls.mono
  · (apply l4Arrivals_any) <;> (first | (show (_ : Prop); with_reducible assumption) | (apply Hid.out; with_reducible assumption) | (apply Mem.intsR hM; (repeat' (first | with_reducible exact In.here | with_reducible apply In.there)); done) | (apply Ints.ext (hb := hM.below); with_reducible assumption) | (apply Rd.ext (hb := hM.below); with_reducible assumption) | (apply Mem.row hM; (repeat' (first | with_reducible exact In.here | with_reducible apply In.there)); done) | (apply Row.ext (hb := hM.below); with_reducible assumption) | exact ⟨by omega, by omega⟩ | omega | (trace_state; fail))
  rintro e wc1 ⟨a5, m5, c5, rfl, hm⟩
  replace hM := hM.join hm
  clear hm
  (try simp only [World.size_alloc, World.size_setCell, World.heap_drewN, heapDrew, Nat.add_assoc, Nat.reduceAdd, sA, List.cons_append, List.nil_append] at hM)
  rw [HTS.out] at hM
  obtain rfl : n = m5 := by rw [← HTL.out]; exact (hM.ints .here).len
  replace hM := hM.toInts (xs := []) (.there .here) rfl (by simp) (by simp)
  obtain ⟨g, rfl, -⟩ := (hM.ints .here).head hnp
  have HTW := Lib.hid (hM.ints .here).ints.wf
  go_wp2_with fail
  go_loopw [11, 13] (fun s11 s13 wr => ∃ (k : Nat) (a' : Option Addr) (c' : Nat), k ≤ n4 ∧ s13 = .int .i64 k ∧ s11 = .slice a' k c' ∧ Mem w.heap.size w wr [intE (some ⟨g, 0, none⟩) n c5 ts, intE a' k c' ((cu.map (slk ts)).take k), rowE w.heap.size 26 #[.int .i64 W, .int .i64 Hn, .slice a n c]]) (fun _ s13 _ => n4 - (intOf s13).toNat)
  case atStart =>
    refine ⟨0, _, _, Nat.zero_le _, rfl, rfl, ?_⟩
    rw [List.take_zero]
    exact hM
  case round =>
    clear hM
    obtain ⟨k, a', c', hk, rfl, rfl, hM⟩ := hrel
    by_cases hlt : k < n4
    · obtain ⟨bl, offl, rfl, -, -⟩ := h4.at' _ hlt
      obtain ⟨-, hc0, hc1⟩ := (h4.ext hM.below).cellCut hlt
      have hts := slk_take (ts := ts) (l := cu) (k := k) (by rw [HL.out]; exact hlt)
      have hin := HCI.out k (by rw [HL.out]; exact hlt)
      rw [HXL.out] at hin
      obtain ⟨v, hv⟩ : ∃ v, cu.getD k CutI.zero = v := ⟨_, rfl⟩
      rw [hv] at hc0 hc1 hts hin
      obtain ⟨vc, vt⟩ := v
      dsimp only at hc0 hc1 hin
      obtain ⟨j0, j1, t0, t1⟩ := hin
      obtain ⟨j, rfl⟩ := Int.eq_ofNat_of_zero_le j0
      have hjn : j < n := by omega
      have hcell := (hM.ints .here).cellAt hjn
      have hsb := slk_i64 HTW.out (c := j) (by rw [HTL.out]; exact hjn) (HGE.out j hjn)
      have hsl : slk ts ⟨(j : Int), vt⟩ = if ts.getD j 0 = -1 then 9999 else ts.getD j 0 - vt := rfl
      rw [hsl] at hts
      obtain ⟨u, hu⟩ : ∃ u, ts.getD j 0 = u := ⟨_, rfl⟩
      rw [hu] at hcell hsb hts
      have HTK := Lib.hid hts
      obtain ⟨hs0, hs1⟩ := hsb
      clear hts hsl hv hu
      have i0 : (0 : Int) ≤ (k : Int) := by omega
      have i1 : (k : Int) < (n4 : Int) := by omega
      have i3 : (j : Int) < (n : Int) := by omega
      by_cases hne : u = -1
      · subst hne
        have HTK2 := Lib.hid (HTK.out.trans (by rw [if_pos rfl]))
        go_wp2_with (at_builtin; apply Mem.atL; (focus ((exact memA); done)); clear hM; intro hM; (try simp only [World.size_alloc, World.size_setCell, World.heap_drewN, heapDrew, Nat.add_assoc, Nat.reduceAdd, sA, List.cons_append, List.nil_append] at hM); refine wpList_pushI hM (fun _ => .there .here) (by unfold I64; omega) (by omega) rfl _ _ _ Tryz.underlying24 rfl rfl rfl ?_)
        intro a6 c6 w6 hM
        go_wp2
        go_roundw
        case rel =>
          refine ⟨k + 1, a6, c6, by omega, by go_num, rfl, ?_⟩
          rw [HTK2.out]
          first
            | exact hM
            | exact hM.tail
        case measure => simp [intOf]; omega
      · have HTK2 := Lib.hid (HTK.out.trans (by rw [if_neg hne]))
        have hwu : IntKind.i64.wrap (u - vt) = u - vt := wrap_in (by omega)
        have hbe : (u == -1) = false := by simpa using hne
        go_wp2_with (at_builtin; apply Mem.atL; (focus ((exact memA); done)); clear hM; intro hM; (try simp only [World.size_alloc, World.size_setCell, World.heap_drewN, heapDrew, Nat.add_assoc, Nat.reduceAdd, sA, List.cons_append, List.nil_append] at hM); refine wpList_pushI hM (fun _ => .there .here) (by unfold I64; omega) (by omega) rfl _ _ _ Tryz.underlying24 rfl rfl rfl ?_)
        intro a6 c6 w6 hM
        go_wp2
        go_roundw
        case rel =>
          refine ⟨k + 1, a6, c6, by omega, by go_num, rfl, ?_⟩
          rw [HTK2.out]
          first
            | exact hM
            | exact hM.tail
        case measure => simp [intOf]; omega
    · obtain rfl : k = n4 := by omega
      rw [List.take_of_length_le (by rw [List.length_map, HL.out]; exact Nat.le_refl _)] at hM
      go_wp2
      go_ret
      refine ⟨a', k, c', rfl, ?_⟩
      rw [HTS.out]
      exact hM.pick (is := [1]) (by decide) rfl

end Go.Proofs.YtojfbcgfeojdfaaGreat

/-
  Slacks of the program.
-/
namespace Go.Proofs.YtojfbcgfeojdfaaGreat
set_option linter.unusedSimpArgs false
set_option linter.unusedVariables false
open Go.RowKit

set_option maxRecDepth 100000 in
set_option maxHeartbeats 30000000 in
theorem slacks_any (W Hn : Nat) (a : Option Addr) (n c : Nat) (xs : List Int) (a1 : Option Addr) (n1 c1 : Nat) (ph : List PhaseI) (a2 : Option Addr) (n2 c2 : Nat) (ss : List Int) (start : Int) (a4 : Option Addr) (n4 c4 : Nat) (cu : List CutI) (w : World) (h : Ints w a n c xs) (h1 : Rd FPhase w a1 n1 c1 ph) (h2 : Ints w a2 n2 c2 ss) (h4 : Rd FCut w a4 n4 c4 cu) (hnp : 0 < n) (hn25 : n ≤ 25) (hW : 1 ≤ W ∧ W ≤ 5) (hx : ∀ x ∈ xs, 0 ≤ x ∧ x ≤ 20) (hp : phasesB ph = true) (hst : 0 ≤ start ∧ start ≤ 1000) (hs : setB n ss = true) (hc : cutTo xs cu cu.length = true) :
    Calls Tryz.prog 76 #[.agg #[.int .i64 W, .int .i64 Hn, .slice a n c], .slice a1 n1 c1, .slice a2 n2 c2, .int .i64 start, .slice a4 n4 c4] w (fun e w' => ∃ a' m' c', e = .returned (.slice a' m' c') ∧ Mem w.heap.size w w' [intE a' m' c' (cu.map (slk (arrT W n xs ss ph start)))]) := by
  have hM := Mem.start w
  have hrm := h4.nroom
  have HL := Lib.hid h4.len
  have HCI := Lib.hid (fun k (hk : k < cu.length) => cut_in hc hk)
  have HX := Lib.hid hx; have HSB := Lib.hid hs; have HP := Lib.hid hp; have HXL := Lib.hid h.len
  have hlen := arrT_len (W := W) (n := n) (xs := xs) (ss := ss) (l := ph) hst.1
  have hge := fun (c : Nat) (hcn : c < n) => arrT_ge (W := W) (xs := xs) (ss := ss) (l := ph) hst.1 hcn
  obtain ⟨ts, hts⟩ : ∃ ts, arrT W n xs ss ph start = ts := ⟨_, rfl⟩
  rw [hts] at hlen hge
  have HTL := Lib.hid hlen; have HGE := Lib.hid hge; have HTS := Lib.hid hts
  clear hs hc hx hp hlen hge hts
  go_enter Tryz.func76, Tryz.ntmps76
  go_wp2_with fail
  apply Mem.atA
  · exact memA
  clear hM
  intro wst hM
  (try simp only [World.size_alloc, World.size_setCell, World.heap_drewN, heapDrew, Nat.add_assoc, Nat.reduceAdd, sA, List.cons_append, List.nil_append] at hM)
  apply Calls.mono
  · (apply arrivals_any) <;> (first | (show (_ : Prop); with_reducible assumption) | (apply Hid.out; with_reducible assumption) | (apply Mem.intsR hM; (repeat' (first | with_reducible exact In.here | with_reducible apply In.there)); done) | (apply Ints.ext (hb := hM.below); with_reducible assumption) | (apply Rd.ext (hb := hM.below); with_reducible assumption) | (apply Mem.row hM; (repeat' (first | with_reducible exact In.here | with_reducible apply In.there)); done) | (apply Row.ext (hb := hM.below); with_reducible assumption) | exact ⟨by omega, by omega⟩ | omega | (trace_state; fail))
  rintro e wc1 ⟨a5, m5, c5, rfl, hm⟩
  replace hM := hM.join hm
  clear hm
  (try simp only [World.size_alloc, World.size_setCell, World.heap_drewN, heapDrew, Nat.add_assoc, Nat.reduceAdd, sA, List.cons_append, List.nil_append] at hM)
  rw [HTS.out] at hM
  obtain rfl : n = m5 := by rw [← HTL.out]; exact (hM.ints .here).len
  obtain ⟨g, rfl, -⟩ := (hM.ints .here).head hnp
  have HTW := Lib.hid (hM.ints .here).ints.wf
  go_wp2_with fail
  apply Mem.atWp
  · exact memA
  clear hM
  intro hM
  (try simp only [World.size_alloc, World.size_setCell, World.heap_drewN, heapDrew, Nat.add_assoc, Nat.reduceAdd, sA, List.cons_append, List.nil_append] at hM)
  replace hM := hM.toInts (xs := []) .here rfl (by simp) (by simp)
  go_loopw [12, 23] (fun s11 s13 wr => ∃ (k : Nat) (a' : Option Addr) (c' : Nat), k ≤ n4 ∧ s13 = .int .i64 k ∧ s11 = .slice a' k c' ∧ Mem w.heap.size w wr [intE a' k c' ((cu.map (slk ts)).take k), intE (some ⟨g, 0, none⟩) n c5 ts, rowE w.heap.size 26 #[.int .i64 W, .int .i64 Hn, .slice a n c]]) (fun _ s13 _ => n4 - (intOf s13).toNat)
  case atStart =>
    refine ⟨0, _, _, Nat.zero_le _, rfl, rfl, ?_⟩
    rw [List.take_zero]
    exact hM
  case round =>
    clear hM
    obtain ⟨k, a', c', hk, rfl, rfl, hM⟩ := hrel
    by_cases hlt : k < n4
    · obtain ⟨bl, offl, rfl, -, -⟩ := h4.at' _ hlt
      obtain ⟨-, hc0, hc1⟩ := (h4.ext hM.below).cellCut hlt
      have hts := slk_take (ts := ts) (l := cu) (k := k) (by rw [HL.out]; exact hlt)
      have hin := HCI.out k (by rw [HL.out]; exact hlt)
      rw [HXL.out] at hin
      obtain ⟨v, hv⟩ : ∃ v, cu.getD k CutI.zero = v := ⟨_, rfl⟩
      rw [hv] at hc0 hc1 hts hin
      obtain ⟨vc, vt⟩ := v
      dsimp only at hc0 hc1 hin
      obtain ⟨j0, j1, t0, t1⟩ := hin
      obtain ⟨j, rfl⟩ := Int.eq_ofNat_of_zero_le j0
      have hjn : j < n := by omega
      have hsb := slk_i64 HTW.out (c := j) (by rw [HTL.out]; exact hjn) (HGE.out j hjn)
      have hsl : slk ts ⟨(j : Int), vt⟩ = if ts.getD j 0 = -1 then 9999 else ts.getD j 0 - vt := rfl
      rw [hsl] at hts
      obtain ⟨u, hu⟩ : ∃ u, ts.getD j 0 = u := ⟨_, rfl⟩
      rw [hu] at hsb hts
      have HTK := Lib.hid hts
      obtain ⟨hs0, hs1⟩ := hsb
      have HU := Lib.hid hu
      clear hts hsl hv hu
      have i0 : (0 : Int) ≤ (k : Int) := by omega
      have i1 : (k : Int) < (n4 : Int) := by omega
      have i3 : (j : Int) < (n : Int) := by omega
      go_upto_region 5 with fail
      apply Mem.atWpA
      · exact memA
      clear hM
      intro wst hM
      (try simp only [World.size_alloc, World.size_setCell, World.heap_drewN, heapDrew, Nat.add_assoc, Nat.reduceAdd, sA, List.cons_append, List.nil_append] at hM)
      by_cases hne : u = -1
      · subst hne
        have HTK2 := Lib.hid (HTK.out.trans (by rw [if_pos rfl]))
        have hcell := (hM.ints (.there (.there .here))).cellAt hjn
        rw [HU.out] at hcell
        obtain ⟨k0, f0, l0⟩ := hM.row .here
        go_wp2_with (at_builtin; apply Mem.atL; (focus ((exact memA); done)); clear hM hcell k0 f0 l0; intro hM; (try simp only [World.size_alloc, World.size_setCell, World.heap_drewN, heapDrew, Nat.add_assoc, Nat.reduceAdd, sA, List.cons_append, List.nil_append] at hM); refine wpList_pushI hM (fun _ => .there .here) (by unfold I64; omega) (by omega) rfl _ _ _ Tryz.underlying24 rfl rfl rfl ?_)
        intro a6 c6 w6 hM
        go_wp2
        go_roundw
        case rel =>
          refine ⟨k + 1, a6, c6, by omega, by go_num, rfl, ?_⟩
          rw [HTK2.out]
          exact hM.pick (is := [1, 2, 3]) (by decide) rfl
        case measure => simp [intOf]; omega
      · have HTK2 := Lib.hid (HTK.out.trans (by rw [if_neg hne]))
        have hwu : IntKind.i64.wrap (u - vt) = u - vt := wrap_in (by omega)
        have hbe : (u == -1) = false := by simpa using hne
        have hcell := (hM.ints (.there (.there .here))).cellAt hjn
        rw [HU.out] at hcell
        obtain ⟨k0, f0, l0⟩ := hM.row .here
        go_wp2_with fail
        clear hcell k0 f0 l0
        apply Mem.atWpA
        · exact memA
        clear hM
        intro wst hM
        (try simp only [World.size_alloc, World.size_setCell, World.heap_drewN, heapDrew, Nat.add_assoc, Nat.reduceAdd, sA, List.cons_append, List.nil_append] at hM)
        have hcap := (hM.ints (.there .here)).ints.cap
        replace hM := hM.pick (is := [1, 0, 2, 3]) (by decide) rfl
        change Mem _ _ _ [intE a' k c' ((cu.map (slk ts)).take k), rowE _ _ _, intE _ n c5 ts, rowE _ _ _] at hM
        refine AtT.startA hM.tail hM 11 (by kernel_rfl) ?_
        clear hM
        intro wd hM
        have hS := hM.tail
        refine AtT.tk 0 ?_ 36 ?_ hS ?_
        rotate_left
        · (intro wS hSw; (try dsimp only at hSw); go_simp; (try rw [if_neg (by omega)]); try with_reducible rfl)
        simp only [Act.put, sA]
        refine AtT.tk 1 ?_ 37 ?_ hS ?_
        rotate_left
        · (intro wS hSw; (try dsimp only at hSw); go_simp; (try rw [if_neg (by omega)]); try with_reducible rfl)
        simp only [Act.put, sA]
        refine AtT.tk 2 ?_ 38 ?_ hS ?_
        rotate_left
        · (intro wS hSw; (try dsimp only at hSw); go_simp; (try rw [if_neg (by omega)]); try with_reducible rfl)
        simp only [Act.put, sA]
        refine AtT.tk 3 ?_ 39 ?_ hS ?_
        rotate_left
        · (intro wS hSw; (try dsimp only at hSw); have kr0 := (Mem.row hSw .here).cell; have hce := (hSw.ints (.there .here)).cellAt hjn; rw [HU.out] at hce; go_simp; (try rw [if_neg (by omega)]); try with_reducible rfl)
        simp only [Act.put, sA]
        refine AtT.tk 4 ?_ 40 ?_ hS ?_
        rotate_left
        · (intro wS hSw; (try dsimp only at hSw); have kr0 := (Mem.row hSw .here).cell; have hce := (hSw.ints (.there .here)).cellAt hjn; rw [HU.out] at hce; go_simp; (try rw [if_neg (by omega)]); try with_reducible rfl)
        simp only [Act.put, sA]
        refine AtT.tk 5 ?_ 41 ?_ hS ?_
        rotate_left
        · (intro wS hSw; (try dsimp only at hSw); have kr0 := (Mem.row hSw .here).cell; have hce := (hSw.ints (.there .here)).cellAt hjn; rw [HU.out] at hce; go_simp; (try rw [if_neg (by omega)]); try with_reducible rfl)
        simp only [Act.put, sA]
        refine AtT.tk 6 ?_ 42 ?_ hS ?_
        rotate_left
        · (intro wS hSw; (try dsimp only at hSw); go_simp; (try rw [if_neg (by omega)]); try with_reducible rfl)
        simp only [Act.put, sA]
        refine AtT.tk 7 ?_ 43 ?_ hS ?_
        rotate_left
        · (intro wS hSw; (try dsimp only at hSw); have kr0 := (Mem.row hSw .here).cell; have hce := (hSw.ints (.there .here)).cellAt hjn; rw [HU.out] at hce; go_simp; (try rw [if_neg (by omega)]); try with_reducible rfl)
        simp only [Act.put, sA]
        refine AtT.tk 8 ?_ 44 ?_ hS ?_
        rotate_left
        · (intro wS hSw; (try dsimp only at hSw); go_simp; (try rw [if_neg (by omega)]); try with_reducible rfl)
        simp only [Act.put, sA]
        refine AtT.only (i := 9) (by kernel_rfl) rfl rfl ?_
        intro K hK
        go_simp
        refine hK.out _ _ (by apply Mem.tail; apply Mem.tail; (exact memA)) ?_
        clear hK K hS
        have hMp := hM
        apply Mem.atT
        · exact memA
        clear hM
        intro hM
        (try simp only [World.size_alloc, World.size_setCell, World.heap_drewN, heapDrew, Nat.add_assoc, Nat.reduceAdd, sA, List.cons_append, List.nil_append] at hM)
        have hS := hM.tail.tail
        refine AtT.only (i := 10) (by kernel_rfl) rfl rfl ?_
        intro K hK
        refine step_appM hM (fun _ => (.there .here)) (hM.oneI .here (by unfold I64; omega)) (by omega) rfl _ _ _ Tryz.underlying24 rfl rfl rfl ?_
        clear hM
        intro a6 c6 w6 hM
        try dsimp only
        refine hK.out _ _ (hM.tail.tail) ?_
        clear hK K hS
        have hS := hM.tail.tail
        refine AtT.last (by kernel_rfl) rfl (by kernel_rfl) ?_
        intro K hK
        clear hS
        go_simp
        refine hK.out _ _ ?_
        clear hK K
        go_wp2
        go_roundw
        case measure => (simp [intOf]; omega)
        case rel =>
        refine ⟨k + 1, a6, c6, by omega, by go_num, rfl, ?_⟩
        rw [HTK2.out]
        apply Mem.pick (is := [1, 3, 4])
        · exact memA
        · decide
        · rfl
    · obtain rfl : k = n4 := by omega
      rw [List.take_of_length_le (by rw [List.length_map, HL.out]; exact Nat.le_refl _)] at hM
      go_wp2
      go_ret
      refine ⟨a', k, c', rfl, ?_⟩
      rw [HTS.out]
      exact hM.pick (is := [0]) (by decide) rfl

end Go.Proofs.YtojfbcgfeojdfaaGreat

/-
  The cells of cuts.
-/
namespace Go.Proofs.YtojfbcgfeojdfaaGreat
set_option linter.unusedSimpArgs false
set_option linter.unusedVariables false
open Go.RowKit

theorem getD_memV {α : Type} {xs : List α} {z : α} {k : Nat} (hk : k < xs.length) : xs.getD k z ∈ xs := by
  rw [List.getD_eq_getElem?_getD, List.getElem?_eq_getElem hk]
  exact List.getElem_mem _
theorem cells_take {l : List CutI} {k : Nat} (hk : k < l.length) : (l.map (fun c => c.cell)).take (k + 1) = (l.map (fun c => c.cell)).take k ++ [(l.getD k CutI.zero).cell] := by
  rw [← List.map_take, ← List.map_take, take_succV (z := CutI.zero) hk, List.map_append]
  rfl

set_option maxRecDepth 100000 in
set_option maxHeartbeats 1000000 in
set_option maxRecDepth 100000 in
set_option maxHeartbeats 30000000 in
theorem cutCells_any (a1 : Option Addr) (n1 c1 : Nat) (cu : List CutI) (w : World) (h1 : Rd FCut w a1 n1 c1 cu) (hw : ∀ x ∈ cu, FCut.wf x) :
    Calls Tryz.prog 78 #[.slice a1 n1 c1] w (fun e w' => ∃ a' m' c', e = .returned (.slice a' m' c') ∧ Mem w.heap.size w w' [intE a' m' c' (cu.map (fun c => c.cell))]) := by
  have hM := Mem.start w
  have hrm := h1.nroom
  have HL := Lib.hid h1.len
  have HW := Lib.hid hw; clear hw
  go_enter Tryz.func78, Tryz.ntmps78
  go_wp2_with fail
  apply Mem.atWp
  · exact memA
  clear hM
  intro hM
  (try simp only [World.size_alloc, World.size_setCell, World.heap_drewN, heapDrew, Nat.add_assoc, Nat.reduceAdd, sA, List.cons_append, List.nil_append] at hM)
  go_loopw [3, 9] (fun s3 s9 wr => ∃ (k : Nat) (a' : Option Addr) (m c' : Nat), k ≤ n1 ∧ s9 = .int .i64 k ∧ s3 = .slice a' m c' ∧ Mem w.heap.size w wr [intE a' m c' ((cu.map (fun c => c.cell)).take k)]) (fun _ s9 _ => n1 - (intOf s9).toNat)
  case atStart =>
    refine ⟨0, _, 0, _, Nat.zero_le _, rfl, rfl, ?_⟩
    rw [List.take_zero]
    exact hM.toInts0
  case round =>
    clear hM
    obtain ⟨k, a', m, c', hk, rfl, rfl, hM⟩ := hrel
    by_cases hlt : k < n1
    · obtain ⟨bl, offl, rfl, -, -⟩ := h1.at' _ hlt
      obtain ⟨-, hc0, hc1⟩ := (h1.ext hM.below).cellCut hlt
      have hts := cells_take (l := cu) (k := k) (by rw [HL.out]; exact hlt)
      have hxw := (HW.out _ (getD_memV (z := CutI.zero) (by rw [HL.out]; exact hlt))).1
      obtain ⟨v, hv⟩ : ∃ v, cu.getD k CutI.zero = v := ⟨_, rfl⟩
      rw [hv] at hc0 hc1 hts hxw
      have HTS := Lib.hid hts
      have HXW := Lib.hid hxw
      have hm5 := (hM.ints .here).len
      have hfl : ((cu.map (fun c => c.cell)).take k).length ≤ k := List.length_take_le _ _
      have hm5b : m ≤ k := by omega
      obtain ⟨vf, vs⟩ := v
      dsimp only at hc0 hc1
      clear hts hxw hv hm5 hfl
      have i0 : (0 : Int) ≤ (k : Int) := by omega
      have i1 : (k : Int) < (n1 : Int) := by omega
      go_wp2_with (at_builtin; apply Mem.atL; (focus ((exact memA); done)); clear hM; intro hM; (try simp only [World.size_alloc, World.size_setCell, World.heap_drewN, heapDrew, Nat.add_assoc, Nat.reduceAdd, sA, List.cons_append, List.nil_append] at hM); refine wpList_pushI hM (fun _ => by (first | exact .here | exact .there .here)) HXW.out (by omega) rfl _ _ _ Tryz.underlying24 rfl rfl rfl ?_)
      intro a6 c6 w6 hM
      go_wp2
      go_roundw
      case rel =>
        refine ⟨k + 1, a6, m + 1, c6, by omega, by go_num, rfl, ?_⟩
        rw [HTS.out]
        first
          | exact hM
          | exact hM.pick (is := [1]) (by decide) rfl
      case measure => simp [intOf]; omega
    · obtain rfl : k = n1 := by omega
      rw [List.take_of_length_le (by rw [List.length_map, HL.out]; exact Nat.le_refl _)] at hM
      go_wp2
      go_ret
      exact ⟨a', m, c', rfl, hM⟩
set_option maxRecDepth 100000 in
set_option maxHeartbeats 1000000 in
set_option maxRecDepth 100000 in
set_option maxHeartbeats 30000000 in
theorem l25Cells_any (a1 : Option Addr) (n1 c1 : Nat) (cu : List CutI) (w : World) (h1 : Rd FCut w a1 n1 c1 cu) (hw : ∀ x ∈ cu, FCut.wf x) :
    Calls Tryz.prog 87 #[.slice a1 n1 c1] w (fun e w' => ∃ a' m' c', e = .returned (.slice a' m' c') ∧ Mem w.heap.size w w' [intE a' m' c' (cu.map (fun c => c.cell))]) := by
  have hM := Mem.start w
  have hrm := h1.nroom
  have HL := Lib.hid h1.len
  have HW := Lib.hid hw; clear hw
  go_enter Tryz.func87, Tryz.ntmps87
  go_wp2_with fail
  apply Mem.atWp
  · exact memA
  clear hM
  intro hM
  (try simp only [World.size_alloc, World.size_setCell, World.heap_drewN, heapDrew, Nat.add_assoc, Nat.reduceAdd, sA, List.cons_append, List.nil_append] at hM)
  go_loopw [3, 4] (fun s3 s9 wr => ∃ (k : Nat) (a' : Option Addr) (m c' : Nat), k ≤ n1 ∧ s9 = .int .i64 k ∧ s3 = .slice a' m c' ∧ Mem w.heap.size w wr [intE a' m c' ((cu.map (fun c => c.cell)).take k)]) (fun _ s9 _ => n1 - (intOf s9).toNat)
  case atStart =>
    refine ⟨0, _, 0, _, Nat.zero_le _, rfl, rfl, ?_⟩
    rw [List.take_zero]
    exact hM.toInts0
  case round =>
    clear hM
    obtain ⟨k, a', m, c', hk, rfl, rfl, hM⟩ := hrel
    by_cases hlt : k < n1
    · obtain ⟨bl, offl, rfl, -, -⟩ := h1.at' _ hlt
      obtain ⟨-, hc0, hc1⟩ := (h1.ext hM.below).cellCut hlt
      have hts := cells_take (l := cu) (k := k) (by rw [HL.out]; exact hlt)
      have hxw := (HW.out _ (getD_memV (z := CutI.zero) (by rw [HL.out]; exact hlt))).1
      obtain ⟨v, hv⟩ : ∃ v, cu.getD k CutI.zero = v := ⟨_, rfl⟩
      rw [hv] at hc0 hc1 hts hxw
      have HTS := Lib.hid hts
      have HXW := Lib.hid hxw
      have hm5 := (hM.ints .here).len
      have hfl : ((cu.map (fun c => c.cell)).take k).length ≤ k := List.length_take_le _ _
      have hm5b : m ≤ k := by omega
      obtain ⟨vf, vs⟩ := v
      dsimp only at hc0 hc1
      clear hts hxw hv hm5 hfl
      have i0 : (0 : Int) ≤ (k : Int) := by omega
      have i1 : (k : Int) < (n1 : Int) := by omega
      go_wp2_with (at_builtin; apply Mem.atL; (focus ((exact memA); done)); clear hM; intro hM; (try simp only [World.size_alloc, World.size_setCell, World.heap_drewN, heapDrew, Nat.add_assoc, Nat.reduceAdd, sA, List.cons_append, List.nil_append] at hM); refine wpList_pushI hM (fun _ => by (first | exact .here | exact .there .here)) HXW.out (by omega) rfl _ _ _ Tryz.underlying24 rfl rfl rfl ?_)
      intro a6 c6 w6 hM
      go_wp2
      go_roundw
      case rel =>
        refine ⟨k + 1, a6, m + 1, c6, by omega, by go_num, rfl, ?_⟩
        rw [HTS.out]
        first
          | exact hM
          | exact hM.pick (is := [1]) (by decide) rfl
      case measure => simp [intOf]; omega
    · obtain rfl : k = n1 := by omega
      rw [List.take_of_length_le (by rw [List.length_map, HL.out]; exact Nat.le_refl _)] at hM
      go_wp2
      go_ret
      exact ⟨a', m, c', rfl, hM⟩

end Go.Proofs.YtojfbcgfeojdfaaGreat
