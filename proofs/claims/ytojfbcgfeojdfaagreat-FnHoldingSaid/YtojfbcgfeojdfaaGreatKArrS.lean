/-
  Arrival times of the reference.
-/
import Derived.Test.YtojfbcgfeojdfaaGreatKRise
import Derived.Test.YtojfbcgfeojdfaaGreatKNear4
import Derived.Test.YtojfbcgfeojdfaaGreatKMkr
/-
  Arrival times of the reference.
-/
namespace Go.Proofs.YtojfbcgfeojdfaaGreat
set_option linter.unusedSimpArgs false
set_option linter.unusedVariables false
open Go.RowKit

theorem beg0_succ {k : Nat} {xs ss : List Int} {start : Int} : beg0 (k + 1) xs ss start = beg0 k xs ss start ++ [if brn xs k && hasI ss k then start else -1] := by
  unfold beg0
  rw [List.range_succ, List.map_append]
  rfl
theorem beg0_length {k : Nat} {xs ss : List Int} {start : Int} : (beg0 k xs ss start).length = k := by simp [beg0]
section
variable {W n : Nat} {xs ss : List Int} {l : List PhaseI} {start : Int} {ts : List Int}
/-- a shorter time is stored -/
theorem relaxI (hx : ∀ x ∈ xs, 0 ≤ x ∧ x ≤ 20) (hl : xs.length = n) (hn : n ≤ 25) (hb : BegTI W n xs ss l start ts) (hd : BndT n ts) {a b : Nat} (ha : a < n) (hbn : b < n) (hta : ts.getD a 0 ≠ -1) (hbb : brn xs b = true) (hnr : nearN W a b = true) (hlt : ts.getD b 0 = -1 ∨ donI W xs l a b (ts.getD a 0) < ts.getD b 0) :
    BegTI W n xs ss l start (ts.set b (donI W xs l a b (ts.getD a 0))) ∧ BndT n (ts.set b (donI W xs l a b (ts.getD a 0))) ∧ sumT (ts.set b (donI W xs l a b (ts.getD a 0))) n < sumT ts n := by
  have h1 := donI_le (W := W) (l := l) hx (a := a) (b := b) (by omega) (by omega) (ts.getD a 0)
  have h2 := donI_ge (W := W) (xs := xs) (l := l) a b (ts.getD a 0)
  have h3 := hd.le a ha
  have h4 : 0 ≤ ts.getD a 0 := by
    rcases hb.is a ha with e | e
    · exact absurd e hta
    · exact e.1
  have h5 := relax_sum hb.len hn hd hbn (v := donI W xs l a b (ts.getD a 0)) (by omega) (by omega) (by
    rcases hlt with e | e
    · exact .inl e
    · exact .inr ⟨by omega, e⟩)
  exact ⟨BegT.relax hb (fun a b t => donI_ge a b t) ha hbn hta hbb hnr hlt, h5.2, h5.1⟩
theorem near_ne {W a b : Nat} (h : nearN W a b = true) : a ≠ b := by
  rintro rfl
  unfold nearN apI dI at h
  simp at h
end

set_option maxRecDepth 100000 in
set_option maxHeartbeats 30000000 in
theorem l4Arrivals_any (W Hn : Nat) (a : Option Addr) (n c : Nat) (xs : List Int) (a1 : Option Addr) (n1 c1 : Nat) (ph : List PhaseI) (a2 : Option Addr) (n2 c2 : Nat) (ss : List Int) (start : Int) (w : World) (h : Ints w a n c xs) (h1 : Rd FPhase w a1 n1 c1 ph) (h2 : Ints w a2 n2 c2 ss) (hnp : 0 < n) (hn25 : n ≤ 25) (hW : 1 ≤ W ∧ W ≤ 5) (hx : ∀ x ∈ xs, 0 ≤ x ∧ x ≤ 20) (hp : phasesB ph = true) (hst : 0 ≤ start ∧ start ≤ 1000) :
    Calls Tryz.prog 49 #[.agg #[.int .i64 W, .int .i64 Hn, .slice a n c], .slice a1 n1 c1, .slice a2 n2 c2, .int .i64 start] w (fun e w' => ∃ a' m' c', e = .returned (.slice a' m' c') ∧ Mem w.heap.size w w' [intE a' m' c' (arrT W n xs ss ph start)]) := by
  have hM := Mem.start w
  have HL := Lib.hid h.len
  have HX := Lib.hid hx; have HP := Lib.hid hp
  clear hx hp
  go_enter Tryz.func49, Tryz.ntmps49
  go_wp2_with fail
  apply Mem.atWpA
  · exact memA
  clear hM
  intro wst hM
  (try simp only [World.size_alloc, World.size_setCell, World.heap_drewN, heapDrew, Nat.add_assoc, Nat.reduceAdd, sA, List.cons_append, List.nil_append] at hM)
  replace hM := hM.toInts (xs := []) .here rfl (by simp) (by simp)
  go_loopw [9, 10] (fun s9 s10 wr => ∃ (k : Nat) (a' : Option Addr) (c' : Nat), k ≤ n ∧ s10 = .int .i64 k ∧ s9 = .slice a' k c' ∧ Mem w.heap.size w wr [intE a' k c' (beg0 k xs ss start), rowE w.heap.size 26 #[.int .i64 W, .int .i64 Hn, .slice a n c]]) (fun _ s10 _ => n - (intOf s10).toNat)
  case atStart => exact ⟨0, _, _, Nat.zero_le _, rfl, rfl, hM⟩
  case round =>
    clear hM
    obtain ⟨k, a', c', hk, rfl, rfl, hM⟩ := hrel
    by_cases hlt : k < n
    · obtain ⟨bx, offx, rfl, -, -⟩ := h.at' _ hlt
      have hcx := (h.ext hM.below).get hlt
      have hsu := beg0_succ (k := k) (xs := xs) (ss := ss) (start := start)
      obtain ⟨v, hv⟩ : ∃ v, xs.getD k 0 = v := ⟨_, rfl⟩
      obtain ⟨q, hq⟩ : ∃ q, hasI ss (k : Int) = q := ⟨_, rfl⟩
      rw [brn, hv, hq] at hsu
      rw [hv] at hcx
      have HSU := Lib.hid hsu; have HQ := Lib.hid hq
      clear hsu hv hq
      have i0 : (0 : Int) ≤ (k : Int) := by omega
      have i1 : (k : Int) < (n : Int) := by omega
      obtain ⟨k1, f1, l1⟩ := hM.row (.there .here)
      by_cases hv0 : 0 < v
      rotate_left
      · have HV := Lib.hid (decide_eq_false hv0)
        go_wp2_with (at_builtin; apply Mem.atL; (focus ((exact memA); done)); clear hM hcx k1 f1 l1; intro hM; (try simp only [World.size_alloc, World.size_setCell, World.heap_drewN, heapDrew, Nat.add_assoc, Nat.reduceAdd, sA, List.cons_append, List.nil_append] at hM); refine wpList_pushI hM (fun _ => .here) (by unfold I64; omega) (by omega) rfl _ _ _ Tryz.underlying24 rfl rfl rfl ?_)
        intro a6 c6 w6 hM
        go_wp2
        go_roundw
        case rel =>
          refine ⟨k + 1, a6, c6, by omega, by go_num, rfl, ?_⟩
          rw [HSU.out, HV.out]
          exact hM
        case measure => simp [intOf]; omega
      have HV := Lib.hid (decide_eq_true hv0)
      go_wp2_with fail
      apply Mem.atA
      · exact memA
      clear hM
      intro wst hM
      (try simp only [World.size_alloc, World.size_setCell, World.heap_drewN, heapDrew, Nat.add_assoc, Nat.reduceAdd, sA, List.cons_append, List.nil_append] at hM)
      apply Calls.mono
      · (apply l1Has_any) <;> (first | (show (_ : Prop); with_reducible assumption) | (apply Hid.out; with_reducible assumption) | (apply Mem.intsR hM; (repeat' (first | with_reducible exact In.here | with_reducible apply In.there)); done) | (apply Ints.ext (hb := hM.below); with_reducible assumption) | (apply Rd.ext (hb := hM.below); with_reducible assumption) | (apply Mem.row hM; (repeat' (first | with_reducible exact In.here | with_reducible apply In.there)); done) | (apply Row.ext (hb := hM.below); with_reducible assumption) | exact ⟨by omega, by omega⟩ | omega | (trace_state; fail))
      rw [HQ.out]
      rintro e wc1 ⟨rfl, rfl⟩
      clear k1 f1 l1 hcx
      cases q
      · go_wp2_with (at_builtin; apply Mem.atL; (focus ((exact memA); done)); clear hM; intro hM; (try simp only [World.size_alloc, World.size_setCell, World.heap_drewN, heapDrew, Nat.add_assoc, Nat.reduceAdd, sA, List.cons_append, List.nil_append] at hM); refine wpList_pushI hM (fun _ => .here) (by unfold I64; omega) (by omega) rfl _ _ _ Tryz.underlying24 rfl rfl rfl ?_)
        intro a6 c6 w6 hM
        go_wp2
        go_roundw
        case rel =>
          refine ⟨k + 1, a6, c6, by omega, by go_num, rfl, ?_⟩
          rw [HSU.out, HV.out]
          exact hM
        case measure => simp [intOf]; omega
      · go_wp2_with (at_builtin; apply Mem.atL; (focus ((exact memA); done)); clear hM; intro hM; (try simp only [World.size_alloc, World.size_setCell, World.heap_drewN, heapDrew, Nat.add_assoc, Nat.reduceAdd, sA, List.cons_append, List.nil_append] at hM); refine wpList_pushI hM (fun _ => .here) (by unfold I64; omega) (by omega) rfl _ _ _ Tryz.underlying24 rfl rfl rfl ?_)
        intro a6 c6 w6 hM
        go_wp2
        go_roundw
        case rel =>
          refine ⟨k + 1, a6, c6, by omega, by go_num, rfl, ?_⟩
          rw [HSU.out, HV.out]
          exact hM
        case measure => simp [intOf]; omega
    · obtain rfl : k = n := by omega
      obtain ⟨k1, f1, l1⟩ := hM.row (.there .here)
      obtain ⟨g, rfl, -⟩ := (hM.ints .here).head hnp
      go_wp2_with fail
      clear k1 f1 l1
      go_loopg [11] 130000 (fun gh s11 wr => ∃ (ts : List Int) (ag : Bool), s11 = .bool ag ∧ sumT ts k + (if ag then 1 else 0) ≤ gh ∧ BegTI W k xs ss ph start ts ∧ BndT k ts ∧ (ag = false → ∀ a b, a < k → b < k → edgeI W xs ph ts a b) ∧ Mem w.heap.size w wr [intE (some ⟨g, 0, none⟩) k c' ts, rowE w.heap.size 26 #[.int .i64 W, .int .i64 Hn, .slice a k c]])
      case atStart =>
        have hb0 := beg0_bnd (n := k) (xs := xs) (ss := ss) hst.2
        exact ⟨_, true, rfl, by have := sumT_le beg0_length hn25 hb0; simp only [if_true]; omega, beg0_ok hst.1, hb0, fun e => by simp at e, hM⟩
      case round =>
        clear hM
        obtain ⟨ts, ag, rfl, hgh, hbeg, hbnd, hedg, hM⟩ := hrel
        cases ag
        · have HD := Lib.hid (BegTI.done HP.out hbeg (hedg rfl))
          clear hbeg hbnd hedg hgh
          go_wp2
          go_ret
          refine ⟨_, k, c', rfl, ?_⟩
          rw [HD.out]
          exact hM.first
        obtain ⟨G1, hG1⟩ : ∃ G1, gk - 1 = G1 := ⟨_, rfl⟩
        simp only [if_true] at hgh
        have hgs : sumT ts k ≤ G1 := by omega
        have hgp : G1 + 1 ≤ gk := by omega
        have HBEG := Lib.hid hbeg; have HBND := Lib.hid hbnd; have HGS := Lib.hid hgs; have HGP := Lib.hid hgp
        clear hedg hgh hbeg hbnd hG1 hgs hgp
        go_wp2_with fail
        go_loopg [11, 12] 100 (fun gh s11 s12 wr => ∃ (ts : List Int) (ag : Bool) (ca : Nat), ca ≤ k ∧ k - ca ≤ gh ∧ s11 = .bool ag ∧ s12 = .int .i64 ca ∧ sumT ts k + (if ag then 1 else 0) ≤ G1 ∧ BegTI W k xs ss ph start ts ∧ BndT k ts ∧ (ag = false → ∀ a b, a < ca → b < k → edgeI W xs ph ts a b) ∧ Mem w.heap.size w wr [intE (some ⟨g, 0, none⟩) k c' ts, rowE w.heap.size 26 #[.int .i64 W, .int .i64 Hn, .slice a k c]])
        case atStart => exact ⟨ts, false, 0, Nat.zero_le _, by omega, rfl, rfl, by have := HGS.out; simpa using this, HBEG.out, HBND.out, fun _ a b h => by omega, hM⟩
        case round =>
          clear hM
          obtain ⟨ts, ag, ca, hca, hgh, rfl, rfl, hsum, hbeg, hbnd, hedg, hM⟩ := hrel
          by_cases hlt : ca < k
          rotate_left
          · obtain rfl : ca = k := by omega
            have HA := Lib.hid hbeg; have HB := Lib.hid hbnd; have HE := Lib.hid hedg; have HS := Lib.hid hsum
            clear hbeg hbnd hedg hsum
            go_wp2
            go_roundg G1
            case measure => have := HGP.out; omega
            case rel => exact ⟨ts, ag, rfl, HS.out, HA.out, HB.out, HE.out, hM⟩
          have hcell := (hM.ints .here).cellAt hlt
          obtain ⟨ta, hta⟩ : ∃ x, ts.getD ca 0 = x := ⟨_, rfl⟩
          rw [hta] at hcell
          have HTA := Lib.hid hta
          clear hta
          have i0 : (0 : Int) ≤ (ca : Int) := by omega
          have i1 : (ca : Int) < (k : Int) := by omega
          by_cases hn1 : ta = -1
          · have hne : (ta == -1) = true := by simpa using hn1
            have HBE := Lib.hid hbeg; have HBN := Lib.hid hbnd; have HS := Lib.hid hsum
            have HED := Lib.hid (show ag = false → ∀ a b, a < ca + 1 → b < k → edgeI W xs ph ts a b from fun e a b ha hb => by
              by_cases e2 : a = ca
              · subst e2
                intro h1
                exact absurd (HTA.out.trans hn1) h1
              · exact hedg e a b (by omega) hb)
            clear hbeg hbnd hedg hsum hn1
            go_wp2
            go_roundg (gk - 1)
            case measure => omega
            case rel => exact ⟨ts, ag, ca + 1, by omega, by omega, rfl, by go_num, HS.out, HBE.out, HBN.out, HED.out, hM⟩
          have hne : (ta == -1) = false := by simpa using hn1
          have HNA := Lib.hid (show ts.getD ca 0 ≠ -1 by rw [HTA.out]; exact hn1)
          have HBE := Lib.hid hbeg; have HBN := Lib.hid hbnd; have HS := Lib.hid hsum; have HED := Lib.hid hedg
          clear hbeg hbnd hedg hsum hn1
          obtain ⟨k1, f1, l1⟩ := hM.row (.there .here)
          go_wp2_with fail
          clear k1 f1 l1
          apply Mem.atA
          · exact memA
          clear hM
          intro wst hM
          (try simp only [World.size_alloc, World.size_setCell, World.heap_drewN, heapDrew, Nat.add_assoc, Nat.reduceAdd, sA, List.cons_append, List.nil_append] at hM)
          apply Calls.mono
          · (apply l2Near_any W Hn a k c xs ca) <;> (first | (show (_ : Prop); with_reducible assumption) | (apply Hid.out; with_reducible assumption) | (apply Mem.intsR hM; (repeat' (first | with_reducible exact In.here | with_reducible apply In.there)); done) | (apply Ints.ext (hb := hM.below); with_reducible assumption) | (apply Rd.ext (hb := hM.below); with_reducible assumption) | (apply Mem.row hM; (repeat' (first | with_reducible exact In.here | with_reducible apply In.there)); done) | (apply Row.ext (hb := hM.below); with_reducible assumption) | exact ⟨by omega, by omega⟩ | omega | (trace_state; fail))
          rintro e wc2 ⟨a7, m7, c7, rfl, hm⟩
          replace hM := hM.join hm
          clear hm
          (try simp only [World.size_alloc, World.size_setCell, World.heap_drewN, heapDrew, Nat.add_assoc, Nat.reduceAdd, sA, List.cons_append, List.nil_append] at hM)
          clear hcell
          obtain ⟨ds, hds⟩ : ∃ ds, cellsN k (nearN W ca) = ds := ⟨_, rfl⟩
          rw [hds] at hM
          have HDN := Lib.hid (show ∀ d ∈ ds, ∃ m : Nat, d = m ∧ m < k ∧ nearN W ca m = true from fun d hd => by rw [← hds] at hd; obtain ⟨m, e, h1, h2⟩ := cellsN_mem.1 hd; exact ⟨m, e, h1, h2⟩)
          have HDA := Lib.hid (show ∀ m : Nat, m < k → nearN W ca m = true → ∃ j, j < ds.length ∧ ds.getD j 0 = (m : Int) from fun m h1 h2 => by
            have hm : (m : Int) ∈ ds := by rw [← hds]; exact cellsN_mem.2 ⟨m, rfl, h1, h2⟩
            obtain ⟨j, hj, e⟩ := List.getElem_of_mem hm
            exact ⟨j, hj, by simp [List.getD, hj, e]⟩)
          have hml := (hM.ints .here).len
          have hmr := (hM.ints .here).room
          have HML := Lib.hid hml
          have hm25 : m7 ≤ 25 := by rw [← hml, ← hds]; exact Nat.le_trans (cellsN_length _ _) hn25
          obtain ⟨G2, hG2⟩ : ∃ G2, gk - 1 = G2 := ⟨_, rfl⟩
          have HG2 := Lib.hid (show k - (ca + 1) ≤ G2 ∧ G2 < gk by omega)
          clear hds hml hG2 hgh
          go_wp2_with fail
          go_loopg [11, 14] 100 (fun gh s11 s14 wr => ∃ (ts : List Int) (ag : Bool) (j : Nat), j ≤ m7 ∧ m7 - j ≤ gh ∧ s11 = .bool ag ∧ s14 = .int .i64 j ∧ sumT ts k + (if ag then 1 else 0) ≤ G1 ∧ BegTI W k xs ss ph start ts ∧ BndT k ts ∧ ts.getD ca 0 ≠ -1 ∧ (ag = false → (∀ a b, a < ca → b < k → edgeI W xs ph ts a b) ∧ ∀ i, i < j → edgeI W xs ph ts ca (ds.getD i 0).toNat) ∧ Mem w.heap.size w wr [intE a7 m7 c7 ds, intE (some ⟨g, 0, none⟩) k c' ts, rowE w.heap.size 26 #[.int .i64 W, .int .i64 Hn, .slice a k c]])
          case atStart => exact ⟨ts, ag, 0, Nat.zero_le _, by omega, rfl, rfl, HS.out, HBE.out, HBN.out, HNA.out, fun e => ⟨HED.out e, fun i hi => by omega⟩, hM⟩
          case round =>
            clear hM HS HBE HBN HNA HED HTA HBEG HBND HGS
            obtain ⟨ts, ag, j, hj, hgh, rfl, rfl, hsum, hbeg, hbnd, hna, hedg, hM⟩ := hrel
            by_cases hlj : j < m7
            rotate_left
            · obtain rfl : j = m7 := by omega
              have HA := Lib.hid hbeg; have HB := Lib.hid hbnd; have HS := Lib.hid hsum
              have HE := Lib.hid (show ag = false → ∀ a b, a < ca + 1 → b < k → edgeI W xs ph ts a b from fun e a b ha hb => by
                obtain ⟨e1, e2⟩ := hedg e
                by_cases e3 : a = ca
                · subst e3
                  intro h1 h2 h3
                  obtain ⟨i, hi, hd⟩ := HDA.out b hb h3
                  have h4 := e2 i (by rw [← HML.out]; exact hi)
                  rw [hd, Int.toNat_natCast] at h4
                  exact h4 h1 h2 h3
                · exact e1 a b (by omega) hb)
              clear hbeg hbnd hedg hsum hna
              go_wp2
              go_roundg G2
              case measure => exact HG2.out.2
              case rel => exact ⟨ts, ag, ca + 1, by omega, HG2.out.1, rfl, by go_num, HS.out, HA.out, HB.out, HE.out, hM.tail⟩
            obtain ⟨gd, rfl, -⟩ := (hM.ints .here).head (by omega)
            have hjl : j < ds.length := by rw [HML.out]; exact hlj
            obtain ⟨b, hd, hbn, hnb⟩ := HDN.out _ (getD_mem hjl)
            have hcd := (hM.ints .here).cellAt hlj
            rw [hd] at hcd
            have HD := Lib.hid hd
            have HNB := Lib.hid hnb
            clear hjl hd hnb
            obtain ⟨bx, offx, rfl, -, -⟩ := h.at' _ hbn
            have hcx := (h.ext hM.below).get hbn
            have hx0 := HX.out _ (getD_mem (xs := xs) (k := b) (by rw [HL.out]; exact hbn))
            obtain ⟨v, hv⟩ : ∃ v, xs.getD b 0 = v := ⟨_, rfl⟩
            rw [hv] at hcx hx0
            have HBV := Lib.hid (show brn xs b = decide (0 < v) by rw [brn, hv])
            clear hv
            have j0 : (0 : Int) ≤ (j : Int) := by omega
            have j1 : (j : Int) < (m7 : Int) := by omega
            have m0 : (0 : Int) ≤ (b : Int) := by omega
            have m1 : (b : Int) < (k : Int) := by omega
            obtain ⟨k2, f2, l2⟩ := hM.row (.there (.there .here))
            by_cases hv0 : v = 0
            · have hve : (v == 0) = true := by simpa using hv0
              have HA := Lib.hid hbeg; have HB := Lib.hid hbnd; have HS := Lib.hid hsum; have HN := Lib.hid hna
              have HE := Lib.hid (show ag = false → (∀ a b, a < ca → b < k → edgeI W xs ph ts a b) ∧ ∀ i, i < j + 1 → edgeI W xs ph ts ca (ds.getD i 0).toNat from fun e => ⟨(hedg e).1, fun i hi => by
                by_cases e2 : i = j
                · subst e2
                  rw [HD.out, Int.toNat_natCast]
                  intro _ hbb _
                  rw [HBV.out, hv0] at hbb
                  exact absurd hbb (by decide)
                · exact (hedg e).2 i (by omega)⟩)
              clear hbeg hbnd hedg hsum hna hv0
              go_wp2
              go_roundg (gk - 1)
              case measure => omega
              case rel => exact ⟨ts, ag, j + 1, by omega, by omega, rfl, by go_num, HS.out, HA.out, HB.out, HN.out, HE.out, hM⟩
            have hve : (v == 0) = false := by simpa using hv0
            have HBB := Lib.hid (show brn xs b = true by rw [HBV.out]; exact decide_eq_true (by omega))
            have HA := Lib.hid hbeg; have HB := Lib.hid hbnd; have HS := Lib.hid hsum; have HN := Lib.hid hna; have HE := Lib.hid hedg
            have hta0 : 0 ≤ ts.getD ca 0 ∧ ts.getD ca 0 ≤ 4000 := by
              refine ⟨?_, hbnd.max hn25 hlt⟩
              rcases hbeg.is ca hlt with e | e
              · exact absurd e hna
              · exact e.1
            have hwk := wkI_bound (W := W) HX.out (a := ca) (b := b) (by rw [HL.out]; exact hlt) (by rw [HL.out]; exact hbn)
            have hxw : I64 (donI W xs ph ca b (ts.getD ca 0)) := by
              have h1 := donI_le (W := W) (l := ph) HX.out (a := ca) (b := b) (by rw [HL.out]; exact hlt) (by rw [HL.out]; exact hbn) (ts.getD ca 0)
              have h2 := donI_ge (W := W) (xs := xs) (l := ph) ca b (ts.getD ca 0)
              unfold I64
              omega
            have HXW := Lib.hid hxw
            obtain ⟨wk, hwk'⟩ : ∃ x, wkI W xs ca b = x := ⟨_, rfl⟩
            rw [hwk'] at hwk
            have HWK := Lib.hid hwk'
            obtain ⟨ta, hta⟩ : ∃ x, ts.getD ca 0 = x := ⟨_, rfl⟩
            rw [hta] at hta0
            have HTA := Lib.hid hta
            obtain ⟨x, hx⟩ : ∃ x, doneT (spd ph) ta wk = x := ⟨_, rfl⟩
            have HDX := Lib.hid hx
            have HXX := Lib.hid (show donI W xs ph ca b (ts.getD ca 0) = x by rw [donI, HWK.out, HTA.out]; exact hx)
            obtain ⟨y, hy⟩ : ∃ y, ts.getD b 0 = y := ⟨_, rfl⟩
            have HY := Lib.hid hy
            clear hbeg hbnd hedg hsum hna hv0 hxw hwk' hta hx hy
            go_wp2_with fail
            apply Mem.atWpA
            · exact memA
            clear hM
            intro wst hM
            (try simp only [World.size_alloc, World.size_setCell, World.heap_drewN, heapDrew, Nat.add_assoc, Nat.reduceAdd, sA, List.cons_append, List.nil_append] at hM)
            clear hcd hcx k2 f2 l2
            refine AtT.startA hM hM 10 (by kernel_rfl) ?_
            clear hM
            intro wd hM
            have hS := hM
            refine AtT.tk 0 ?_ 74 ?_ hS ?_
            rotate_left
            · (intro wS hSw; (try dsimp only at hSw); go_simp; (try rw [if_neg (by omega)]); try with_reducible rfl)
            simp only [Act.put, sA]
            refine AtT.tk 1 ?_ 75 ?_ hS ?_
            rotate_left
            · (intro wS hSw; (try dsimp only at hSw); go_simp; (try rw [if_neg (by omega)]); try with_reducible rfl)
            simp only [Act.put, sA]
            refine AtT.tk 2 ?_ 76 ?_ hS ?_
            rotate_left
            · (intro wS hSw; (try dsimp only at hSw); go_simp; (try rw [if_neg (by omega)]); try with_reducible rfl)
            simp only [Act.put, sA]
            refine AtT.tk 3 ?_ 77 ?_ hS ?_
            rotate_left
            · (intro wS hSw; (try dsimp only at hSw); have kr0 := (Mem.row hSw (.there (.there .here))).cell; have hca2 := (hSw.ints (.there .here)).cellAt hlt; rw [HTA.out] at hca2; go_simp; (try rw [if_neg (by omega)]); try with_reducible rfl)
            simp only [Act.put, sA]
            refine AtT.tk 4 ?_ 78 ?_ hS ?_
            rotate_left
            · (intro wS hSw; (try dsimp only at hSw); have kr0 := (Mem.row hSw (.there (.there .here))).cell; have hca2 := (hSw.ints (.there .here)).cellAt hlt; rw [HTA.out] at hca2; go_simp; (try rw [if_neg (by omega)]); try with_reducible rfl)
            simp only [Act.put, sA]
            refine AtT.tk 5 ?_ 79 ?_ hS ?_
            rotate_left
            · (intro wS hSw; (try dsimp only at hSw); have kr0 := (Mem.row hSw (.there (.there .here))).cell; have hca2 := (hSw.ints (.there .here)).cellAt hlt; rw [HTA.out] at hca2; go_simp; (try rw [if_neg (by omega)]); try with_reducible rfl)
            simp only [Act.put, sA]
            refine AtT.tk 6 ?_ 80 ?_ hS ?_
            rotate_left
            · (intro wS hSw; (try dsimp only at hSw); go_simp; (try rw [if_neg (by omega)]); try with_reducible rfl)
            simp only [Act.put, sA]
            refine AtT.tk 7 ?_ 81 ?_ hS ?_
            rotate_left
            · (intro wS hSw; (try dsimp only at hSw); go_simp; (try rw [if_neg (by omega)]); try with_reducible rfl)
            simp only [Act.put, sA]
            refine AtT.only (i := 8) (by kernel_rfl) rfl rfl ?_
            intro K hK
            go_simp
            apply Calls.mono
            · (apply l4Work_any W Hn _ k c xs ca b) <;> (first | (show (_ : Prop); with_reducible assumption) | (apply Hid.out; with_reducible assumption) | (apply Mem.intsR hM; (repeat' (first | with_reducible exact In.here | with_reducible apply In.there)); done) | (apply Ints.ext (hb := hM.below); with_reducible assumption) | (apply Rd.ext (hb := hM.below); with_reducible assumption) | (apply Mem.row hM; (repeat' (first | with_reducible exact In.here | with_reducible apply In.there)); done) | (apply Row.ext (hb := hM.below); with_reducible assumption) | exact ⟨by omega, by omega⟩ | omega | (trace_state; fail))
            rw [HWK.out]
            rintro e w3 ⟨rfl, hb⟩
            replace hM := hM.ext hb
            clear hb
            try dsimp only
            refine hK.out _ _ (hM) ?_
            clear hK K hS
            have hS := hM
            refine AtT.only (i := 9) (by kernel_rfl) rfl rfl ?_
            intro K hK
            go_simp
            apply Calls.mono
            · (apply l4Done_any) <;> (first | (show (_ : Prop); with_reducible assumption) | (apply Hid.out; with_reducible assumption) | (apply Mem.intsR hM; (repeat' (first | with_reducible exact In.here | with_reducible apply In.there)); done) | (apply Ints.ext (hb := hM.below); with_reducible assumption) | (apply Rd.ext (hb := hM.below); with_reducible assumption) | (apply Mem.row hM; (repeat' (first | with_reducible exact In.here | with_reducible apply In.there)); done) | (apply Row.ext (hb := hM.below); with_reducible assumption) | exact ⟨by omega, by omega⟩ | omega | (trace_state; fail))
            rw [HDX.out]
            rintro e w3 ⟨rfl, hb⟩
            replace hM := hM.ext hb
            clear hb
            try dsimp only
            refine hK.out _ _ (hM) ?_
            clear hK K hS
            have hS := hM
            refine AtT.last (by kernel_rfl) rfl (by kernel_rfl) ?_
            intro K hK
            clear hS
            go_simp
            refine hK.out _ _ ?_
            clear hK K
            have hcb := (hM.ints (.there .here)).cellAt hbn
            rw [HY.out] at hcb
            have hfb := (hM.ints (.there .here)).freeAt b
            by_cases hlx : y = -1 ∨ x < y
            · have HR := Lib.hid (relaxI HX.out HL.out hn25 HA.out HB.out hlt hbn HN.out HBB.out HNB.out (by rw [HXX.out, HY.out]; exact hlx))
              have hr := HR.out
              rw [HXX.out] at hr
              have HR2 := Lib.hid hr
              have HN2 := Lib.hid (show (ts.set b x).getD ca 0 ≠ -1 by rw [set_get' (near_ne HNB.out)]; exact HN.out)
              have HXI := Lib.hid (show I64 x by rw [← HXX.out]; exact HXW.out)
              clear hr HR
              have hsp : (y == -1) = true ∨ ((y == -1) = false ∧ x < y) := by
                by_cases e : y = -1
                · exact .inl (by simpa using e)
                · exact .inr ⟨by simpa using e, by omega⟩
              rcases hsp with hy1 | ⟨hy1, hy2⟩
              all_goals
                go_wp2
                go_roundg (gk - 1)
                case measure => omega
                case rel =>
                  have hxi : I64 x := HXI.out
                  refine ⟨ts.set b x, true, j + 1, by omega, by omega, rfl, by go_num, ?_, HR2.out.1, HR2.out.2.1, HN2.out, fun e => by simp at e, ?_⟩
                  · have h1 := HR2.out.2.2
                    have h2 := HS.out
                    simp only [if_true]
                    omega
                  · exact memA
            · have hy1 : (y == -1) = false := by simp; omega
              have hy2 : ¬ x < y := by omega
              have HE2 := Lib.hid (show ag = false → (∀ a b, a < ca → b < k → edgeI W xs ph ts a b) ∧ ∀ i, i < j + 1 → edgeI W xs ph ts ca (ds.getD i 0).toNat from fun e => ⟨(HE.out e).1, fun i hi => by
                by_cases e2 : i = j
                · subst e2
                  rw [HD.out, Int.toNat_natCast]
                  intro _ _ _
                  rw [HY.out, HXX.out]
                  omega
                · exact (HE.out e).2 i (by omega)⟩)
              clear hlx
              go_wp2
              go_roundg (gk - 1)
              case measure => omega
              case rel => exact ⟨ts, ag, j + 1, by omega, by omega, rfl, by go_num, HS.out, HA.out, HB.out, HN.out, HE2.out, hM⟩
end Go.Proofs.YtojfbcgfeojdfaaGreat
