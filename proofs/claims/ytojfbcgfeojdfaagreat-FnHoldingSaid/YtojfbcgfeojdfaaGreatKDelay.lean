/-
  The greatest delay: both sides.
-/
import Derived.Test.YtojfbcgfeojdfaaGreatKDoHold
import Derived.Test.YtojfbcgfeojdfaaGreatKArrD
/-
  The greatest delay: both sides.
-/
namespace Go.Proofs.YtojfbcgfeojdfaaGreat
set_option linter.unusedSimpArgs false
set_option linter.unusedVariables false
open Go.RowKit

theorem doHold_ok {W H : Int} {xs : List Int} {ph : List PhaseI} {ss : List Int} {start : Int} {cu : List CutI} {ts : List Int} (h : (doHoldR W H xs ph ss start cu ts).ok = true) : askB W H xs xs.length ph ss start = true ∧ cutsB W H xs cu = true := by
  unfold doHoldR at h
  cases h1 : askB W H xs xs.length ph ss start
  · rw [h1] at h; simp at h
  cases h2 : cutsB W H xs cu
  · rw [h1, h2] at h; simp at h
  exact ⟨rfl, rfl⟩
theorem minI_lt {a b : Int} (h : b < a) : minI a b = b := by unfold minI; rw [if_neg (by omega)]
theorem minI_ge {a b : Int} (h : ¬ b < a) : minI a b = a := by unfold minI; rw [if_pos (by omega)]

theorem l1Least_any (x y : Int) (w : World) : Calls Tryz.prog 50 #[.int .i64 x, .int .i64 y] w fun e w' => e = .returned (.int .i64 (minI x y)) ∧ w = w' := by
  by_cases h : x < y
  · have hm : minI x y = x := by unfold minI; rw [if_pos (by omega)]
    go_enter Tryz.func50, Tryz.ntmps50
    go_wp2
    go_ret
    exact ⟨by first | rfl | (rw [hm]; rfl), rfl⟩
  · have hm : minI x y = y := by unfold minI; split <;> omega
    go_enter Tryz.func50, Tryz.ntmps50
    go_wp2
    go_ret
    exact ⟨by first | rfl | (rw [hm]; rfl), rfl⟩

set_option maxRecDepth 100000 in
set_option maxHeartbeats 30000000 in
theorem implDelay_any (W H : Int) (a : Option Addr) (n c : Nat) (xs : List Int) (a1 : Option Addr) (n1 c1 : Nat) (ph : List PhaseI) (a2 : Option Addr) (n2 c2 : Nat) (ss : List Int) (start : Int) (a4 : Option Addr) (n4 c4 : Nat) (cu : List CutI) (a5 : Option Addr) (n5 c5 : Nat) (ts : List Int) (w : World) (h : Ints w a n c xs) (h1 : Rd FPhase w a1 n1 c1 ph) (h2 : Ints w a2 n2 c2 ss) (h4 : Rd FCut w a4 n4 c4 cu) (h5 : Ints w a5 n5 c5 ts) :
    Calls Tryz.prog 13 #[.agg #[.int .i64 W, .int .i64 H, .slice a n c], .slice a1 n1 c1, .slice a2 n2 c2, .int .i64 start, .slice a4 n4 c4, .slice a5 n5 c5] w (fun e w' => e = .returned (.tuple #[.int .i64 (delayR W H xs ph ss start cu ts).a, .bool (delayR W H xs ph ss start cu ts).ok]) ∧ Below w.heap.size w w') := by
  have hM := Mem.start w
  have hrm := h4.nroom
  have HXL := Lib.hid h.len
  have HL := Lib.hid h4.len
  have HOK := Lib.hid (doHold_ok (W := W) (H := H) (xs := xs) (ph := ph) (ss := ss) (start := start) (cu := cu) (ts := ts))
  obtain ⟨r, hr⟩ : ∃ r, doHoldR W H xs ph ss start cu ts = r := ⟨_, rfl⟩
  have HF := Lib.hid (show delayR W H xs ph ss start cu ts = if r.ok && r.a && decide (0 < n4) then ⟨dlyTo (arrT W.toNat n xs ss ph start) cu, true⟩ else ⟨0, false⟩ by rw [delayR, hr, h.len, h4.len])
  rw [hr] at HOK
  have HD := Lib.hid hr
  clear hr
  obtain ⟨da, dok⟩ := r
  dsimp only at HF HOK
  cases dok
  · have HR := Lib.hid (show delayR W H xs ph ss start cu ts = ⟨0, false⟩ from HF.out)
    go_enter Tryz.func13, Tryz.ntmps13
    go_wp2_with fail
    apply Mem.atA
    · exact memA
    clear hM
    intro wst hM
    (try simp only [World.size_alloc, World.size_setCell, World.heap_drewN, heapDrew, Nat.add_assoc, Nat.reduceAdd, sA, List.cons_append, List.nil_append] at hM)
    apply Calls.mono
    · (apply implHold_any) <;> (first | (show (_ : Prop); with_reducible assumption) | (apply Hid.out; with_reducible assumption) | (apply Mem.intsR hM; (repeat' (first | with_reducible exact In.here | with_reducible apply In.there)); done) | (apply Ints.ext (hb := hM.below); with_reducible assumption) | (apply Rd.ext (hb := hM.below); with_reducible assumption) | (apply Mem.row hM; (repeat' (first | with_reducible exact In.here | with_reducible apply In.there)); done) | (apply Row.ext (hb := hM.below); with_reducible assumption) | exact ⟨by omega, by omega⟩ | omega | (trace_state; fail))
    rw [HD.out]
    rintro e wc1 ⟨rfl, hb⟩
    replace hM := hM.ext hb
    clear hb
    go_wp2
    go_ret2
    exact ⟨by rw [HR.out]; rfl, (by apply Mem.below; (exact memA))⟩
  cases da
  · have HR := Lib.hid (show delayR W H xs ph ss start cu ts = ⟨0, false⟩ from HF.out)
    go_enter Tryz.func13, Tryz.ntmps13
    go_wp2_with fail
    apply Mem.atA
    · exact memA
    clear hM
    intro wst hM
    (try simp only [World.size_alloc, World.size_setCell, World.heap_drewN, heapDrew, Nat.add_assoc, Nat.reduceAdd, sA, List.cons_append, List.nil_append] at hM)
    apply Calls.mono
    · (apply implHold_any) <;> (first | (show (_ : Prop); with_reducible assumption) | (apply Hid.out; with_reducible assumption) | (apply Mem.intsR hM; (repeat' (first | with_reducible exact In.here | with_reducible apply In.there)); done) | (apply Ints.ext (hb := hM.below); with_reducible assumption) | (apply Rd.ext (hb := hM.below); with_reducible assumption) | (apply Mem.row hM; (repeat' (first | with_reducible exact In.here | with_reducible apply In.there)); done) | (apply Row.ext (hb := hM.below); with_reducible assumption) | exact ⟨by omega, by omega⟩ | omega | (trace_state; fail))
    rw [HD.out]
    rintro e wc2 ⟨rfl, hb⟩
    replace hM := hM.ext hb
    clear hb
    go_wp2
    go_ret2
    exact ⟨by rw [HR.out]; rfl, (by apply Mem.below; (exact memA))⟩
  by_cases h0 : n4 = 0
  · subst h0
    have HR := Lib.hid (show delayR W H xs ph ss start cu ts = ⟨0, false⟩ from HF.out)
    go_enter Tryz.func13, Tryz.ntmps13
    go_wp2_with fail
    apply Mem.atA
    · exact memA
    clear hM
    intro wst hM
    (try simp only [World.size_alloc, World.size_setCell, World.heap_drewN, heapDrew, Nat.add_assoc, Nat.reduceAdd, sA, List.cons_append, List.nil_append] at hM)
    apply Calls.mono
    · (apply implHold_any) <;> (first | (show (_ : Prop); with_reducible assumption) | (apply Hid.out; with_reducible assumption) | (apply Mem.intsR hM; (repeat' (first | with_reducible exact In.here | with_reducible apply In.there)); done) | (apply Ints.ext (hb := hM.below); with_reducible assumption) | (apply Rd.ext (hb := hM.below); with_reducible assumption) | (apply Mem.row hM; (repeat' (first | with_reducible exact In.here | with_reducible apply In.there)); done) | (apply Row.ext (hb := hM.below); with_reducible assumption) | exact ⟨by omega, by omega⟩ | omega | (trace_state; fail))
    rw [HD.out]
    rintro e wc3 ⟨rfl, hb⟩
    replace hM := hM.ext hb
    clear hb
    go_wp2
    go_ret2
    exact ⟨by rw [HR.out]; rfl, (by apply Mem.below; (exact memA))⟩
  have hn4 : ((n4 : Int) == 0) = false := by simp; omega
  have hd4 : decide (0 < n4) = true := by simp; omega
  obtain ⟨hask, hcut⟩ := HOK.out rfl
  rw [HXL.out] at hask
  obtain ⟨hg, hp, hs, hst⟩ := askB_true hask
  obtain ⟨-, hct, -⟩ := cutsB_true hcut
  obtain ⟨Wn, Hn, rfl, rfl, p1, p2, p3, p4, hlen, h25, hx⟩ := goodB_true hg
  have hn25 : n ≤ 25 := by rw [← HXL.out]; exact h25
  have hnp : 0 < n := by rw [← HXL.out, hlen]; exact Nat.mul_pos p1 p3
  have hW : 1 ≤ Wn ∧ Wn ≤ 5 := ⟨p1, p2⟩
  have hF := HF.out
  rw [hd4] at hF
  have hF2 : delayR Wn Hn xs ph ss start cu ts = ⟨dlyTo (arrT Wn n xs ss ph start) cu, true⟩ := hF
  have hbd := arrT_bnd (W := Wn) (n := n) (xs := xs) (ss := ss) (l := ph) (start := start) hx HXL.out hn25 hp hst
  have hlt5 := arrT_len (W := Wn) (n := n) (xs := xs) (ss := ss) (l := ph) hst.1
  have hge := fun (c : Nat) (hcn : c < n) => arrT_ge (W := Wn) (xs := xs) (ss := ss) (l := ph) hst.1 hcn
  obtain ⟨tm, htm⟩ : ∃ tm, arrT Wn n xs ss ph start = tm := ⟨_, rfl⟩
  rw [htm] at hF2 hbd hlt5 hge
  have HR := Lib.hid hF2
  have HBD := Lib.hid (fun (c : Nat) (hc : c < n) => hbd.max hn25 hc)
  have HTL := Lib.hid hlt5; have HGE := Lib.hid hge; have HTM := Lib.hid htm
  have HCI := Lib.hid (fun k (hk : k < cu.length) => cut_in hct hk)
  have HDB := Lib.hid (fun k => dly_bnd (ts := tm) (l := cu.take k) (fun c hc => by
    have hm := cut_mem hct (List.mem_of_mem_take hc)
    rw [HXL.out] at hm
    refine ⟨hge _ (by omega), hm.2.2.1, hm.2.2.2⟩))
  have HP := Lib.hid hp; have HS := Lib.hid hs; have HCT := Lib.hid hct; have HX := Lib.hid hx
  clear hg hp hs hct hlen h25 hx hask hcut hF hF2 hbd hlt5 hge htm hd4
  go_enter Tryz.func13, Tryz.ntmps13
  go_wp2_with fail
  apply Mem.atA
  · exact memA
  clear hM
  intro wst hM
  (try simp only [World.size_alloc, World.size_setCell, World.heap_drewN, heapDrew, Nat.add_assoc, Nat.reduceAdd, sA, List.cons_append, List.nil_append] at hM)
  apply Calls.mono
  · (apply implHold_any) <;> (first | (show (_ : Prop); with_reducible assumption) | (apply Hid.out; with_reducible assumption) | (apply Mem.intsR hM; (repeat' (first | with_reducible exact In.here | with_reducible apply In.there)); done) | (apply Ints.ext (hb := hM.below); with_reducible assumption) | (apply Rd.ext (hb := hM.below); with_reducible assumption) | (apply Mem.row hM; (repeat' (first | with_reducible exact In.here | with_reducible apply In.there)); done) | (apply Row.ext (hb := hM.below); with_reducible assumption) | exact ⟨by omega, by omega⟩ | omega | (trace_state; fail))
  rw [HD.out]
  rintro e wc4 ⟨rfl, hb⟩
  replace hM := hM.ext hb
  clear hb
  obtain ⟨k0, f0, l0⟩ := hM.row .here
  go_wp2_with fail
  clear k0 f0 l0
  apply Mem.atA
  · exact memA
  clear hM
  intro wst hM
  (try simp only [World.size_alloc, World.size_setCell, World.heap_drewN, heapDrew, Nat.add_assoc, Nat.reduceAdd, sA, List.cons_append, List.nil_append] at hM)
  apply Calls.mono
  · (apply arrivals_any) <;> (first | (show (_ : Prop); with_reducible assumption) | (apply Hid.out; with_reducible assumption) | (apply Mem.intsR hM; (repeat' (first | with_reducible exact In.here | with_reducible apply In.there)); done) | (apply Ints.ext (hb := hM.below); with_reducible assumption) | (apply Rd.ext (hb := hM.below); with_reducible assumption) | (apply Mem.row hM; (repeat' (first | with_reducible exact In.here | with_reducible apply In.there)); done) | (apply Row.ext (hb := hM.below); with_reducible assumption) | exact ⟨by omega, by omega⟩ | omega | (trace_state; fail))
  rintro e wc5 ⟨a6, m6, c6, rfl, hm⟩
  replace hM := hM.join hm
  clear hm
  (try simp only [World.size_alloc, World.size_setCell, World.heap_drewN, heapDrew, Nat.add_assoc, Nat.reduceAdd, sA, List.cons_append, List.nil_append] at hM)
  rw [HTM.out] at hM
  obtain rfl : n = m6 := by rw [← HTL.out]; exact (hM.ints .here).len
  obtain ⟨g, rfl, -⟩ := (hM.ints .here).head hnp
  go_wp2_with fail
  go_loopw [17, 49] (fun s17 s49 wr => ∃ k : Nat, k ≤ n4 ∧ s49 = .int .i64 k ∧ s17 = .int .i64 (dlyTo tm (cu.take k)) ∧ Mem w.heap.size w wr [intE (some ⟨g, 0, none⟩) n c6 tm, rowE w.heap.size 26 #[.int .i64 Wn, .int .i64 Hn, .slice a n c]]) (fun _ s49 _ => n4 - (intOf s49).toNat)
  case atStart => exact ⟨0, Nat.zero_le _, rfl, rfl, hM⟩
  case round =>
    clear hM
    obtain ⟨k, hk, rfl, rfl, hM⟩ := hrel
    by_cases hlt : k < n4
    · obtain ⟨bl, offl, rfl, -, -⟩ := h4.at' _ hlt
      obtain ⟨-, hc0, hc1⟩ := (h4.ext hM.below).cellCut hlt
      have hts := dly_succ (ts := tm) (l := cu) (k := k) (by rw [HL.out]; exact hlt)
      have hin := HCI.out k (by rw [HL.out]; exact hlt)
      rw [HXL.out] at hin
      have hdb := HDB.out k
      generalize dlyTo tm (cu.take k) = d at hts hdb ⊢
      obtain ⟨v, hv⟩ : ∃ v, cu.getD k CutI.zero = v := ⟨_, rfl⟩
      rw [hv] at hc0 hc1 hts hin
      obtain ⟨vc, vt⟩ := v
      dsimp only at hc0 hc1 hin hts
      obtain ⟨j0, j1, t0, t1⟩ := hin
      obtain ⟨j, rfl⟩ := Int.eq_ofNat_of_zero_le j0
      have hjn : j < n := by omega
      have hu0 := HGE.out j hjn
      have hu1 := HBD.out j hjn
      have hla : lastT tm ⟨(j : Int), vt⟩ = if tm.getD j 0 = -1 then 9999 else tm.getD j 0 - 1 := rfl
      rw [hla] at hts
      obtain ⟨u, hu⟩ : ∃ u, tm.getD j 0 = u := ⟨_, rfl⟩
      rw [hu] at hu0 hu1 hts
      have HTK := Lib.hid hts
      have HU := Lib.hid hu
      obtain ⟨d0, d1⟩ := hdb
      clear hts hla hv hu
      have i0 : (0 : Int) ≤ (k : Int) := by omega
      have i1 : (k : Int) < (n4 : Int) := by omega
      have i3 : (j : Int) < (n : Int) := by omega
      go_upto_region 9 with fail
      apply Mem.atWpA
      · exact memA
      clear hM
      intro wst hM
      (try simp only [World.size_alloc, World.size_setCell, World.heap_drewN, heapDrew, Nat.add_assoc, Nat.reduceAdd, sA, List.cons_append, List.nil_append] at hM)
      have hcell := (hM.ints (.there .here)).cellAt hjn
      rw [HU.out] at hcell
      by_cases hne : u = -1
      · subst hne
        have hw1 : IntKind.i64.wrap (9999 - vt) = 9999 - vt := wrap_in (by omega)
        by_cases hmn : 9999 - vt < d
        · have HTK2 := Lib.hid (HTK.out.trans (by rw [if_pos rfl, minI_lt hmn]))
          obtain ⟨k0, f0, l0⟩ := hM.row .here
          go_wp2
          go_roundw
          case rel =>
            refine ⟨k + 1, by omega, by go_num, by rw [HTK2.out], ?_⟩
            apply Mem.pick (is := [1, 2])
            · exact memA
            · decide
            · rfl
          case measure => simp [intOf]; omega
        · have HTK2 := Lib.hid (HTK.out.trans (by rw [if_pos rfl, minI_ge hmn]))
          obtain ⟨k0, f0, l0⟩ := hM.row .here
          go_wp2
          go_roundw
          case rel =>
            refine ⟨k + 1, by omega, by go_num, by rw [HTK2.out], ?_⟩
            apply Mem.pick (is := [1, 2])
            · exact memA
            · decide
            · rfl
          case measure => simp [intOf]; omega
      · have hw0 : IntKind.i64.wrap (u - 1) = u - 1 := wrap_in (by omega)
        have hw1 : IntKind.i64.wrap (u - 1 - vt) = u - 1 - vt := wrap_in (by omega)
        have hbe : (u != -1) = true := by simpa using hne
        have hmm : u - 1 < 9999 := by omega
        by_cases hmn : u - 1 - vt < d
        · have HTK2 := Lib.hid (HTK.out.trans (by rw [if_neg hne, minI_lt hmn]))
          obtain ⟨k0, f0, l0⟩ := hM.row .here
          go_wp2
          go_roundw
          case rel =>
            refine ⟨k + 1, by omega, by go_num, by rw [HTK2.out], ?_⟩
            apply Mem.pick (is := [1, 2])
            · exact memA
            · decide
            · rfl
          case measure => simp [intOf]; omega
        · have HTK2 := Lib.hid (HTK.out.trans (by rw [if_neg hne, minI_ge hmn]))
          obtain ⟨k0, f0, l0⟩ := hM.row .here
          go_wp2
          go_roundw
          case rel =>
            refine ⟨k + 1, by omega, by go_num, by rw [HTK2.out], ?_⟩
            apply Mem.pick (is := [1, 2])
            · exact memA
            · decide
            · rfl
          case measure => simp [intOf]; omega
    · obtain rfl : k = n4 := by omega
      have HR2 := Lib.hid (show delayR Wn Hn xs ph ss start cu ts = ⟨dlyTo tm (cu.take k), true⟩ by rw [HR.out, List.take_of_length_le (by rw [HL.out]; exact Nat.le_refl _)])
      go_wp2
      go_ret2
      exact ⟨by rw [HR2.out]; rfl, (by apply Mem.below; (exact memA))⟩

set_option maxRecDepth 100000 in
set_option maxHeartbeats 30000000 in
theorem specDelay_any (W H : Int) (a : Option Addr) (n c : Nat) (xs : List Int) (a1 : Option Addr) (n1 c1 : Nat) (ph : List PhaseI) (a2 : Option Addr) (n2 c2 : Nat) (ss : List Int) (start : Int) (a4 : Option Addr) (n4 c4 : Nat) (cu : List CutI) (a5 : Option Addr) (n5 c5 : Nat) (ts : List Int) (w : World) (h : Ints w a n c xs) (h1 : Rd FPhase w a1 n1 c1 ph) (h2 : Ints w a2 n2 c2 ss) (h4 : Rd FCut w a4 n4 c4 cu) (h5 : Ints w a5 n5 c5 ts) :
    Calls Tryz.prog 14 #[.agg #[.int .i64 W, .int .i64 H, .slice a n c], .slice a1 n1 c1, .slice a2 n2 c2, .int .i64 start, .slice a4 n4 c4, .slice a5 n5 c5] w (fun e w' => e = .returned (.tuple #[.int .i64 (delayR W H xs ph ss start cu ts).a, .bool (delayR W H xs ph ss start cu ts).ok]) ∧ Below w.heap.size w w') := by
  have hM := Mem.start w
  have hrm := h4.nroom
  have HXL := Lib.hid h.len
  have HL := Lib.hid h4.len
  have HOK := Lib.hid (doHold_ok (W := W) (H := H) (xs := xs) (ph := ph) (ss := ss) (start := start) (cu := cu) (ts := ts))
  obtain ⟨r, hr⟩ : ∃ r, doHoldR W H xs ph ss start cu ts = r := ⟨_, rfl⟩
  have HF := Lib.hid (show delayR W H xs ph ss start cu ts = if r.ok && r.a && decide (0 < n4) then ⟨dlyTo (arrT W.toNat n xs ss ph start) cu, true⟩ else ⟨0, false⟩ by rw [delayR, hr, h.len, h4.len])
  rw [hr] at HOK
  have HD := Lib.hid hr
  clear hr
  obtain ⟨da, dok⟩ := r
  dsimp only at HF HOK
  cases dok
  · have HR := Lib.hid (show delayR W H xs ph ss start cu ts = ⟨0, false⟩ from HF.out)
    go_enter Tryz.func14, Tryz.ntmps14
    go_wp2_with fail
    apply Mem.atA
    · exact memA
    clear hM
    intro wst hM
    (try simp only [World.size_alloc, World.size_setCell, World.heap_drewN, heapDrew, Nat.add_assoc, Nat.reduceAdd, sA, List.cons_append, List.nil_append] at hM)
    apply Calls.mono
    · (apply specHold_any) <;> (first | (show (_ : Prop); with_reducible assumption) | (apply Hid.out; with_reducible assumption) | (apply Mem.intsR hM; (repeat' (first | with_reducible exact In.here | with_reducible apply In.there)); done) | (apply Ints.ext (hb := hM.below); with_reducible assumption) | (apply Rd.ext (hb := hM.below); with_reducible assumption) | (apply Mem.row hM; (repeat' (first | with_reducible exact In.here | with_reducible apply In.there)); done) | (apply Row.ext (hb := hM.below); with_reducible assumption) | exact ⟨by omega, by omega⟩ | omega | (trace_state; fail))
    rw [HD.out]
    rintro e wc6 ⟨rfl, hb⟩
    replace hM := hM.ext hb
    clear hb
    go_wp2
    go_ret2
    exact ⟨by rw [HR.out]; rfl, (by apply Mem.below; (exact memA))⟩
  cases da
  · have HR := Lib.hid (show delayR W H xs ph ss start cu ts = ⟨0, false⟩ from HF.out)
    go_enter Tryz.func14, Tryz.ntmps14
    go_wp2_with fail
    apply Mem.atA
    · exact memA
    clear hM
    intro wst hM
    (try simp only [World.size_alloc, World.size_setCell, World.heap_drewN, heapDrew, Nat.add_assoc, Nat.reduceAdd, sA, List.cons_append, List.nil_append] at hM)
    apply Calls.mono
    · (apply specHold_any) <;> (first | (show (_ : Prop); with_reducible assumption) | (apply Hid.out; with_reducible assumption) | (apply Mem.intsR hM; (repeat' (first | with_reducible exact In.here | with_reducible apply In.there)); done) | (apply Ints.ext (hb := hM.below); with_reducible assumption) | (apply Rd.ext (hb := hM.below); with_reducible assumption) | (apply Mem.row hM; (repeat' (first | with_reducible exact In.here | with_reducible apply In.there)); done) | (apply Row.ext (hb := hM.below); with_reducible assumption) | exact ⟨by omega, by omega⟩ | omega | (trace_state; fail))
    rw [HD.out]
    rintro e wc7 ⟨rfl, hb⟩
    replace hM := hM.ext hb
    clear hb
    go_wp2
    go_ret2
    exact ⟨by rw [HR.out]; rfl, (by apply Mem.below; (exact memA))⟩
  by_cases h0 : n4 = 0
  · subst h0
    have HR := Lib.hid (show delayR W H xs ph ss start cu ts = ⟨0, false⟩ from HF.out)
    go_enter Tryz.func14, Tryz.ntmps14
    go_wp2_with fail
    apply Mem.atA
    · exact memA
    clear hM
    intro wst hM
    (try simp only [World.size_alloc, World.size_setCell, World.heap_drewN, heapDrew, Nat.add_assoc, Nat.reduceAdd, sA, List.cons_append, List.nil_append] at hM)
    apply Calls.mono
    · (apply specHold_any) <;> (first | (show (_ : Prop); with_reducible assumption) | (apply Hid.out; with_reducible assumption) | (apply Mem.intsR hM; (repeat' (first | with_reducible exact In.here | with_reducible apply In.there)); done) | (apply Ints.ext (hb := hM.below); with_reducible assumption) | (apply Rd.ext (hb := hM.below); with_reducible assumption) | (apply Mem.row hM; (repeat' (first | with_reducible exact In.here | with_reducible apply In.there)); done) | (apply Row.ext (hb := hM.below); with_reducible assumption) | exact ⟨by omega, by omega⟩ | omega | (trace_state; fail))
    rw [HD.out]
    rintro e wc8 ⟨rfl, hb⟩
    replace hM := hM.ext hb
    clear hb
    go_wp2
    go_ret2
    exact ⟨by rw [HR.out]; rfl, (by apply Mem.below; (exact memA))⟩
  have hn4 : ((n4 : Int) == 0) = false := by simp; omega
  have hd4 : decide (0 < n4) = true := by simp; omega
  obtain ⟨hask, hcut⟩ := HOK.out rfl
  rw [HXL.out] at hask
  obtain ⟨hg, hp, hs, hst⟩ := askB_true hask
  obtain ⟨-, hct, -⟩ := cutsB_true hcut
  obtain ⟨Wn, Hn, rfl, rfl, p1, p2, p3, p4, hlen, h25, hx⟩ := goodB_true hg
  have hn25 : n ≤ 25 := by rw [← HXL.out]; exact h25
  have hnp : 0 < n := by rw [← HXL.out, hlen]; exact Nat.mul_pos p1 p3
  have hW : 1 ≤ Wn ∧ Wn ≤ 5 := ⟨p1, p2⟩
  have hF := HF.out
  rw [hd4] at hF
  have hF2 : delayR Wn Hn xs ph ss start cu ts = ⟨dlyTo (arrT Wn n xs ss ph start) cu, true⟩ := hF
  have hbd := arrT_bnd (W := Wn) (n := n) (xs := xs) (ss := ss) (l := ph) (start := start) hx HXL.out hn25 hp hst
  have hlt5 := arrT_len (W := Wn) (n := n) (xs := xs) (ss := ss) (l := ph) hst.1
  have hge := fun (c : Nat) (hcn : c < n) => arrT_ge (W := Wn) (xs := xs) (ss := ss) (l := ph) hst.1 hcn
  obtain ⟨tm, htm⟩ : ∃ tm, arrT Wn n xs ss ph start = tm := ⟨_, rfl⟩
  rw [htm] at hF2 hbd hlt5 hge
  have HR := Lib.hid hF2
  have HBD := Lib.hid (fun (c : Nat) (hc : c < n) => hbd.max hn25 hc)
  have HTL := Lib.hid hlt5; have HGE := Lib.hid hge; have HTM := Lib.hid htm
  have HCI := Lib.hid (fun k (hk : k < cu.length) => cut_in hct hk)
  have HDB := Lib.hid (fun k => dly_bnd (ts := tm) (l := cu.take k) (fun c hc => by
    have hm := cut_mem hct (List.mem_of_mem_take hc)
    rw [HXL.out] at hm
    refine ⟨hge _ (by omega), hm.2.2.1, hm.2.2.2⟩))
  have HP := Lib.hid hp; have HS := Lib.hid hs; have HCT := Lib.hid hct; have HX := Lib.hid hx
  clear hg hp hs hct hlen h25 hx hask hcut hF hF2 hbd hlt5 hge htm hd4
  go_enter Tryz.func14, Tryz.ntmps14
  go_wp2_with fail
  apply Mem.atA
  · exact memA
  clear hM
  intro wst hM
  (try simp only [World.size_alloc, World.size_setCell, World.heap_drewN, heapDrew, Nat.add_assoc, Nat.reduceAdd, sA, List.cons_append, List.nil_append] at hM)
  apply Calls.mono
  · (apply specHold_any) <;> (first | (show (_ : Prop); with_reducible assumption) | (apply Hid.out; with_reducible assumption) | (apply Mem.intsR hM; (repeat' (first | with_reducible exact In.here | with_reducible apply In.there)); done) | (apply Ints.ext (hb := hM.below); with_reducible assumption) | (apply Rd.ext (hb := hM.below); with_reducible assumption) | (apply Mem.row hM; (repeat' (first | with_reducible exact In.here | with_reducible apply In.there)); done) | (apply Row.ext (hb := hM.below); with_reducible assumption) | exact ⟨by omega, by omega⟩ | omega | (trace_state; fail))
  rw [HD.out]
  rintro e wc9 ⟨rfl, hb⟩
  replace hM := hM.ext hb
  clear hb
  obtain ⟨k0, f0, l0⟩ := hM.row .here
  go_wp2_with fail
  clear k0 f0 l0
  apply Mem.atA
  · exact memA
  clear hM
  intro wst hM
  (try simp only [World.size_alloc, World.size_setCell, World.heap_drewN, heapDrew, Nat.add_assoc, Nat.reduceAdd, sA, List.cons_append, List.nil_append] at hM)
  apply Calls.mono
  · (apply l4Arrivals_any) <;> (first | (show (_ : Prop); with_reducible assumption) | (apply Hid.out; with_reducible assumption) | (apply Mem.intsR hM; (repeat' (first | with_reducible exact In.here | with_reducible apply In.there)); done) | (apply Ints.ext (hb := hM.below); with_reducible assumption) | (apply Rd.ext (hb := hM.below); with_reducible assumption) | (apply Mem.row hM; (repeat' (first | with_reducible exact In.here | with_reducible apply In.there)); done) | (apply Row.ext (hb := hM.below); with_reducible assumption) | exact ⟨by omega, by omega⟩ | omega | (trace_state; fail))
  rintro e wc10 ⟨a6, m6, c6, rfl, hm⟩
  replace hM := hM.join hm
  clear hm
  (try simp only [World.size_alloc, World.size_setCell, World.heap_drewN, heapDrew, Nat.add_assoc, Nat.reduceAdd, sA, List.cons_append, List.nil_append] at hM)
  rw [HTM.out] at hM
  obtain rfl : n = m6 := by rw [← HTL.out]; exact (hM.ints .here).len
  obtain ⟨g, rfl, -⟩ := (hM.ints .here).head hnp
  go_wp2_with fail
  go_loopw [17, 18] (fun s17 s49 wr => ∃ k : Nat, k ≤ n4 ∧ s49 = .int .i64 k ∧ s17 = .int .i64 (dlyTo tm (cu.take k)) ∧ Mem w.heap.size w wr [intE (some ⟨g, 0, none⟩) n c6 tm, rowE w.heap.size 26 #[.int .i64 Wn, .int .i64 Hn, .slice a n c]]) (fun _ s49 _ => n4 - (intOf s49).toNat)
  case atStart => exact ⟨0, Nat.zero_le _, rfl, rfl, hM⟩
  case round =>
    clear hM
    obtain ⟨k, hk, rfl, rfl, hM⟩ := hrel
    by_cases hlt : k < n4
    · obtain ⟨bl, offl, rfl, -, -⟩ := h4.at' _ hlt
      obtain ⟨-, hc0, hc1⟩ := (h4.ext hM.below).cellCut hlt
      have hts := dly_succ (ts := tm) (l := cu) (k := k) (by rw [HL.out]; exact hlt)
      have hin := HCI.out k (by rw [HL.out]; exact hlt)
      rw [HXL.out] at hin
      have hdb := HDB.out k
      generalize dlyTo tm (cu.take k) = d at hts hdb ⊢
      obtain ⟨v, hv⟩ : ∃ v, cu.getD k CutI.zero = v := ⟨_, rfl⟩
      rw [hv] at hc0 hc1 hts hin
      obtain ⟨vc, vt⟩ := v
      dsimp only at hc0 hc1 hin hts
      obtain ⟨j0, j1, t0, t1⟩ := hin
      obtain ⟨j, rfl⟩ := Int.eq_ofNat_of_zero_le j0
      have hjn : j < n := by omega
      have hu0 := HGE.out j hjn
      have hu1 := HBD.out j hjn
      have hla : lastT tm ⟨(j : Int), vt⟩ = if tm.getD j 0 = -1 then 9999 else tm.getD j 0 - 1 := rfl
      rw [hla] at hts
      obtain ⟨u, hu⟩ : ∃ u, tm.getD j 0 = u := ⟨_, rfl⟩
      rw [hu] at hu0 hu1 hts
      have HTK := Lib.hid hts
      have HU := Lib.hid hu
      obtain ⟨d0, d1⟩ := hdb
      clear hts hla hv hu
      have i0 : (0 : Int) ≤ (k : Int) := by omega
      have i1 : (k : Int) < (n4 : Int) := by omega
      have i3 : (j : Int) < (n : Int) := by omega
      have hcell := (hM.ints .here).cellAt hjn
      rw [HU.out] at hcell
      by_cases hne : u = -1
      · subst hne
        have hw1 : IntKind.i64.wrap (9999 - vt) = 9999 - vt := wrap_in (by omega)
        have HTK2 := Lib.hid (HTK.out.trans (by rw [if_pos rfl]))
        go_wp2_with fail
        apply Mem.atA
        · exact memA
        clear hM
        intro wst hM
        (try simp only [World.size_alloc, World.size_setCell, World.heap_drewN, heapDrew, Nat.add_assoc, Nat.reduceAdd, sA, List.cons_append, List.nil_append] at hM)
        apply Calls.mono
        · (apply l1Least_any) <;> (first | (show (_ : Prop); with_reducible assumption) | (apply Hid.out; with_reducible assumption) | (apply Mem.intsR hM; (repeat' (first | with_reducible exact In.here | with_reducible apply In.there)); done) | (apply Ints.ext (hb := hM.below); with_reducible assumption) | (apply Rd.ext (hb := hM.below); with_reducible assumption) | (apply Mem.row hM; (repeat' (first | with_reducible exact In.here | with_reducible apply In.there)); done) | (apply Row.ext (hb := hM.below); with_reducible assumption) | exact ⟨by omega, by omega⟩ | omega | (trace_state; fail))
        rintro e wc11 ⟨rfl, rfl⟩
        go_wp2
        go_roundw
        case rel =>
          refine ⟨k + 1, by omega, by go_num, by rw [HTK2.out], ?_⟩
          apply Mem.pick (is := [0, 1])
          · exact memA
          · decide
          · rfl
        case measure => simp [intOf]; omega
      · have hw0 : IntKind.i64.wrap (u - 1) = u - 1 := wrap_in (by omega)
        have hw1 : IntKind.i64.wrap (u - 1 - vt) = u - 1 - vt := wrap_in (by omega)
        have hbe : (u != -1) = true := by simpa using hne
        have HTK2 := Lib.hid (HTK.out.trans (by rw [if_neg hne]))
        go_wp2_with fail
        apply Mem.atA
        · exact memA
        clear hM
        intro wst hM
        (try simp only [World.size_alloc, World.size_setCell, World.heap_drewN, heapDrew, Nat.add_assoc, Nat.reduceAdd, sA, List.cons_append, List.nil_append] at hM)
        apply Calls.mono
        · (apply l1Least_any) <;> (first | (show (_ : Prop); with_reducible assumption) | (apply Hid.out; with_reducible assumption) | (apply Mem.intsR hM; (repeat' (first | with_reducible exact In.here | with_reducible apply In.there)); done) | (apply Ints.ext (hb := hM.below); with_reducible assumption) | (apply Rd.ext (hb := hM.below); with_reducible assumption) | (apply Mem.row hM; (repeat' (first | with_reducible exact In.here | with_reducible apply In.there)); done) | (apply Row.ext (hb := hM.below); with_reducible assumption) | exact ⟨by omega, by omega⟩ | omega | (trace_state; fail))
        rintro e wc12 ⟨rfl, rfl⟩
        go_wp2
        go_roundw
        case rel =>
          refine ⟨k + 1, by omega, by go_num, by rw [HTK2.out], ?_⟩
          apply Mem.pick (is := [0, 1])
          · exact memA
          · decide
          · rfl
        case measure => simp [intOf]; omega
    · obtain rfl : k = n4 := by omega
      have HR2 := Lib.hid (show delayR Wn Hn xs ph ss start cu ts = ⟨dlyTo tm (cu.take k), true⟩ by rw [HR.out, List.take_of_length_le (by rw [HL.out]; exact Nat.le_refl _)])
      go_wp2
      go_ret2
      exact ⟨by rw [HR2.out]; rfl, (by apply Mem.below; (exact memA))⟩

end Go.Proofs.YtojfbcgfeojdfaaGreat
