/-
  The records at the beginning of a text, as the reference reads them.
-/
import Derived.Test.YtpflnmejbialjaaGreatDoorVRecR
import Derived.Test.YtpflnmejbialjaaGreatDoorVAt
import Derived.Test.YtpflnmejbialjaaGreatDoorVLogL
/-
  The records at the beginning of a text, as the reference reads them.
-/
namespace Go.Proofs.YtpflnmejbialjaaGreatDoor
set_option linter.unusedSimpArgs false
set_option linter.unusedVariables false
open Go.RowKit

theorem Tryz.infoO90 : (Tryz.prog.info? 90).map (fun i => (i.zero, i.size, i.bytes)) = some (some (.agg #[.string ⟨#[]⟩, .string ⟨#[]⟩]), 2, 32) := by kernel_rfl
theorem decB_no {k : Nat} {s : Bs} (h : hasB 10 s = false) : decB k s = none := by rw [decB, h]; rfl
theorem decB_yes {k : Nat} {s : Bs} (h : hasB 10 s = true) (hk : k ≤ 59) : decB k s = (readS k (befB 10 s)).map fun e => (e, (befB 10 s).length + 1) := by rw [decB, h, ← readI_readS hk]; rfl

set_option maxRecDepth 100000 in
set_option maxHeartbeats 8000000 in
theorem l27Open_any (l : Bs) (w : World) (hl : l.length ≤ 4194304) :
    Calls Tryz.prog 49 #[.string (bsA l)] w fun e w' => ∃ a1 c1, e = .returned (.tuple #[.slice a1 (openLB l).length c1, .int .i64 (endLB (openLB l))]) ∧ Mem w.heap.size w w' [owE FRec 90 a1 (openLB l).length c1 (openLB l)] := by
  have hM := Mem.start w
  have S1 := bsA_size
  obtain ⟨i0, hi, hz0, hz1, hz2⟩ := info_parts Tryz.infoO90
  go_enter Tryz.func49, Tryz.ntmps49
  go_wp2_with fail
  apply Mem.atWp
  · (repeat' (first | with_reducible exact hM | with_reducible exact hMp | with_reducible apply Mem.drew | with_reducible apply Mem.drewN | with_reducible apply Mem.alloc | with_reducible apply Mem.set | with_reducible exact Sto.row | ((with_reducible refine Sto.rowEq2 ?_ ?_); omega; rfl) | ((with_reducible refine Sto.rowEq ?_); omega) | with_reducible apply Sto.int | with_reducible apply Sto.there | with_reducible assumption | (unfold I64; omega) | (with_reducible (have hMx := Mem.undrew hM; exact hMx)) | (with_reducible (have hMx := Mem.undrew hMp; exact hMx))))
  clear hM
  intro hM
  (try simp only [World.size_alloc, World.size_setCell, World.heap_drewN, heapDrew, Nat.add_assoc, Nat.reduceAdd, List.setIfInBounds_toArray, List.set_cons_zero, List.set_cons_succ, List.cons_append, List.nil_append] at hM)
  go_loopw [4, 5] (fun s4 s5 wr => ∃ (rs : List RecB) (a1 : Option Addr) (c1 : Nat), Part l rs ∧ s5 = .int .i64 (endLB rs) ∧ s4 = .slice a1 rs.length c1 ∧ Mem w.heap.size w wr [owE FRec 90 a1 rs.length c1 rs]) (fun _ s5 _ => l.length - (intOf s5).toNat)
  case atStart =>
    refine ⟨[], _, _, Part.start l, rfl, rfl, ?_⟩
    exact hM.toOwR
  case round =>
    clear hM
    obtain ⟨rs, a1, c1, hP, rfl, rfl, hM⟩ := hrel
    have hle := hP.le
    have hlen := hP.len
    have HST := Lib.hid hP.stop
    have HSP := Lib.hid (fun e n => hP.step (e := e) (n := n))
    have HNI := Lib.hid hP.nil
    have HFU := Lib.hid hP.full
    clear hP
    obtain ⟨n, hn⟩ : ∃ n, endLB rs = n := ⟨_, rfl⟩
    have HN := Lib.hid hn
    rw [hn] at HST HSP HNI hle ⊢
    clear hn
    by_cases hlt : n < l.length
    rotate_left
    · obtain rfl : n = l.length := by omega
      have HR := Lib.hid (HNI.out rfl)
      go_wp2
      go_ret2
      rw [HR.out, HN.out]
      exact ⟨a1, c1, rfl, by (repeat' (first | with_reducible exact hM | with_reducible exact hMp | with_reducible apply Mem.drew | with_reducible apply Mem.drewN | with_reducible apply Mem.alloc | with_reducible apply Mem.set | with_reducible exact Sto.row | ((with_reducible refine Sto.rowEq2 ?_ ?_); omega; rfl) | ((with_reducible refine Sto.rowEq ?_); omega) | with_reducible apply Sto.int | with_reducible apply Sto.there | with_reducible assumption | (unfold I64; omega) | (with_reducible (have hMx := Mem.undrew hM; exact hMx)) | (with_reducible (have hMx := Mem.undrew hMp; exact hMx))))⟩
    by_cases h60 : rs.length < 60
    rotate_left
    · have HR := Lib.hid (HFU.out (by omega))
      go_wp2
      go_ret2
      rw [HR.out, HN.out]
      exact ⟨a1, c1, rfl, by (repeat' (first | with_reducible exact hM | with_reducible exact hMp | with_reducible apply Mem.drew | with_reducible apply Mem.drewN | with_reducible apply Mem.alloc | with_reducible apply Mem.set | with_reducible exact Sto.row | ((with_reducible refine Sto.rowEq2 ?_ ?_); omega; rfl) | ((with_reducible refine Sto.rowEq ?_); omega) | with_reducible apply Sto.int | with_reducible apply Sto.there | with_reducible assumption | (unfold I64; omega) | (with_reducible (have hMx := Mem.undrew hM; exact hMx)) | (with_reducible (have hMx := Mem.undrew hMp; exact hMx))))⟩
    clear HNI HFU
    have g1 : (0 : Int) ≤ (n : Int) ∧ (n : Int) ≤ (l.length : Int) := ⟨by omega, by omega⟩
    have E1 : (bsA l).extract n l.length = bsA (l.drop n) := bsA_from l _
    have hdl : (l.drop n).length ≤ 4194304 := by rw [List.length_drop]; omega
    have hnl := Lib.hid (show n + (l.drop n).length = l.length by rw [List.length_drop]; omega)
    generalize l.drop n = rest at HST HSP E1 hdl hnl
    go_wp2_with fail
    apply Mem.atA
    · (repeat' (first | with_reducible exact hM | with_reducible exact hMp | with_reducible apply Mem.drew | with_reducible apply Mem.drewN | with_reducible apply Mem.alloc | with_reducible apply Mem.set | with_reducible exact Sto.row | ((with_reducible refine Sto.rowEq2 ?_ ?_); omega; rfl) | ((with_reducible refine Sto.rowEq ?_); omega) | with_reducible apply Sto.int | with_reducible apply Sto.there | with_reducible assumption | (unfold I64; omega) | (with_reducible (have hMx := Mem.undrew hM; exact hMx)) | (with_reducible (have hMx := Mem.undrew hMp; exact hMx))))
    clear hM
    intro wst hM
    (try simp only [World.size_alloc, World.size_setCell, World.heap_drewN, heapDrew, Nat.add_assoc, Nat.reduceAdd, List.setIfInBounds_toArray, List.set_cons_zero, List.set_cons_succ, List.cons_append, List.nil_append] at hM)
    (first | refine (l1Split_any rest 10 10 rfl _ hdl).mono ?_)
    rintro e wc1 ⟨a2, c2, rfl, hm⟩
    replace hM := hM.join hm
    clear hm
    (try simp only [World.size_alloc, World.size_setCell, World.heap_drewN, heapDrew, Nat.add_assoc, Nat.reduceAdd, List.setIfInBounds_toArray, List.set_cons_zero, List.set_cons_succ, List.cons_append, List.nil_append] at hM)
    obtain ⟨g2, rfl, hn2, hc2⟩ := split_head (hM.ow .here)
    have hsp := Lib.hid (split_two (b := 10) (l := rest))
    generalize (splitB 10 rest).length = n2 at hn2 hM hsp ⊢
    have hbl := bef_len 10 rest
    go_wp2_with fail
    clear hc2
    apply Mem.atA
    · (repeat' (first | with_reducible exact hM | with_reducible exact hMp | with_reducible apply Mem.drew | with_reducible apply Mem.drewN | with_reducible apply Mem.alloc | with_reducible apply Mem.set | with_reducible exact Sto.row | ((with_reducible refine Sto.rowEq2 ?_ ?_); omega; rfl) | ((with_reducible refine Sto.rowEq ?_); omega) | with_reducible apply Sto.int | with_reducible apply Sto.there | with_reducible assumption | (unfold I64; omega) | (with_reducible (have hMx := Mem.undrew hM; exact hMx)) | (with_reducible (have hMx := Mem.undrew hMp; exact hMx))))
    clear hM
    intro wst hM
    (try simp only [World.size_alloc, World.size_setCell, World.heap_drewN, heapDrew, Nat.add_assoc, Nat.reduceAdd, List.setIfInBounds_toArray, List.set_cons_zero, List.set_cons_succ, List.cons_append, List.nil_append] at hM)
    refine (l27Read_any rs.length (befB 10 rest) _ (by omega) (by omega)).mono ?_
    rintro e wc ⟨c, r, ok, rfl, hb, hrd⟩
    replace hM := hM.ext hb
    clear hb
    have HRD := Lib.hid hrd; clear hrd
    cases hs : hasB 10 rest
    · have h2 : n2 < 2 := hsp.out.2 hs
      have HR := Lib.hid (HST.out (decB_no hs))
      clear hs
      go_wp2
      go_ret2
      rw [HR.out, HN.out]
      exact ⟨a1, c1, rfl, by apply Mem.tail; apply Mem.tail; (repeat' (first | with_reducible exact hM | with_reducible exact hMp | with_reducible apply Mem.drew | with_reducible apply Mem.drewN | with_reducible apply Mem.alloc | with_reducible apply Mem.set | with_reducible exact Sto.row | ((with_reducible refine Sto.rowEq2 ?_ ?_); omega; rfl) | ((with_reducible refine Sto.rowEq ?_); omega) | with_reducible apply Sto.int | with_reducible apply Sto.there | with_reducible assumption | (unfold I64; omega) | (with_reducible (have hMx := Mem.undrew hM; exact hMx)) | (with_reducible (have hMx := Mem.undrew hMp; exact hMx))))⟩
    have h2 : ¬ n2 < 2 := fun h => by have := hsp.out.1 h; rw [hs] at this; cases this
    have HD := Lib.hid (decB_yes (k := rs.length) hs (by omega))
    clear hs
    cases ok
    · have HR := Lib.hid (HST.out (by rw [HD.out, HRD.out]; rfl))
      go_wp2
      go_ret2
      rw [HR.out, HN.out]
      exact ⟨a1, c1, rfl, by apply Mem.tail; apply Mem.tail; (repeat' (first | with_reducible exact hM | with_reducible exact hMp | with_reducible apply Mem.drew | with_reducible apply Mem.drewN | with_reducible apply Mem.alloc | with_reducible apply Mem.set | with_reducible exact Sto.row | ((with_reducible refine Sto.rowEq2 ?_ ?_); omega; rfl) | ((with_reducible refine Sto.rowEq ?_); omega) | with_reducible apply Sto.int | with_reducible apply Sto.there | with_reducible assumption | (unfold I64; omega) | (with_reducible (have hMx := Mem.undrew hM; exact hMx)) | (with_reducible (have hMx := Mem.undrew hMp; exact hMx))))⟩
    have HR := Lib.hid (HSP.out ⟨c, r⟩ ((befB 10 rest).length + 1) (by rw [HD.out, HRD.out]; rfl))
    have hnm : n + ((befB 10 rest).length + 1) ≤ l.length := by
      have h1 := HR.out.1.le
      rw [HR.out.2.1] at h1
      exact h1
    go_wp2_with (at_builtin; apply Mem.atL; (focus ((repeat' (first | with_reducible exact hM | with_reducible exact hMp | with_reducible apply Mem.drew | with_reducible apply Mem.drewN | with_reducible apply Mem.alloc | with_reducible apply Mem.set | with_reducible exact Sto.row | ((with_reducible refine Sto.rowEq2 ?_ ?_); omega; rfl) | ((with_reducible refine Sto.rowEq ?_); omega) | with_reducible apply Sto.int | with_reducible apply Sto.there | with_reducible assumption | (unfold I64; omega) | (with_reducible (have hMx := Mem.undrew hM; exact hMx)) | (with_reducible (have hMx := Mem.undrew hMp; exact hMx)))); done)); clear hM; intro hM; (try simp only [World.size_alloc, World.size_setCell, World.heap_drewN, heapDrew, Nat.add_assoc, Nat.reduceAdd, List.setIfInBounds_toArray, List.set_cons_zero, List.set_cons_succ, List.cons_append, List.nil_append] at hM); refine wpList_pushR (F := FRec) (G' := fun e' => [rowE wc.heap.size 90 #[.string (bsA c), .string (bsA r)], owE FStr 9 (some ⟨g2, 0, none⟩) n2 c2 (splitB 10 rest), e']) (⟨c, r⟩ : RecB) hM (fun _ => .there (.there .here)) rfl trivial (by decide) (by show (rs.length + 1) * 2 ≤ _; omega) i0 (.agg #[.string ⟨#[]⟩, .string ⟨#[]⟩]) 32 hi hz0 hz1 hz2 rfl (by omega) rfl _ _ _ Tryz.underlying81 rfl rfl rfl ?_)
    intro a3 c3 w3 hM
    obtain ⟨g3, e3, -, hc3⟩ := split_head (hM.ow (.there .here))
    obtain rfl : g2 = g3 := by simpa using e3
    have hw1 : IntKind.i64.wrap ((n : Int) + ((befB 10 rest).length : Int)) = (n : Int) + ((befB 10 rest).length : Int) := wrap_in (by omega)
    have hw2 : IntKind.i64.wrap ((n : Int) + ((befB 10 rest).length : Int) + 1) = (n : Int) + ((befB 10 rest).length : Int) + 1 := wrap_in (by omega)
    obtain ⟨hP, hn3, hl59⟩ := HR.out
    have hlq : (rs ++ [(⟨c, r⟩ : RecB)]).length = rs.length + 1 := by simp
    have HN3 := Lib.hid hn3; have HLQ := Lib.hid hlq; have HP := Lib.hid hP
    clear hn3 hlq hP
    generalize befB 10 rest = bf at hc3 HN3 hw1 hw2 hnm hbl ⊢
    go_wp2
    go_roundw
    case rel =>
      refine ⟨rs ++ [⟨c, r⟩], a3, c3, HP.out, by rw [HN3.out]; go_num, by rw [HLQ.out], ?_⟩
      rw [HLQ.out]
      exact hM.tail.tail
    case measure => simp [intOf]; omega
end Go.Proofs.YtpflnmejbialjaaGreatDoor
