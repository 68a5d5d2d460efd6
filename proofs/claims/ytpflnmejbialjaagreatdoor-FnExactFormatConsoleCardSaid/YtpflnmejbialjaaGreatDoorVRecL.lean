/-
  The records at the beginning of a text: the loop of the program.
-/
import Derived.Test.YtpflnmejbialjaaGreatDoorVRecI
/-
  The records at the beginning of a text: the loop of the program.
-/
namespace Go.Proofs.YtpflnmejbialjaaGreatDoor
set_option linter.unusedSimpArgs false
set_option linter.unusedVariables false
open Go.RowKit

theorem Tryz.info90 : (Tryz.prog.info? 90).map (fun i => (i.zero, i.size, i.bytes)) = some (some (.agg #[.string ⟨#[]⟩, .string ⟨#[]⟩]), 2, 32) := by kernel_rfl
set_option maxRecDepth 100000 in
set_option maxHeartbeats 8000000 in
theorem read_any (l : Bs) (w : World) (ht : Tab w) (hl : l.length ≤ 4194304) :
    Calls Tryz.prog 64 #[.string (bsA l)] w fun e w' => ∃ a1 c1 a2 c2, e = .returned (.tuple #[.slice a1 (openLB l).length c1, .slice a2 (openLB l).length c2]) ∧ Mem w.heap.size w w' [owE FRec 90 a1 (openLB l).length c1 (openLB l), intE a2 (openLB l).length c2 (endsB (openLB l))] := by
  have hM := Mem.start w
  have HT := Lib.hid ht; clear ht
  have S1 := bsA_size l
  obtain ⟨i0, hi, hz0, hz1, hz2⟩ := info_parts Tryz.info90
  go_enter Tryz.func64, Tryz.ntmps64
  go_wp2_with fail
  apply Mem.atWp
  · (repeat' (first | with_reducible exact hM | with_reducible exact hMp | with_reducible apply Mem.drew | with_reducible apply Mem.drewN | with_reducible apply Mem.alloc | with_reducible apply Mem.set | with_reducible exact Sto.row | ((with_reducible refine Sto.rowEq2 ?_ ?_); omega; rfl) | ((with_reducible refine Sto.rowEq ?_); omega) | with_reducible apply Sto.int | with_reducible apply Sto.there | with_reducible assumption | (unfold I64; omega) | (with_reducible (have hMx := Mem.undrew hM; exact hMx)) | (with_reducible (have hMx := Mem.undrew hMp; exact hMx))))
  clear hM
  intro hM
  (try simp only [World.size_alloc, World.size_setCell, World.heap_drewN, heapDrew, Nat.add_assoc, Nat.reduceAdd, List.setIfInBounds_toArray, List.set_cons_zero, List.set_cons_succ, List.cons_append, List.nil_append] at hM)
  go_loopw [4, 5, 6] (fun s4 s5 s6 wr => ∃ (rs : List RecB) (a1 : Option Addr) (c1 : Nat) (a2 : Option Addr) (c2 : Nat), Part l rs ∧ s6 = .int .i64 (endLB rs) ∧ s4 = .slice a1 rs.length c1 ∧ s5 = .slice a2 rs.length c2 ∧ Mem w.heap.size w wr [owE FRec 90 a1 rs.length c1 rs, intE a2 rs.length c2 (endsB rs)]) (fun _ _ s6 _ => l.length - (intOf s6).toNat)
  case atStart =>
    refine ⟨[], _, _, _, _, Part.start l, rfl, rfl, rfl, ?_⟩
    have h2 := hM.toInts (xs := []) .here rfl (by simp) (by simp)
    have h3 : Mem w.heap.size w _ [rowE w.heap.size 90 #[], intE (some ⟨w.heap.size + 1, 0, none⟩) 0 0 []] := h2.pick (is := [1, 0]) (by decide) rfl
    exact h3.toOwR
  case round =>
    clear hM
    obtain ⟨rs, a1, c1, a2, c2, hP, rfl, rfl, rfl, hM⟩ := hrel
    have hle := hP.le
    have hlen := hP.len
    have HST := Lib.hid hP.stop
    have HSP := Lib.hid (fun e n => hP.step (e := e) (n := n))
    have hE := Lib.hid (endsB_snoc rs)
    clear hP
    have g1 : (0 : Int) ≤ (endLB rs : Int) ∧ (endLB rs : Int) ≤ (l.length : Int) := ⟨by omega, by omega⟩
    have E1 : (bsA l).extract (endLB rs) l.length = bsA (l.drop (endLB rs)) := bsA_from l _
    have hdl : (l.drop (endLB rs)).length ≤ 4194304 := by rw [List.length_drop]; omega
    obtain ⟨n, hn⟩ : ∃ n, endLB rs = n := ⟨_, rfl⟩
    have HN := Lib.hid hn
    rw [hn] at HST HSP g1 E1 hdl hle ⊢
    clear hn
    generalize hrest : l.drop n = rest at HST HSP E1 hdl
    clear hrest
    cases hd : decB rs.length rest with
    | none =>
      have HR := Lib.hid (HST.out hd)
      go_wp2_with fail
      apply Mem.atA
      · (repeat' (first | with_reducible exact hM | with_reducible exact hMp | with_reducible apply Mem.drew | with_reducible apply Mem.drewN | with_reducible apply Mem.alloc | with_reducible apply Mem.set | with_reducible exact Sto.row | ((with_reducible refine Sto.rowEq2 ?_ ?_); omega; rfl) | ((with_reducible refine Sto.rowEq ?_); omega) | with_reducible apply Sto.int | with_reducible apply Sto.there | with_reducible assumption | (unfold I64; omega) | (with_reducible (have hMx := Mem.undrew hM; exact hMx)) | (with_reducible (have hMx := Mem.undrew hMp; exact hMx))))
      clear hM
      intro wst hM
      (try simp only [World.size_alloc, World.size_setCell, World.heap_drewN, heapDrew, Nat.add_assoc, Nat.reduceAdd, List.setIfInBounds_toArray, List.set_cons_zero, List.set_cons_succ, List.cons_append, List.nil_append] at hM)
      refine (decode_none hd (HT.out.ext hM.below) hdl (by omega)).mono ?_
      rintro e wc ⟨rfl, hb⟩
      replace hM := hM.ext hb
      clear hb
      go_wp2
      go_ret2
      rw [HR.out]
      exact ⟨a1, c1, a2, c2, rfl, by apply Mem.tail; (repeat' (first | with_reducible exact hM | with_reducible exact hMp | with_reducible apply Mem.drew | with_reducible apply Mem.drewN | with_reducible apply Mem.alloc | with_reducible apply Mem.set | with_reducible exact Sto.row | ((with_reducible refine Sto.rowEq2 ?_ ?_); omega; rfl) | ((with_reducible refine Sto.rowEq ?_); omega) | with_reducible apply Sto.int | with_reducible apply Sto.there | with_reducible assumption | (unfold I64; omega) | (with_reducible (have hMx := Mem.undrew hM; exact hMx)) | (with_reducible (have hMx := Mem.undrew hMp; exact hMx))))⟩
    | some p =>
      obtain ⟨⟨c, r⟩, m⟩ := p
      have HR := Lib.hid (HSP.out _ _ hd)
      have HD := Lib.hid hd
      have hm1 : 1 ≤ m := by
        obtain ⟨h1, h2, h3, h4⟩ := decB_some hd
        rw [h4]
        exact (line_len h2 h1).2
      have hm2 : m ≤ rest.length := by
        obtain ⟨h1, h2, h3, h4⟩ := decB_some hd
        have := congrArg List.length h3
        rw [List.length_append, List.length_drop] at this
        omega
      have hnm : n + m ≤ l.length := by
        have h1 := HR.out.1.le
        rw [HR.out.2.1] at h1
        exact h1
      clear hd
      go_wp2_with fail
      apply Mem.atA
      · (repeat' (first | with_reducible exact hM | with_reducible exact hMp | with_reducible apply Mem.drew | with_reducible apply Mem.drewN | with_reducible apply Mem.alloc | with_reducible apply Mem.set | with_reducible exact Sto.row | ((with_reducible refine Sto.rowEq2 ?_ ?_); omega; rfl) | ((with_reducible refine Sto.rowEq ?_); omega) | with_reducible apply Sto.int | with_reducible apply Sto.there | with_reducible assumption | (unfold I64; omega) | (with_reducible (have hMx := Mem.undrew hM; exact hMx)) | (with_reducible (have hMx := Mem.undrew hMp; exact hMx))))
      clear hM
      intro wst hM
      (try simp only [World.size_alloc, World.size_setCell, World.heap_drewN, heapDrew, Nat.add_assoc, Nat.reduceAdd, List.setIfInBounds_toArray, List.set_cons_zero, List.set_cons_succ, List.cons_append, List.nil_append] at hM)
      refine (decode_some HD.out (HT.out.ext hM.below) hdl (by omega)).mono ?_
      rintro e wc ⟨rfl, hb⟩
      replace hM := hM.ext hb
      clear hb
      have hw : IntKind.i64.wrap ((n : Int) + (m : Int)) = (n : Int) + (m : Int) := wrap_in (by omega)
      go_wp2_with (at_builtin; apply Mem.atL; (focus ((repeat' (first | with_reducible exact hM | with_reducible exact hMp | with_reducible apply Mem.drew | with_reducible apply Mem.drewN | with_reducible apply Mem.alloc | with_reducible apply Mem.set | with_reducible exact Sto.row | ((with_reducible refine Sto.rowEq2 ?_ ?_); omega; rfl) | ((with_reducible refine Sto.rowEq ?_); omega) | with_reducible apply Sto.int | with_reducible apply Sto.there | with_reducible assumption | (unfold I64; omega) | (with_reducible (have hMx := Mem.undrew hM; exact hMx)) | (with_reducible (have hMx := Mem.undrew hMp; exact hMx)))); done)); clear hM; intro hM; (try simp only [World.size_alloc, World.size_setCell, World.heap_drewN, heapDrew, Nat.add_assoc, Nat.reduceAdd, List.setIfInBounds_toArray, List.set_cons_zero, List.set_cons_succ, List.cons_append, List.nil_append] at hM); refine wpList_pushR (F := FRec) (G' := fun e' => [rowE wc.heap.size 90 #[.string (bsA c), .string (bsA r)], e', intE a2 rs.length c2 (endsB rs)]) (⟨c, r⟩ : RecB) hM (fun _ => .there .here) rfl trivial (by decide) (by show (rs.length + 1) * 2 ≤ _; omega) i0 (.agg #[.string ⟨#[]⟩, .string ⟨#[]⟩]) 32 hi hz0 hz1 hz2 rfl (by omega) rfl _ _ _ Tryz.underlying81 rfl rfl rfl ?_)
      intro a3 c3 w3 hM
      have g3 : I64 ((n : Int) + (m : Int)) := by unfold I64; omega
      go_wp2_with (at_builtin; apply Mem.atL; (focus ((repeat' (first | with_reducible exact hM | with_reducible exact hMp | with_reducible apply Mem.drew | with_reducible apply Mem.drewN | with_reducible apply Mem.alloc | with_reducible apply Mem.set | with_reducible exact Sto.row | ((with_reducible refine Sto.rowEq2 ?_ ?_); omega; rfl) | ((with_reducible refine Sto.rowEq ?_); omega) | with_reducible apply Sto.int | with_reducible apply Sto.there | with_reducible assumption | (unfold I64; omega) | (with_reducible (have hMx := Mem.undrew hM; exact hMx)) | (with_reducible (have hMx := Mem.undrew hMp; exact hMx)))); done)); clear hM; intro hM; (try simp only [World.size_alloc, World.size_setCell, World.heap_drewN, heapDrew, Nat.add_assoc, Nat.reduceAdd, List.setIfInBounds_toArray, List.set_cons_zero, List.set_cons_succ, List.cons_append, List.nil_append] at hM); refine wpList_pushI (G' := fun e' => [rowE wc.heap.size 90 #[.string (bsA c), .string (bsA r)], owE FRec 90 a3 (rs.length + 1) c3 (rs ++ [⟨c, r⟩]), e']) hM (fun _ => .there (.there .here)) g3 (by omega) rfl _ _ _ Tryz.underlying22 rfl rfl rfl ?_)
      intro a4 c4 w4 hM
      obtain ⟨hP, hn2, hl59⟩ := HR.out
      have hlq : (rs ++ [(⟨c, r⟩ : RecB)]).length = rs.length + 1 := by simp
      go_wp2
      go_roundw
      case rel =>
        refine ⟨rs ++ [⟨c, r⟩], a3, c3, a4, c4, hP, by rw [hn2]; go_num, by rw [hlq], by rw [hlq], ?_⟩
        rw [hE.out, hlq, hn2]
        have := hM.tail
        simpa using this
      case measure => simp [intOf]; omega
end Go.Proofs.YtpflnmejbialjaaGreatDoor
