/-
  Logs, the program's side.
-/
import Derived.Test.YtpflnmejbialjaaGreatDoorVRecL
/-
  Logs, the program's side.
-/
namespace Go.Proofs.YtpflnmejbialjaaGreatDoor
set_option linter.unusedSimpArgs false
set_option linter.unusedVariables false
open Go.RowKit

theorem ends_bound (rs : List RecB) (s : Bs) (h : rs = openLB s) (hs : s.length ≤ 4194304) : ∀ x ∈ startsB rs, 0 ≤ x ∧ x ≤ 4194304 := by
  intro x hx
  subst h
  simp only [startsB, List.mem_map, List.mem_range] at hx
  obtain ⟨j, hj, rfl⟩ := hx
  have h1 := endLB_append ((openLB s).take j) ((openLB s).drop j)
  rw [List.take_append_drop] at h1
  have h2 := endLB_le s
  omega
theorem i64_zero : ∀ x ∈ [(0 : Int)], I64 x := by
  intro x hx
  obtain rfl := List.mem_singleton.1 hx
  unfold I64
  omega
theorem any_takeV {xs : List Int} {p : Int → Bool} {k : Nat} (hk : k < xs.length) : (xs.take (k + 1)).any p = ((xs.take k).any p || p (xs.getD k 0)) := by
  rw [List.take_succ_eq_append_getElem hk, List.any_append]
  simp [List.getD, hk]

set_option maxRecDepth 100000 in
set_option maxHeartbeats 8000000 in
theorem records_any (D P : Bs) (c : Int) (w : World) (ht : Tab w) (hl : D.length + P.length ≤ 4194304) :
    Calls Tryz.prog 56 #[.agg #[.string (bsA D), .string (bsA P), .int .i64 c]] w fun e w' => ∃ a1 c1, e = .returned (.tuple #[.slice a1 (openLB (D ++ P)).length c1, .bool (okI D P c)]) ∧ Mem w.heap.size w w' [owE FRec 90 a1 (openLB (D ++ P)).length c1 (openLB (D ++ P))] := by
  have hM := Mem.start w
  have HT := Lib.hid ht; clear ht
  have S1 := bsA_size
  have S2 := bsA_app
  have hcat : ¬ 9223372036854775807 < D.length + P.length := by omega
  have hll : (D ++ P).length ≤ 4194304 := by rw [List.length_append]; exact hl
  have HO := Lib.hid (okI_starts D P c)
  have HE := Lib.hid (ends_bound (openLB (D ++ P)) (D ++ P) rfl hll)
  have hrl := (open_pre (D ++ P)).2.2
  go_enter Tryz.func56, Tryz.ntmps56
  go_wp2_with fail
  apply Mem.atA
  · (repeat' (first | with_reducible exact hM | with_reducible exact hMp | with_reducible apply Mem.drew | with_reducible apply Mem.drewN | with_reducible apply Mem.alloc | with_reducible apply Mem.set | with_reducible exact Sto.row | ((with_reducible refine Sto.rowEq2 ?_ ?_); omega; rfl) | ((with_reducible refine Sto.rowEq ?_); omega) | with_reducible apply Sto.int | with_reducible apply Sto.there | with_reducible assumption | (unfold I64; omega) | (with_reducible (have hMx := Mem.undrew hM; exact hMx)) | (with_reducible (have hMx := Mem.undrew hMp; exact hMx))))
  clear hM
  intro wst hM
  (try simp only [World.size_alloc, World.size_setCell, World.heap_drewN, heapDrew, Nat.add_assoc, Nat.reduceAdd, List.setIfInBounds_toArray, List.set_cons_zero, List.set_cons_succ, List.cons_append, List.nil_append] at hM)
  (first | refine (read_any (D ++ P) _ (HT.out.ext hM.below) hll).mono ?_)
  rintro e wc1 ⟨a1, c1, a2, c2, rfl, hm⟩
  replace hM := hM.join hm
  clear hm
  (try simp only [World.size_alloc, World.size_setCell, World.heap_drewN, heapDrew, Nat.add_assoc, Nat.reduceAdd, List.setIfInBounds_toArray, List.set_cons_zero, List.set_cons_succ, List.cons_append, List.nil_append] at hM)
  generalize hrs : openLB (D ++ P) = rs at HO HE hrl hM ⊢
  have HRS := Lib.hid hrs; clear hrs
  obtain ⟨i0, hi, hz0, hz1, hz2⟩ := info_parts Tryz.info3
  have hsl := startsB_length rs
  have HSE := Lib.hid (starts_ends rs)
  have HSL := Lib.hid (starts_last rs)
  go_wp2_with (at_builtin; apply Mem.atL; (focus ((repeat' (first | with_reducible exact hM | with_reducible exact hMp | with_reducible apply Mem.drew | with_reducible apply Mem.drewN | with_reducible apply Mem.alloc | with_reducible apply Mem.set | with_reducible exact Sto.row | ((with_reducible refine Sto.rowEq2 ?_ ?_); omega; rfl) | ((with_reducible refine Sto.rowEq ?_); omega) | with_reducible apply Sto.int | with_reducible apply Sto.there | with_reducible assumption | (unfold I64; omega) | (with_reducible (have hMx := Mem.undrew hM; exact hMx)) | (with_reducible (have hMx := Mem.undrew hMp; exact hMx)))); done)); clear hM; intro hM; (try simp only [World.size_alloc, World.size_setCell, World.heap_drewN, heapDrew, Nat.add_assoc, Nat.reduceAdd, List.setIfInBounds_toArray, List.set_cons_zero, List.set_cons_succ, List.cons_append, List.nil_append] at hM); replace hM := hM.toInts (xs := [0]) .here rfl i64_zero (by simp); refine wpList_appendI rfl (.tmp 21) (.tmp 22) 22 rfl 3 i0 Tryz.underlying22 hi hz0 hz1 hz2 w.heap.size _ 1 1 [0] rfl (hM.ints .here).row a2 rs.length c2 (endsB rs) rfl (hM.intsR (.there (.there .here))) ?c2 hM.size ?_)
  case c2 => omega
  intro a3 c3 w3 hrow hg hbl
  rw [← HSE.out] at hrow
  obtain ⟨n, hn⟩ : ∃ n, 1 + rs.length = n := ⟨_, rfl⟩
  rw [hn] at hrow ⊢
  have hO : Own w.heap.size w3 a3 n c3 (startsB rs) := ⟨by omega, by omega, fun x hx => by have := HE.out x hx; unfold I64; omega, hrow⟩
  replace hM := hM.appended .here hO hg (fun k hk => by simpa using hbl k hk)
  clear hO hrow hg hbl
  obtain ⟨k3, f3, l3⟩ := hM.row (.there (.there (.there .here)))
  go_wp2_with fail
  clear k3 f3 l3
  apply Mem.atWpA
  · (repeat' (first | with_reducible exact hM | with_reducible exact hMp | with_reducible apply Mem.drew | with_reducible apply Mem.drewN | with_reducible apply Mem.alloc | with_reducible apply Mem.set | with_reducible exact Sto.row | ((with_reducible refine Sto.rowEq2 ?_ ?_); omega; rfl) | ((with_reducible refine Sto.rowEq ?_); omega) | with_reducible apply Sto.int | with_reducible apply Sto.there | with_reducible assumption | (unfold I64; omega) | (with_reducible (have hMx := Mem.undrew hM; exact hMx)) | (with_reducible (have hMx := Mem.undrew hMp; exact hMx))))
  clear hM
  intro wst hM
  (try simp only [World.size_alloc, World.size_setCell, World.heap_drewN, heapDrew, Nat.add_assoc, Nat.reduceAdd, List.setIfInBounds_toArray, List.set_cons_zero, List.set_cons_succ, List.cons_append, List.nil_append] at hM)
  have hI := hM.intsR .here
  have hnp : 0 < n := by omega
  obtain ⟨b3, off3, rfl, hb3, hcell⟩ := hI.at' 0 hnp
  clear hI
  have HC := Lib.hid hcell; clear hcell
  have hn8 : n ≤ 61 := by omega
  obtain ⟨kl, fl, ll⟩ := hM.row (.there (.there (.there .here)))
  go_loop [8, 26] (fun s8 s26 => ∃ k : Nat, k ≤ n ∧ s26 = .int .i64 k ∧ s8 = .bool (((startsB rs).take k).any fun x => x == (D.length : Int))) (fun _ s26 => n - (intOf s26).toNat)
  case atStart => exact ⟨0, Nat.zero_le _, rfl, rfl⟩
  case round =>
    obtain ⟨k, hk, rfl, rfl⟩ := hrel
    by_cases hlt : k < n
    · have hck := HC.out k hlt
      have hts := any_takeV (xs := startsB rs) (p := fun x => x == (D.length : Int)) (k := k) (by omega)
      generalize (startsB rs).getD k 0 = x at hck hts
      have HTS := Lib.hid hts; clear hts
      generalize hy : ((startsB rs).take k).any (fun x => x == (D.length : Int)) = y at HTS ⊢
      clear hy
      have i0 : (0 : Int) ≤ (k : Int) := by omega
      have i1 : (k : Int) < (n : Int) := by omega
      cases y
      · cases hx : x == (D.length : Int)
        all_goals
          go_wp2
          go_round
          case rel => exact ⟨k + 1, by omega, by go_num, by rw [HTS.out, hx]; rfl⟩
          case measure => simp [intOf]; omega
      · go_wp2
        go_round
        case rel => exact ⟨k + 1, by omega, by go_num, by rw [HTS.out]; rfl⟩
        case measure => simp [intOf]; omega
    · obtain rfl : k = n := by omega
      have hta : (startsB rs).take k = startsB rs := List.take_of_length_le (by omega)
      rw [hta]
      have hck := HC.out rs.length (by omega)
      rw [HSL.out] at hck
      clear hta
      generalize hy : (startsB rs).any (fun x => x == (D.length : Int)) = y at HO ⊢
      clear hy
      have hsub : IntKind.i64.wrap ((k : Int) - 1) = (rs.length : Int) := by rw [wrap_in (by omega)]; omega
      have j1 : (rs.length : Int) < (k : Int) := by omega
      have hM2 : Mem w.heap.size w wst [owE FRec 90 a1 rs.length c1 rs] := hM.pick (is := [1]) (by decide) rfl
      clear hM
      have HSU := Lib.hid hsub; clear hsub
      cases y
      · have HR := Lib.hid (show okI D P c = false by rw [HO.out, Bool.false_and, Bool.false_and])
        go_wp2
        have hsub := HSU.out
        go_quiet (fail)
        go_wp2
        go_ret2
        rw [HR.out, HRS.out]
        exact ⟨a1, c1, rfl, by (repeat' (first | with_reducible exact hM2 | with_reducible exact hMp | with_reducible apply Mem.drew | with_reducible apply Mem.drewN | with_reducible apply Mem.alloc | with_reducible apply Mem.set | with_reducible exact Sto.row | ((with_reducible refine Sto.rowEq2 ?_ ?_); omega; rfl) | ((with_reducible refine Sto.rowEq ?_); omega) | with_reducible apply Sto.int | with_reducible apply Sto.there | with_reducible assumption | (unfold I64; omega) | (with_reducible (have hMx := Mem.undrew hM2; exact hMx)) | (with_reducible (have hMx := Mem.undrew hMp; exact hMx))))⟩
      have hq : ((D ++ P).length : Int) = (D.length : Int) + (P.length : Int) := by rw [List.length_append]; omega
      rw [hq] at HO
      clear hq
      cases h2 : (endLB rs : Int) == (D.length : Int) + (P.length : Int)
      · have HR := Lib.hid (show okI D P c = false by rw [HO.out, h2]; rfl)
        go_wp2
        have hsub := HSU.out
        go_quiet (fail)
        go_wp2
        go_ret2
        rw [HR.out, HRS.out]
        exact ⟨a1, c1, rfl, by (repeat' (first | with_reducible exact hM2 | with_reducible exact hMp | with_reducible apply Mem.drew | with_reducible apply Mem.drewN | with_reducible apply Mem.alloc | with_reducible apply Mem.set | with_reducible exact Sto.row | ((with_reducible refine Sto.rowEq2 ?_ ?_); omega; rfl) | ((with_reducible refine Sto.rowEq ?_); omega) | with_reducible apply Sto.int | with_reducible apply Sto.there | with_reducible assumption | (unfold I64; omega) | (with_reducible (have hMx := Mem.undrew hM2; exact hMx)) | (with_reducible (have hMx := Mem.undrew hMp; exact hMx))))⟩
      cases h3 : c == (rs.length : Int)
      all_goals
        have HR := Lib.hid (show okI D P c = (c == (rs.length : Int)) by rw [HO.out, h2, Bool.and_true, Bool.true_and])
        have H3 := Lib.hid h3
        go_wp2
        have hsub := HSU.out
        go_quiet (fail)
        go_wp2
        go_ret2
        rw [HR.out, H3.out, HRS.out]
        exact ⟨a1, c1, rfl, by (repeat' (first | with_reducible exact hM2 | with_reducible exact hMp | with_reducible apply Mem.drew | with_reducible apply Mem.drewN | with_reducible apply Mem.alloc | with_reducible apply Mem.set | with_reducible exact Sto.row | ((with_reducible refine Sto.rowEq2 ?_ ?_); omega; rfl) | ((with_reducible refine Sto.rowEq ?_); omega) | with_reducible apply Sto.int | with_reducible apply Sto.there | with_reducible assumption | (unfold I64; omega) | (with_reducible (have hMx := Mem.undrew hM2; exact hMx)) | (with_reducible (have hMx := Mem.undrew hMp; exact hMx))))⟩
end Go.Proofs.YtpflnmejbialjaaGreatDoor
