/-
  The reference's draws of the laws on lines.
-/
import Derived.Test.YtojfbcgfeojdfaaGreatKFlowG
import Derived.Test.YtojfbcgfeojdfaaGreatKDrawTer
import Derived.Test.YtojfbcgfeojdfaaGreatKDrawSmk
import Derived.Deep.DeepCutAuto
/-
  The reference's draws of the laws on lines.
-/
namespace Go.Proofs.YtojfbcgfeojdfaaGreat
set_option linter.unusedSimpArgs false
set_option linter.unusedVariables false
open Go.RowKit

/-- a number put into a list: what comes is a list -/
theorem putAny {B : Nat} {w0 w : World} {G : List Ent} {F : Ent → List Ent} (g n c : Nat) (xs : List Int) (x : Int) (hx : I64 x) (hn : n ≤ 1000) (p : At G (intE (some ⟨g, 0, none⟩) n c xs) F) (hM : Mem B w0 w G) :
    Calls Tryz.prog 112 #[.slice (some ⟨g, 0, none⟩) n c, .int .i64 x] w fun e w' => ∃ (g' n' c' : Nat) (ys : List Int), n' ≤ n + 1 ∧ e = .returned (.slice (some ⟨g', 0, none⟩) n' c') ∧ Mem B w0 w' (F (intE (some ⟨g', 0, none⟩) n' c' ys)) := by
  rw [← p.self] at hM
  refine (l1PutV_any g 0 n c xs x w (hM.intsR (p.in _)) hx hn).mono ?_
  rintro e w' (⟨-, rfl, hb⟩ | ⟨g', c', rfl, hm⟩)
  · exact ⟨g, n, c, xs, by omega, rfl, hM.ext hb⟩
  · have h1 := hM.join hm
    refine ⟨g', n + 1, c', putL xs x, by omega, rfl, ?_⟩
    obtain ⟨R, hR⟩ := p.head
    have h2 : Mem B w0 w' ([intE (some ⟨g', 0, none⟩) (n + 1) c' (putL xs x)] ++ F (intE (some ⟨g, 0, none⟩) n c xs)) := h1
    have h3 := (hR B w0 w' [intE (some ⟨g', 0, none⟩) (n + 1) c' (putL xs x)] _).1 h2
    exact (hR B w0 w' [] _).2 (h3.sub (by simp))
theorem HeadP.out3 {B : Nat} {w0 w : World} {F : Ent → List Ent} {R : List Ent} {a b c e : Ent} (h : HeadP F R) (hM : Mem B w0 w [a, b, c, e, packE R]) : Mem B w0 w (a :: b :: c :: F e) := (h B w0 w [a, b, c] e).2 hM
theorem one_row {B : Nat} {w0 w : World} {G : List Ent} {b x : Nat} (hM : Mem B w0 w (rowE b 3 #[.int .i64 (x : Int)] :: G)) (hx : x ≤ 70000) : Mem B w0 w (intE (some ⟨b, 0, none⟩) 1 1 [(x : Int)] :: G) := hM.toInts (xs := [(x : Int)]) .here rfl (by intro y hy; obtain rfl := List.mem_singleton.1 hy; unfold I64; omega) (by simp)
set_option maxRecDepth 100000 in
set_option maxHeartbeats 8000000 in
theorem threat_any {g : Nat} {ac : Option Addr} {nc cc : Nat} {l : List UInt8} {A : Nat} {w0 w : World} {G : List Ent} {F : Ent → List Ent} (hC : Rd FByt w0 ac nc cc l) (hM : Mem w0.heap.size w0 w G) (p : At G (curE g ac nc cc A) F) (hA : A ≤ 100000) :
    Calls Tryz.prog 66 #[.pointer (some ⟨g, 0, none⟩)] w fun e w' => ∃ (W H : Int) (a1 : Option Addr) (c1 : Nat) (xs : List Int) (a2 : Option Addr) (n2 c2 : Nat) (ss : List Int) (a3 : Option Addr) (n3 c3 : Nat) (ts : List Int), okT W H xs ∧ e = .returned (.tuple #[.agg #[.int .i64 W, .int .i64 H, .slice a1 xs.length c1], .slice a2 n2 c2, .slice a3 n3 c3]) ∧ Mem w0.heap.size w0 w' (intE a1 xs.length c1 xs :: intE a2 n2 c2 ss :: intE a3 n3 c3 ts :: F (curE g ac nc cc (A + 300))) := by
  obtain ⟨R, hR⟩ : ∃ R, HeadP F R := p.head
  have HR := Lib.hid hR; clear hR
  rw [← p.self] at hM
  replace hM := HR.out.in hM
  have HP := Lib.hid p
  have HC := Lib.hid hC
  clear p hC
  go_enter Tryz.func66, Tryz.ntmps66
  go_wp2_with fail
  apply Mem.atA
  · exact memA
  clear hM
  intro wst hM
  (try simp only [World.size_alloc, World.size_setCell, World.heap_drewN, heapDrew, Nat.add_assoc, Nat.reduceAdd, sA, List.cons_append, List.nil_append] at hM)
  (first | refine (anyTerrain_any HC.out hM (.there .here) (by omega)).mono ?_)
  rintro e wc1 ⟨W, H, a1, c1, xs, hS, rfl, hm⟩
  clear hM
  have hM := hm
  clear hm
  try dsimp only at hM
  have hl := hS.2.2.1
  have HS := Lib.hid hS; clear hS
  go_wp2_with fail
  apply Mem.atA
  · exact memA
  clear hM
  intro wst hM
  (try simp only [World.size_alloc, World.size_setCell, World.heap_drewN, heapDrew, Nat.add_assoc, Nat.reduceAdd, sA, List.cons_append, List.nil_append] at hM)
  (first | refine (pick_any (xs.length : Int) HC.out hM (.there (.there (.there .here))) (by omega)).mono ?_)
  rintro e wc2 ⟨x0, hx, hx2, rfl, hm⟩
  clear hM
  have hM := hm
  clear hm
  try dsimp only at hM
  have hxl := pick_lt hx (by omega)
  clear hx
  go_wp2_with fail
  apply Mem.atA
  · exact memA
  clear hM
  intro wst hM
  (try simp only [World.size_alloc, World.size_setCell, World.heap_drewN, heapDrew, Nat.add_assoc, Nat.reduceAdd, sA, List.cons_append, List.nil_append] at hM)
  (first | refine (pick_any (xs.length : Int) HC.out hM (.there (.there (.there (.there .here)))) (by omega)).mono ?_)
  rintro e wc3 ⟨y0, hy, hy2, rfl, hm⟩
  clear hM
  have hM := hm
  clear hm
  try dsimp only at hM
  have hyl := pick_lt hy (by omega)
  clear hy
  go_wp2_with fail
  apply Mem.atWpA
  · exact memA
  clear hM
  intro wst hM
  (try simp only [World.size_alloc, World.size_setCell, World.heap_drewN, heapDrew, Nat.add_assoc, Nat.reduceAdd, sA, List.cons_append, List.nil_append] at hM)
  replace hM := one_row ((one_row hM (by omega)).swap) (by omega)
  go_loopw [7, 8, 9] (fun s7 s8 s9 wr => ∃ (k b7 b8 x y : Nat), s7 = .slice (some ⟨b7, 0, none⟩) 1 1 ∧ s8 = .slice (some ⟨b8, 0, none⟩) 1 1 ∧ s9 = .int .i64 k ∧ k ≤ 4 ∧ x < xs.length ∧ y < xs.length ∧ Mem w0.heap.size w0 wr [intE (some ⟨b7, 0, none⟩) 1 1 [(x : Int)], intE (some ⟨b8, 0, none⟩) 1 1 [(y : Int)], rowE wc1.heap.size 26 #[.int .i64 W, .int .i64 H, .slice a1 xs.length c1], intE a1 xs.length c1 xs, rowE w.heap.size 26 #[.int .i64 0, .int .i64 0, .slice none 0 0], curE g ac nc cc (A + 110 + 4 * k), packE R]) (fun _ _ s9 _ => 5 - (intOf s9).toNat)
  case atStart => exact ⟨0, _, _, x0, y0, rfl, rfl, rfl, by omega, by omega, by omega, hM.curMore (.there (.there (.there (.there (.there .here))))) (by omega)⟩
  case round =>
    clear hM hxl hyl hx2 hy2
    obtain ⟨k, b7, b8, x, y, rfl, rfl, rfl, hk, hx, hy, hM⟩ := hrel
    obtain ⟨A2, hA2⟩ : ∃ A2, A + 110 + 4 * k = A2 := ⟨_, rfl⟩
    rw [hA2] at hM
    have hA3 : A2 ≤ A + 126 := by omega
    have HA2 := Lib.hid hA2
    clear hA2
    go_upto_region 5 with fail
    go_cut [43] (fun s43 wx => ∃ b : Bool, s43 = .bool b ∧ (b = true → k < 4) ∧ Mem w0.heap.size w0 wx [intE (some ⟨b7, 0, none⟩) 1 1 [(x : Int)], intE (some ⟨b8, 0, none⟩) 1 1 [(y : Int)], rowE wc1.heap.size 26 #[.int .i64 W, .int .i64 H, .slice a1 xs.length c1], intE a1 xs.length c1 xs, rowE w.heap.size 26 #[.int .i64 0, .int .i64 0, .slice none 0 0], curE g ac nc cc A2, packE R])
    case first =>
      by_cases hk4 : k < 4
      rotate_left
      · have hk4e : decide ((k : Int) < 4) = false := by simp; omega
        refine AtF.startA hM hM 20 (by kernel_rfl) ?_
        clear hM
        intro wd hM
        have hS := hM
        refine AtF.tp 0 ?_ 23 [10, 9, 6, 2, 1] ?_ hS ?_
        rotate_left
        · (intro wS hSw; (try dsimp only at hSw); go_simp; (try rw [if_neg (by omega)]); try with_reducible rfl)
        simp only [Act.put, sA]
        refine AtF.tp 1 ?_ 24 [10, 9, 6, 2] ?_ hS ?_
        rotate_left
        · (intro wS hSw; (try dsimp only at hSw); go_simp; (try rw [if_neg (by omega)]); try with_reducible rfl)
        simp only [Act.put, sA]
        refine AtF.tp 2 ?_ 25 [10, 9, 6] ?_ hS ?_
        rotate_left
        · (intro wS hSw; (try dsimp only at hSw); go_simp; (try rw [if_neg (by omega)]); try with_reducible rfl)
        simp only [Act.put, sA]
        refine AtF.tq 3 26 [10, 9, 6, 5, 4] hS ?_
        simp only [Act.put, sA]
        refine AtF.tq 4 27 [10, 9, 6, 5] hS ?_
        simp only [Act.put, sA]
        refine AtF.tp 5 ?_ 28 [10, 9, 6] ?_ hS ?_
        rotate_left
        · (intro wS hSw; (try dsimp only at hSw); go_simp; (try rw [if_neg (by omega)]); try with_reducible rfl)
        simp only [Act.put, sA]
        refine AtF.tp 6 ?_ 29 [10, 9] ?_ hS ?_
        rotate_left
        · (intro wS hSw; (try dsimp only at hSw); go_simp; (try rw [if_neg (by omega)]); try with_reducible rfl)
        simp only [Act.put, sA]
        refine AtF.tq 7 30 [10, 8] hS ?_
        simp only [Act.put, sA]
        refine AtF.tq 8 31 [10] hS ?_
        simp only [Act.put, sA]
        refine AtF.tp 9 ?_ 32 [10] ?_ hS ?_
        rotate_left
        · (intro wS hSw; (try dsimp only at hSw); go_simp; (try rw [if_neg (by omega)]); try with_reducible rfl)
        simp only [Act.put, sA]
        refine AtF.tp 10 ?_ 33 [] ?_ hS ?_
        rotate_left
        · (intro wS hSw; (try dsimp only at hSw); go_simp; (try rw [if_neg (by omega)]); try with_reducible rfl)
        simp only [Act.put, sA]
        refine AtF.tq 11 34 [19, 18] hS ?_
        simp only [Act.put, sA]
        refine AtF.tq 12 35 [19, 18, 14, 13] hS ?_
        simp only [Act.put, sA]
        refine AtF.tq 13 36 [19, 18, 14] hS ?_
        simp only [Act.put, sA]
        refine AtF.tq 14 37 [19, 18] hS ?_
        simp only [Act.put, sA]
        refine AtF.tq 15 38 [19, 18, 17, 16] hS ?_
        simp only [Act.put, sA]
        refine AtF.tq 16 39 [19, 18, 17] hS ?_
        simp only [Act.put, sA]
        refine AtF.tq 17 40 [19, 18] hS ?_
        simp only [Act.put, sA]
        refine AtF.tq 18 41 [19] hS ?_
        simp only [Act.put, sA]
        refine AtF.tq 19 42 [] hS ?_
        simp only [Act.put, sA]
        refine AtF.last (by kernel_rfl) rfl (by kernel_rfl) ?_
        intro K hK
        clear hS
        go_simp
        refine hK.out _ _ ?_
        clear hK K
        go_wp2_with fail
        go_meet
        exact ⟨false, rfl, (fun h => by cases h), by (exact memA)⟩
      have hk4e : decide ((k : Int) < 4) = true := by simp; omega
      by_cases hn4 : 4 < xs.length
      rotate_left
      · have hn4e : decide ((4 : Int) < (xs.length : Int)) = false := by simp; omega
        refine AtF.startA hM hM 20 (by kernel_rfl) ?_
        clear hM
        intro wd hM
        have hS := hM
        refine AtF.tp 0 ?_ 23 [10, 9, 6, 2, 1] ?_ hS ?_
        rotate_left
        · (intro wS hSw; (try dsimp only at hSw); go_simp; (try rw [if_neg (by omega)]); try with_reducible rfl)
        simp only [Act.put, sA]
        refine AtF.tp 1 ?_ 24 [10, 9, 6, 2] ?_ hS ?_
        rotate_left
        · (intro wS hSw; (try dsimp only at hSw); go_simp; (try rw [if_neg (by omega)]); try with_reducible rfl)
        simp only [Act.put, sA]
        refine AtF.tp 2 ?_ 25 [10, 9, 6] ?_ hS ?_
        rotate_left
        · (intro wS hSw; (try dsimp only at hSw); go_simp; (try rw [if_neg (by omega)]); try with_reducible rfl)
        simp only [Act.put, sA]
        refine AtF.tp 3 ?_ 26 [10, 9, 6, 5, 4] ?_ hS ?_
        rotate_left
        · (intro wS hSw; (try dsimp only at hSw); go_simp; (try rw [if_neg (by omega)]); try with_reducible rfl)
        simp only [Act.put, sA]
        refine AtF.tp 4 ?_ 27 [10, 9, 6, 5] ?_ hS ?_
        rotate_left
        · (intro wS hSw; (try dsimp only at hSw); go_simp; (try rw [if_neg (by omega)]); try with_reducible rfl)
        simp only [Act.put, sA]
        refine AtF.tp 5 ?_ 28 [10, 9, 6] ?_ hS ?_
        rotate_left
        · (intro wS hSw; (try dsimp only at hSw); go_simp; (try rw [if_neg (by omega)]); try with_reducible rfl)
        simp only [Act.put, sA]
        refine AtF.tp 6 ?_ 29 [10, 9] ?_ hS ?_
        rotate_left
        · (intro wS hSw; (try dsimp only at hSw); go_simp; (try rw [if_neg (by omega)]); try with_reducible rfl)
        simp only [Act.put, sA]
        refine AtF.tq 7 30 [10, 8] hS ?_
        simp only [Act.put, sA]
        refine AtF.tq 8 31 [10] hS ?_
        simp only [Act.put, sA]
        refine AtF.tp 9 ?_ 32 [10] ?_ hS ?_
        rotate_left
        · (intro wS hSw; (try dsimp only at hSw); go_simp; (try rw [if_neg (by omega)]); try with_reducible rfl)
        simp only [Act.put, sA]
        refine AtF.tp 10 ?_ 33 [] ?_ hS ?_
        rotate_left
        · (intro wS hSw; (try dsimp only at hSw); go_simp; (try rw [if_neg (by omega)]); try with_reducible rfl)
        simp only [Act.put, sA]
        refine AtF.tq 11 34 [19, 18] hS ?_
        simp only [Act.put, sA]
        refine AtF.tq 12 35 [19, 18, 14, 13] hS ?_
        simp only [Act.put, sA]
        refine AtF.tq 13 36 [19, 18, 14] hS ?_
        simp only [Act.put, sA]
        refine AtF.tq 14 37 [19, 18] hS ?_
        simp only [Act.put, sA]
        refine AtF.tq 15 38 [19, 18, 17, 16] hS ?_
        simp only [Act.put, sA]
        refine AtF.tq 16 39 [19, 18, 17] hS ?_
        simp only [Act.put, sA]
        refine AtF.tq 17 40 [19, 18] hS ?_
        simp only [Act.put, sA]
        refine AtF.tq 18 41 [19] hS ?_
        simp only [Act.put, sA]
        refine AtF.tq 19 42 [] hS ?_
        simp only [Act.put, sA]
        refine AtF.last (by kernel_rfl) rfl (by kernel_rfl) ?_
        intro K hK
        clear hS
        go_simp
        refine hK.out _ _ ?_
        clear hK K
        go_wp2_with fail
        go_meet
        exact ⟨false, rfl, (fun h => by cases h), by (exact memA)⟩
      have hn4e : decide ((4 : Int) < (xs.length : Int)) = true := by simp; omega
      cases hg : goodB 20 W H xs
      · have HG := Lib.hid hg; clear hg
        refine AtF.startA hM hM 20 (by kernel_rfl) ?_
        clear hM
        intro wd hM
        have hS := hM
        refine AtF.tp 0 ?_ 23 [10, 9, 6, 2, 1] ?_ hS ?_
        rotate_left
        · (intro wS hSw; (try dsimp only at hSw); go_simp; (try rw [if_neg (by omega)]); try with_reducible rfl)
        simp only [Act.put, sA]
        refine AtF.tp 1 ?_ 24 [10, 9, 6, 2] ?_ hS ?_
        rotate_left
        · (intro wS hSw; (try dsimp only at hSw); go_simp; (try rw [if_neg (by omega)]); try with_reducible rfl)
        simp only [Act.put, sA]
        refine AtF.tp 2 ?_ 25 [10, 9, 6] ?_ hS ?_
        rotate_left
        · (intro wS hSw; (try dsimp only at hSw); go_simp; (try rw [if_neg (by omega)]); try with_reducible rfl)
        simp only [Act.put, sA]
        refine AtF.tp 3 ?_ 26 [10, 9, 6, 5, 4] ?_ hS ?_
        rotate_left
        · (intro wS hSw; (try dsimp only at hSw); go_simp; (try rw [if_neg (by omega)]); try with_reducible rfl)
        simp only [Act.put, sA]
        refine AtF.tp 4 ?_ 27 [10, 9, 6, 5] ?_ hS ?_
        rotate_left
        · (intro wS hSw; (try dsimp only at hSw); go_simp; (try rw [if_neg (by omega)]); try with_reducible rfl)
        simp only [Act.put, sA]
        refine AtF.tp 5 ?_ 28 [10, 9, 6] ?_ hS ?_
        rotate_left
        · (intro wS hSw; (try dsimp only at hSw); go_simp; (try rw [if_neg (by omega)]); try with_reducible rfl)
        simp only [Act.put, sA]
        refine AtF.tp 6 ?_ 29 [10, 9] ?_ hS ?_
        rotate_left
        · (intro wS hSw; (try dsimp only at hSw); go_simp; (try rw [if_neg (by omega)]); try with_reducible rfl)
        simp only [Act.put, sA]
        refine AtF.tp 7 ?_ 30 [10, 8] ?_ hS ?_
        rotate_left
        · (intro wS hSw; (try dsimp only at hSw); have kr0 := (Mem.row hSw (.there (.there .here))).cell; go_simp; (try rw [if_neg (by omega)]); try with_reducible rfl)
        simp only [Act.put, sA]
        refine AtF.only (i := 8) (by kernel_rfl) rfl rfl ?_
        intro K hK
        go_simp
        refine (l2Good_any W H a1 xs.length c1 xs _ (hM.intsR (.there (.there (.there .here))))).mono ?_
        rw [HG.out]
        rintro e w3 ⟨rfl, hb⟩
        replace hM := hM.ext hb
        clear hb
        try dsimp only
        refine hK.out _ _ (hM) ?_
        clear hK K hS
        have hS := hM
        refine AtF.tp 9 ?_ 32 [10] ?_ hS ?_
        rotate_left
        · (intro wS hSw; (try dsimp only at hSw); go_simp; (try rw [if_neg (by omega)]); try with_reducible rfl)
        simp only [Act.put, sA]
        refine AtF.tp 10 ?_ 33 [] ?_ hS ?_
        rotate_left
        · (intro wS hSw; (try dsimp only at hSw); go_simp; (try rw [if_neg (by omega)]); try with_reducible rfl)
        simp only [Act.put, sA]
        refine AtF.tq 11 34 [19, 18] hS ?_
        simp only [Act.put, sA]
        refine AtF.tq 12 35 [19, 18, 14, 13] hS ?_
        simp only [Act.put, sA]
        refine AtF.tq 13 36 [19, 18, 14] hS ?_
        simp only [Act.put, sA]
        refine AtF.tq 14 37 [19, 18] hS ?_
        simp only [Act.put, sA]
        refine AtF.tq 15 38 [19, 18, 17, 16] hS ?_
        simp only [Act.put, sA]
        refine AtF.tq 16 39 [19, 18, 17] hS ?_
        simp only [Act.put, sA]
        refine AtF.tq 17 40 [19, 18] hS ?_
        simp only [Act.put, sA]
        refine AtF.tq 18 41 [19] hS ?_
        simp only [Act.put, sA]
        refine AtF.tq 19 42 [] hS ?_
        simp only [Act.put, sA]
        refine AtF.last (by kernel_rfl) rfl (by kernel_rfl) ?_
        intro K hK
        clear hS
        go_simp
        refine hK.out _ _ ?_
        clear hK K
        go_wp2_with fail
        go_meet
        exact ⟨false, rfl, (fun h => by cases h), by (exact memA)⟩
      · obtain ⟨Wn, Hn, rfl, rfl, p1, p2, -⟩ := goodB_true hg
        have HG := Lib.hid hg; clear hg
        obtain ⟨v, hv⟩ : ∃ v, apI Wn x y = v := ⟨_, rfl⟩
        have HV := Lib.hid hv; clear hv
        refine AtF.startA hM hM 20 (by kernel_rfl) ?_
        clear hM
        intro wd hM
        have hS := hM
        refine AtF.tp 0 ?_ 23 [10, 9, 6, 2, 1] ?_ hS ?_
        rotate_left
        · (intro wS hSw; (try dsimp only at hSw); go_simp; (try rw [if_neg (by omega)]); try with_reducible rfl)
        simp only [Act.put, sA]
        refine AtF.tp 1 ?_ 24 [10, 9, 6, 2] ?_ hS ?_
        rotate_left
        · (intro wS hSw; (try dsimp only at hSw); go_simp; (try rw [if_neg (by omega)]); try with_reducible rfl)
        simp only [Act.put, sA]
        refine AtF.tp 2 ?_ 25 [10, 9, 6] ?_ hS ?_
        rotate_left
        · (intro wS hSw; (try dsimp only at hSw); go_simp; (try rw [if_neg (by omega)]); try with_reducible rfl)
        simp only [Act.put, sA]
        refine AtF.tp 3 ?_ 26 [10, 9, 6, 5, 4] ?_ hS ?_
        rotate_left
        · (intro wS hSw; (try dsimp only at hSw); go_simp; (try rw [if_neg (by omega)]); try with_reducible rfl)
        simp only [Act.put, sA]
        refine AtF.tp 4 ?_ 27 [10, 9, 6, 5] ?_ hS ?_
        rotate_left
        · (intro wS hSw; (try dsimp only at hSw); go_simp; (try rw [if_neg (by omega)]); try with_reducible rfl)
        simp only [Act.put, sA]
        refine AtF.tp 5 ?_ 28 [10, 9, 6] ?_ hS ?_
        rotate_left
        · (intro wS hSw; (try dsimp only at hSw); go_simp; (try rw [if_neg (by omega)]); try with_reducible rfl)
        simp only [Act.put, sA]
        refine AtF.tp 6 ?_ 29 [10, 9] ?_ hS ?_
        rotate_left
        · (intro wS hSw; (try dsimp only at hSw); go_simp; (try rw [if_neg (by omega)]); try with_reducible rfl)
        simp only [Act.put, sA]
        refine AtF.tp 7 ?_ 30 [10, 8] ?_ hS ?_
        rotate_left
        · (intro wS hSw; (try dsimp only at hSw); have kr0 := (Mem.row hSw (.there (.there .here))).cell; have hcx := (hSw.ints .here).cellAt (k := 0) (by omega); have hcy := (hSw.ints (.there .here)).cellAt (k := 0) (by omega); rw [show [(x : Int)].getD 0 0 = (x : Int) from rfl] at hcx; rw [show [(y : Int)].getD 0 0 = (y : Int) from rfl] at hcy; go_simp; (try rw [if_neg (by omega)]); try with_reducible rfl)
        simp only [Act.put, sA]
        refine AtF.only (i := 8) (by kernel_rfl) rfl rfl ?_
        intro K hK
        go_simp
        refine (l2Good_any Wn Hn a1 xs.length c1 xs _ (hM.intsR (.there (.there (.there .here))))).mono ?_
        rw [HG.out]
        rintro e w3 ⟨rfl, hb⟩
        replace hM := hM.ext hb
        clear hb
        try dsimp only
        refine hK.out _ _ (hM) ?_
        clear hK K hS
        have hS := hM
        refine AtF.tp 9 ?_ 32 [10] ?_ hS ?_
        rotate_left
        · (intro wS hSw; (try dsimp only at hSw); go_simp; (try rw [if_neg (by omega)]); try with_reducible rfl)
        simp only [Act.put, sA]
        refine AtF.tp 10 ?_ 33 [] ?_ hS ?_
        rotate_left
        · (intro wS hSw; (try dsimp only at hSw); go_simp; (try rw [if_neg (by omega)]); try with_reducible rfl)
        simp only [Act.put, sA]
        refine AtF.tp 11 ?_ 34 [19, 18] ?_ hS ?_
        rotate_left
        · (intro wS hSw; (try dsimp only at hSw); have kr0 := (Mem.row hSw (.there (.there .here))).cell; have hcx := (hSw.ints .here).cellAt (k := 0) (by omega); have hcy := (hSw.ints (.there .here)).cellAt (k := 0) (by omega); rw [show [(x : Int)].getD 0 0 = (x : Int) from rfl] at hcx; rw [show [(y : Int)].getD 0 0 = (y : Int) from rfl] at hcy; go_simp; (try rw [if_neg (by omega)]); try with_reducible rfl)
        simp only [Act.put, sA]
        refine AtF.tp 12 ?_ 35 [19, 18, 14, 13] ?_ hS ?_
        rotate_left
        · (intro wS hSw; (try dsimp only at hSw); go_simp; (try rw [if_neg (by omega)]); try with_reducible rfl)
        simp only [Act.put, sA]
        refine AtF.tp 13 ?_ 36 [19, 18, 14] ?_ hS ?_
        rotate_left
        · (intro wS hSw; (try dsimp only at hSw); have kr0 := (Mem.row hSw (.there (.there .here))).cell; have hcx := (hSw.ints .here).cellAt (k := 0) (by omega); have hcy := (hSw.ints (.there .here)).cellAt (k := 0) (by omega); rw [show [(x : Int)].getD 0 0 = (x : Int) from rfl] at hcx; rw [show [(y : Int)].getD 0 0 = (y : Int) from rfl] at hcy; go_simp; (try rw [if_neg (by omega)]); try with_reducible rfl)
        simp only [Act.put, sA]
        refine AtF.tp 14 ?_ 37 [19, 18] ?_ hS ?_
        rotate_left
        · (intro wS hSw; (try dsimp only at hSw); have kr0 := (Mem.row hSw (.there (.there .here))).cell; have hcx := (hSw.ints .here).cellAt (k := 0) (by omega); have hcy := (hSw.ints (.there .here)).cellAt (k := 0) (by omega); rw [show [(x : Int)].getD 0 0 = (x : Int) from rfl] at hcx; rw [show [(y : Int)].getD 0 0 = (y : Int) from rfl] at hcy; go_simp; (try rw [if_neg (by omega)]); try with_reducible rfl)
        simp only [Act.put, sA]
        refine AtF.tp 15 ?_ 38 [19, 18, 17, 16] ?_ hS ?_
        rotate_left
        · (intro wS hSw; (try dsimp only at hSw); go_simp; (try rw [if_neg (by omega)]); try with_reducible rfl)
        simp only [Act.put, sA]
        refine AtF.tp 16 ?_ 39 [19, 18, 17] ?_ hS ?_
        rotate_left
        · (intro wS hSw; (try dsimp only at hSw); have kr0 := (Mem.row hSw (.there (.there .here))).cell; have hcx := (hSw.ints .here).cellAt (k := 0) (by omega); have hcy := (hSw.ints (.there .here)).cellAt (k := 0) (by omega); rw [show [(x : Int)].getD 0 0 = (x : Int) from rfl] at hcx; rw [show [(y : Int)].getD 0 0 = (y : Int) from rfl] at hcy; go_simp; (try rw [if_neg (by omega)]); try with_reducible rfl)
        simp only [Act.put, sA]
        refine AtF.tp 17 ?_ 40 [19, 18] ?_ hS ?_
        rotate_left
        · (intro wS hSw; (try dsimp only at hSw); have kr0 := (Mem.row hSw (.there (.there .here))).cell; have hcx := (hSw.ints .here).cellAt (k := 0) (by omega); have hcy := (hSw.ints (.there .here)).cellAt (k := 0) (by omega); rw [show [(x : Int)].getD 0 0 = (x : Int) from rfl] at hcx; rw [show [(y : Int)].getD 0 0 = (y : Int) from rfl] at hcy; go_simp; (try rw [if_neg (by omega)]); try with_reducible rfl)
        simp only [Act.put, sA]
        refine AtF.only (i := 18) (by kernel_rfl) rfl rfl ?_
        intro K hK
        go_simp
        refine (l2Apart_any Wn Hn _ x y _ ⟨p1, p2⟩ (by omega) (by omega)).mono ?_
        rw [HV.out]
        rintro e w4 ⟨rfl, hb⟩
        replace hM := hM.ext hb
        clear hb
        try dsimp only
        refine hK.out _ _ (hM) ?_
        clear hK K hS
        have hS := hM
        refine AtF.tp 19 ?_ 42 [] ?_ hS ?_
        rotate_left
        · (intro wS hSw; (try dsimp only at hSw); go_simp; (try rw [if_neg (by omega)]); try with_reducible rfl)
        simp only [Act.put, sA]
        refine AtF.last (by kernel_rfl) rfl (by kernel_rfl) ?_
        intro K hK
        clear hS
        go_simp
        refine hK.out _ _ ?_
        clear hK K
        go_wp2_with fail
        go_meet
        exact ⟨decide (v < 2), rfl, fun _ => hk4, by (exact memA)⟩
    case rest =>
      clear hM
      obtain ⟨b, rfl, hb4, hM⟩ := hcut
      cases b
      rotate_left
      · have hk4 := hb4 rfl
        clear hb4
        go_wp2_with fail
        apply Mem.atA
        · exact memA
        clear hM
        intro wst hM
        (try simp only [World.size_alloc, World.size_setCell, World.heap_drewN, heapDrew, Nat.add_assoc, Nat.reduceAdd, sA, List.cons_append, List.nil_append] at hM)
        (first | refine (pick_any (xs.length : Int) HC.out hM (.there (.there (.there (.there (.there .here))))) (by omega)).mono ?_)
        rintro e wc5 ⟨x2, hx, hx2, rfl, hm⟩
        clear hM
        have hM := hm
        clear hm
        try dsimp only at hM
        have hxl := pick_lt hx (by omega)
        clear hx
        go_wp2_with fail
        apply Mem.atA
        · exact memA
        clear hM
        intro wst hM
        (try simp only [World.size_alloc, World.size_setCell, World.heap_drewN, heapDrew, Nat.add_assoc, Nat.reduceAdd, sA, List.cons_append, List.nil_append] at hM)
        (first | refine (pick_any (xs.length : Int) HC.out hM (.there (.there (.there (.there (.there (.there .here)))))) (by omega)).mono ?_)
        rintro e wc6 ⟨y2, hy, hy2, rfl, hm⟩
        clear hM
        have hM := hm
        clear hm
        try dsimp only at hM
        have hyl := pick_lt hy (by omega)
        clear hy
        go_wp2
        go_roundw
        case rel =>
          refine ⟨k + 1, _, _, x2, y2, rfl, rfl, by go_num, by omega, by omega, by omega, ?_⟩
          have h1 := one_row ((one_row (hM.alloc #[.int .i64 (y2 : Int)] 3) (by omega)).swap) (by omega)
          apply Mem.curMore (hA := show A2 + 2 + 2 ≤ A + 110 + 4 * (k + 1) by have := HA2.out; omega) (p := .there (.there (.there (.there (.there .here)))))
          apply Mem.pick (is := [0, 1, 4, 5, 6, 7, 8])
          · exact h1
          · decide
          · rfl
        case measure => simp [intOf]; omega
      · replace hM := hM.curMore (A' := A + 130) (.there (.there (.there (.there (.there .here))))) (by omega)
        clear hb4
        go_wp2_with fail
        apply Mem.atA
        · exact memA
        clear hM
        intro wst hM
        (try simp only [World.size_alloc, World.size_setCell, World.heap_drewN, heapDrew, Nat.add_assoc, Nat.reduceAdd, sA, List.cons_append, List.nil_append] at hM)
        (first | refine (one_any 3 HC.out hM (.there (.there (.there (.there (.there .here))))) (by omega)).mono ?_)
        rintro e wc7 ⟨b, rfl, hm⟩
        clear hM
        have hM := hm
        clear hm
        try dsimp only at hM
        go_upto_if 55 with fail
        go_cut [7] (fun s7 wx => ∃ (b7 n7 c7 : Nat) (ss : List Int), s7 = .slice (some ⟨b7, 0, none⟩) n7 c7 ∧ Mem w0.heap.size w0 wx [intE (some ⟨b7, 0, none⟩) n7 c7 ss, intE (some ⟨b8, 0, none⟩) 1 1 [(y : Int)], rowE wc1.heap.size 26 #[.int .i64 W, .int .i64 H, .slice a1 xs.length c1], intE a1 xs.length c1 xs, rowE w.heap.size 26 #[.int .i64 0, .int .i64 0, .slice none 0 0], curE g ac nc cc (A + 140), packE R])
        case first =>
          cases b
          · go_wp2_with fail
            go_meet
            exact ⟨b7, 1, 1, [(x : Int)], rfl, hM.curMore (.there (.there (.there (.there (.there .here))))) (by omega)⟩
          · skip
            go_wp2_with fail
            apply Mem.atA
            · exact memA
            clear hM
            intro wst hM
            (try simp only [World.size_alloc, World.size_setCell, World.heap_drewN, heapDrew, Nat.add_assoc, Nat.reduceAdd, sA, List.cons_append, List.nil_append] at hM)
            (first | refine (pick_any (xs.length : Int) HC.out hM (.there (.there (.there (.there (.there .here))))) (by omega)).mono ?_)
            rintro e wc8 ⟨r, hr, hr2, rfl, hm⟩
            clear hM
            have hM := hm
            clear hm
            try dsimp only at hM
            go_wp2_with fail
            apply Mem.atA
            · exact memA
            clear hM
            intro wst hM
            (try simp only [World.size_alloc, World.size_setCell, World.heap_drewN, heapDrew, Nat.add_assoc, Nat.reduceAdd, sA, List.cons_append, List.nil_append] at hM)
            (first | refine (putAny b7 1 1 [(x : Int)] r (by unfold I64; omega) (by omega) .here hM).mono ?_)
            rintro e wc9 ⟨g', n', c', ys, hn', rfl, hm⟩
            clear hM
            have hM := hm
            clear hm
            try dsimp only at hM
            go_wp2_with fail
            go_meet
            exact ⟨g', n', c', ys, rfl, hM.curMore (.there (.there (.there (.there (.there .here))))) (by omega)⟩
        case rest =>
          clear hM
          obtain ⟨b7, n7, c7, ss, rfl, hM⟩ := hcut
          go_wp2_with fail
          apply Mem.atA
          · exact memA
          clear hM
          intro wst hM
          (try simp only [World.size_alloc, World.size_setCell, World.heap_drewN, heapDrew, Nat.add_assoc, Nat.reduceAdd, sA, List.cons_append, List.nil_append] at hM)
          (first | refine (one_any 3 HC.out hM (.there (.there (.there (.there (.there .here))))) (by omega)).mono ?_)
          rintro e wc10 ⟨b, rfl, hm⟩
          clear hM
          have hM := hm
          clear hm
          try dsimp only at hM
          go_upto_if 62 with fail
          go_cut [8] (fun s8 wx => ∃ (b8 n8 c8 : Nat) (ts : List Int), s8 = .slice (some ⟨b8, 0, none⟩) n8 c8 ∧ Mem w0.heap.size w0 wx [intE (some ⟨b7, 0, none⟩) n7 c7 ss, intE (some ⟨b8, 0, none⟩) n8 c8 ts, rowE wc1.heap.size 26 #[.int .i64 W, .int .i64 H, .slice a1 xs.length c1], intE a1 xs.length c1 xs, rowE w.heap.size 26 #[.int .i64 0, .int .i64 0, .slice none 0 0], curE g ac nc cc (A + 150), packE R])
          case first =>
            cases b
            · go_wp2_with fail
              go_meet
              exact ⟨b8, 1, 1, [(y : Int)], rfl, hM.curMore (.there (.there (.there (.there (.there .here))))) (by omega)⟩
            · skip
              go_wp2_with fail
              apply Mem.atA
              · exact memA
              clear hM
              intro wst hM
              (try simp only [World.size_alloc, World.size_setCell, World.heap_drewN, heapDrew, Nat.add_assoc, Nat.reduceAdd, sA, List.cons_append, List.nil_append] at hM)
              (first | refine (pick_any (xs.length : Int) HC.out hM (.there (.there (.there (.there (.there .here))))) (by omega)).mono ?_)
              rintro e wc11 ⟨r, hr, hr2, rfl, hm⟩
              clear hM
              have hM := hm
              clear hm
              try dsimp only at hM
              go_wp2_with fail
              apply Mem.atA
              · exact memA
              clear hM
              intro wst hM
              (try simp only [World.size_alloc, World.size_setCell, World.heap_drewN, heapDrew, Nat.add_assoc, Nat.reduceAdd, sA, List.cons_append, List.nil_append] at hM)
              (first | refine (putAny b8 1 1 [(y : Int)] r (by unfold I64; omega) (by omega) (.there .here) hM).mono ?_)
              rintro e wc12 ⟨g', n', c', ys, hn', rfl, hm⟩
              clear hM
              have hM := hm
              clear hm
              try dsimp only at hM
              go_wp2_with fail
              go_meet
              exact ⟨g', n', c', ys, rfl, hM.curMore (.there (.there (.there (.there (.there .here))))) (by omega)⟩
          case rest =>
            clear hM
            obtain ⟨b8, n8, c8, ts, rfl, hM⟩ := hcut
            go_wp2_with fail
            apply Mem.atA
            · exact memA
            clear hM
            intro wst hM
            (try simp only [World.size_alloc, World.size_setCell, World.heap_drewN, heapDrew, Nat.add_assoc, Nat.reduceAdd, sA, List.cons_append, List.nil_append] at hM)
            (first | refine (pick_any 24 HC.out hM (.there (.there (.there (.there (.there .here))))) (by omega)).mono ?_)
            rintro e wc13 ⟨r, hr, hr2, rfl, hm⟩
            clear hM
            have hM := hm
            clear hm
            try dsimp only at hM
            clear hr hr2
            by_cases q0 : r = 0
            · subst q0
              obtain ⟨k2, f2, l2⟩ := hM.row (.there (.there .here))
              go_wp2_with fail
              clear k2 f2 l2
              apply Mem.atA
              · exact memA
              clear hM
              intro wst hM
              (try simp only [World.size_alloc, World.size_setCell, World.heap_drewN, heapDrew, Nat.add_assoc, Nat.reduceAdd, sA, List.cons_append, List.nil_append] at hM)
              (first | refine (cellsOf_any W H a1 xs.length c1 (by omega) HC.out hM (.there (.there (.there (.there (.there .here))))) (by omega)).mono ?_)
              rintro e wc14 ⟨a3, c3, ys, hyl2, hct, rfl, hm⟩
              clear hM
              have hM := hm
              clear hm
              try dsimp only at hM
              clear hct hyl2
              obtain ⟨k3, f3, l3⟩ := hM.row (.there (.there (.there .here)))
              go_upto_region 18 with fail
              clear k3 f3 l3
              apply Mem.atWpA
              · exact memA
              clear hM
              intro wst hM
              (try simp only [World.size_alloc, World.size_setCell, World.heap_drewN, heapDrew, Nat.add_assoc, Nat.reduceAdd, sA, List.cons_append, List.nil_append] at hM)
              replace hM := hM.pick (is := [5, 4, 1, 0, 6, 7, 3]) (by decide) rfl
              dsimp only [List.filterMap_cons, List.filterMap_nil, List.getElem?_cons_zero, List.getElem?_cons_succ] at hM
              obtain ⟨k0, f0, l0⟩ := hM.row .here
              obtain ⟨k6, f6, l6⟩ := hM.row (.there (.there (.there (.there (.there (.there .here))))))
              go_wp2
              refine bodyPost_ret (v := .tuple #[.agg #[.int .i64 W, .int .i64 H, .slice a1 xs.length c1], .slice (some ⟨b7, 0, none⟩) n7 c7, .slice a3 ys.length c3]) (by simp [results, Tryz.results66, go_sem, k0, k6]) rfl ⟨W, H, a1, c1, xs, some ⟨b7, 0, none⟩, n7, c7, ss, a3, ys.length, c3, ys, HS.out, rfl, ?_⟩
              apply Mem.curMore (hA := show A + 150 + 2 + 30 ≤ A + 300 by omega) (p := .there (.there (.there (HP.out.again _))))
              apply HR.out.out3
              apply Mem.pick (is := [1, 2, 3, 4, 5])
              · exact memA
              · decide
              · rfl
            by_cases q1 : r = 1
            · subst q1
              obtain ⟨k2, f2, l2⟩ := hM.row (.there (.there .here))
              go_wp2_with fail
              clear k2 f2 l2
              apply Mem.atA
              · exact memA
              clear hM
              intro wst hM
              (try simp only [World.size_alloc, World.size_setCell, World.heap_drewN, heapDrew, Nat.add_assoc, Nat.reduceAdd, sA, List.cons_append, List.nil_append] at hM)
              (first | refine (cellsOf_any W H a1 xs.length c1 (by omega) HC.out hM (.there (.there (.there (.there (.there .here))))) (by omega)).mono ?_)
              rintro e wc14 ⟨a3, c3, ys, hyl2, hct, rfl, hm⟩
              clear hM
              have hM := hm
              clear hm
              try dsimp only at hM
              clear hct hyl2
              obtain ⟨k3, f3, l3⟩ := hM.row (.there (.there (.there .here)))
              go_upto_region 18 with fail
              clear k3 f3 l3
              apply Mem.atWpA
              · exact memA
              clear hM
              intro wst hM
              (try simp only [World.size_alloc, World.size_setCell, World.heap_drewN, heapDrew, Nat.add_assoc, Nat.reduceAdd, sA, List.cons_append, List.nil_append] at hM)
              replace hM := hM.pick (is := [5, 4, 0, 2, 6, 7, 3]) (by decide) rfl
              dsimp only [List.filterMap_cons, List.filterMap_nil, List.getElem?_cons_zero, List.getElem?_cons_succ] at hM
              obtain ⟨k0, f0, l0⟩ := hM.row .here
              obtain ⟨k6, f6, l6⟩ := hM.row (.there (.there (.there (.there (.there (.there .here))))))
              go_wp2
              refine bodyPost_ret (v := .tuple #[.agg #[.int .i64 W, .int .i64 H, .slice a1 xs.length c1], .slice a3 ys.length c3, .slice (some ⟨b8, 0, none⟩) n8 c8]) (by simp [results, Tryz.results66, go_sem, k0, k6]) rfl ⟨W, H, a1, c1, xs, a3, ys.length, c3, ys, some ⟨b8, 0, none⟩, n8, c8, ts, HS.out, rfl, ?_⟩
              apply Mem.curMore (hA := show A + 150 + 2 + 30 ≤ A + 300 by omega) (p := .there (.there (.there (HP.out.again _))))
              apply HR.out.out3
              apply Mem.pick (is := [1, 2, 3, 4, 5])
              · exact memA
              · decide
              · rfl
            have q0' : ¬ (r : Int) = 0 := by omega
            have q1' : ¬ (r : Int) = 1 := by omega
            clear q0 q1
            obtain ⟨k2, f2, l2⟩ := hM.row (.there (.there .here))
            go_upto_region 18 with fail
            clear k2 f2 l2
            apply Mem.atWpA
            · exact memA
            clear hM
            intro wst hM
            (try simp only [World.size_alloc, World.size_setCell, World.heap_drewN, heapDrew, Nat.add_assoc, Nat.reduceAdd, sA, List.cons_append, List.nil_append] at hM)
            replace hM := hM.pick (is := [4, 3, 0, 1, 5, 6, 2]) (by decide) rfl
            dsimp only [List.filterMap_cons, List.filterMap_nil, List.getElem?_cons_zero, List.getElem?_cons_succ] at hM
            obtain ⟨k0, f0, l0⟩ := hM.row .here
            obtain ⟨k6, f6, l6⟩ := hM.row (.there (.there (.there (.there (.there (.there .here))))))
            go_wp2
            refine bodyPost_ret (v := .tuple #[.agg #[.int .i64 W, .int .i64 H, .slice a1 xs.length c1], .slice (some ⟨b7, 0, none⟩) n7 c7, .slice (some ⟨b8, 0, none⟩) n8 c8]) (by simp [results, Tryz.results66, go_sem, k0, k6]) rfl ⟨W, H, a1, c1, xs, some ⟨b7, 0, none⟩, n7, c7, ss, some ⟨b8, 0, none⟩, n8, c8, ts, HS.out, rfl, ?_⟩
            apply Mem.curMore (hA := show A + 150 + 2 ≤ A + 300 by omega) (p := .there (.there (.there (HP.out.again _))))
            apply HR.out.out3
            apply Mem.pick (is := [1, 2, 3, 4, 5])
            · exact memA
            · decide
            · rfl
end Go.Proofs.YtojfbcgfeojdfaaGreat
