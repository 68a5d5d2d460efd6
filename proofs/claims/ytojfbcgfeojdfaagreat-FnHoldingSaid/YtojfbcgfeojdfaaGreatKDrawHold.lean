/-
  The reference's draws of the laws on holding.
-/
import Derived.Test.YtojfbcgfeojdfaaGreatKDrawCut2
import Derived.Test.YtojfbcgfeojdfaaGreatKNest
/-
  The reference's draws of the laws on holding.
-/
namespace Go.Proofs.YtojfbcgfeojdfaaGreat
set_option linter.unusedSimpArgs false
set_option linter.unusedVariables false
open Go.RowKit

theorem Mem.pack53 {B : Nat} {w0 w : World} {a b c d e x y z : Ent} (h : Mem B w0 w [a, b, c, d, e, x, y, z]) : Mem B w0 w [a, b, c, d, e, packE [x, y, z]] := Mem.packAt (X := [a, b, c, d, e]) (G := [x, y, z]) (Y := []) h
theorem Mem.unpack63 {B : Nat} {w0 w : World} {a b c d e f x y z : Ent} (h : Mem B w0 w [a, b, c, d, e, f, packE [x, y, z]]) : Mem B w0 w [a, b, c, d, e, f, x, y, z] := Mem.unpackAt (X := [a, b, c, d, e, f]) (G := [x, y, z]) (Y := []) h
theorem HeadP.in1 {B : Nat} {w0 w : World} {F : Ent → List Ent} {R : List Ent} {a e : Ent} (h : HeadP F R) (hM : Mem B w0 w (a :: F e)) : Mem B w0 w [a, e, packE R] := (h B w0 w [a] e).1 hM
theorem HeadP.out5x {B : Nat} {w0 w : World} {F : Ent → List Ent} {R : List Ent} {a b c d x e : Ent} (h : HeadP F R) (hM : Mem B w0 w [a, b, c, d, x, e, packE R]) : Mem B w0 w (a :: b :: c :: d :: x :: F e) := (h B w0 w [a, b, c, d, x] e).2 hM
set_option maxRecDepth 100000 in
set_option maxHeartbeats 8000000 in
theorem holding_any {g : Nat} {ac : Option Addr} {nc cc : Nat} {l : List UInt8} {A : Nat} {w0 w : World} {G : List Ent} {F : Ent → List Ent} (hC : Rd FByt w0 ac nc cc l) (hM : Mem w0.heap.size w0 w G) (p : At G (curE g ac nc cc A) F) (hA : A ≤ 50000) :
    Calls Tryz.prog 30 #[.pointer (some ⟨g, 0, none⟩)] w fun e w' => ∃ (W H : Int) (a1 : Option Addr) (c1 : Nat) (xs : List Int) (a4 : Option Addr) (c4 : Nat) (ph : List PhaseI) (a2 : Option Addr) (n2 c2 : Nat) (ss : List Int) (start : Int) (a5 : Option Addr) (c5 : Nat) (cu : List CutI) (a3 : Option Addr) (n3 c3 : Nat) (ts : List Int), (okT W H xs ∧ ph.length ≤ 10 ∧ cu.length ≤ 60 ∧ -1 ≤ start ∧ start ≤ 1001) ∧ e = .returned (.tuple #[.agg #[.int .i64 W, .int .i64 H, .slice a1 xs.length c1], .slice a4 ph.length c4, .slice a2 n2 c2, .int .i64 start, .slice a5 cu.length c5, .slice a3 n3 c3]) ∧ Mem w0.heap.size w0 w' (owE FCut 37 a5 cu.length c5 cu :: owE FPhase 128 a4 ph.length c4 ph :: intE a1 xs.length c1 xs :: intE a2 n2 c2 ss :: intE a3 n3 c3 ts :: F (curE g ac nc cc (A + 1000))) := by
  obtain ⟨R, hR⟩ : ∃ R, HeadP F R := p.head
  have HR := Lib.hid hR; clear hR
  rw [← p.self] at hM
  replace hM := HR.out.in hM
  have HC := Lib.hid hC
  clear p hC
  go_enter Tryz.func30, Tryz.ntmps30
  go_wp2_with fail
  apply Mem.atA
  · exact memA
  clear hM
  intro wst hM
  (try simp only [World.size_alloc, World.size_setCell, World.heap_drewN, heapDrew, Nat.add_assoc, Nat.reduceAdd, sA, List.cons_append, List.nil_append] at hM)
  (first | refine (threat_any HC.out hM (.there .here) (by omega)).mono ?_)
  rintro e wc1 ⟨W, H, a1, c1, xs, a2, n2, c2, ss, a3, n3, c3, ts, hS, rfl, hm⟩
  clear hM
  have hM := hm
  clear hm
  try dsimp only at hM
  have hxl := hS.2.2.1
  have HS := Lib.hid hS; clear hS
  go_wp2_with fail
  apply Mem.atA
  · exact memA
  clear hM
  intro wst hM
  (try simp only [World.size_alloc, World.size_setCell, World.heap_drewN, heapDrew, Nat.add_assoc, Nat.reduceAdd, sA, List.cons_append, List.nil_append] at hM)
  (first | refine (phases_any HC.out hM (.there (.there (.there (.there (.there .here))))) (by omega)).mono ?_)
  rintro e wc2 ⟨a4, c4, ph, hpl, rfl, hm⟩
  clear hM
  have hM := hm
  clear hm
  try dsimp only at hM
  go_wp2_with fail
  apply Mem.atA
  · exact memA
  clear hM
  intro wst hM
  (try simp only [World.size_alloc, World.size_setCell, World.heap_drewN, heapDrew, Nat.add_assoc, Nat.reduceAdd, sA, List.cons_append, List.nil_append] at hM)
  (first | refine (startTick_any HC.out hM (.there (.there (.there (.there (.there (.there .here)))))) (by omega)).mono ?_)
  rintro e wc3 ⟨start, hst, rfl, hm⟩
  clear hM
  have hM := hm
  clear hm
  try dsimp only at hM
  go_wp2_with fail
  apply Mem.atWpA
  · exact memA
  clear hM
  intro wst hM
  (try simp only [World.size_alloc, World.size_setCell, World.heap_drewN, heapDrew, Nat.add_assoc, Nat.reduceAdd, sA, List.cons_append, List.nil_append] at hM)
  replace hM := hM.pick (is := [6, 5, 0, 1, 2, 3, 4, 7]) (by decide) rfl
  dsimp only [List.filterMap_cons, List.filterMap_nil, List.getElem?_cons_zero, List.getElem?_cons_succ] at hM
  refine AtT.startA hM.tail.tail hM 17 (by kernel_rfl) ?_
  clear hM
  intro wd hM
  have hS := hM.tail.tail
  refine AtT.tk 0 ?_ 23 ?_ hS ?_
  rotate_left
  · (intro wS hSw; (try dsimp only at hSw); have kr0 := (Mem.row hSw (.there .here)).cell; go_simp; (try rw [if_neg (by omega)]); try with_reducible rfl)
  simp only [Act.put, sA]
  refine AtT.tk 1 ?_ 24 ?_ hS ?_
  rotate_left
  · (intro wS hSw; (try dsimp only at hSw); go_simp; (try rw [if_neg (by omega)]); try with_reducible rfl)
  simp only [Act.put, sA]
  refine AtT.tk 2 ?_ 25 ?_ hS ?_
  rotate_left
  · (intro wS hSw; (try dsimp only at hSw); go_simp; (try rw [if_neg (by omega)]); try with_reducible rfl)
  simp only [Act.put, sA]
  refine AtT.tk 3 ?_ 26 ?_ hS ?_
  rotate_left
  · (intro wS hSw; (try dsimp only at hSw); go_simp; (try rw [if_neg (by omega)]); try with_reducible rfl)
  simp only [Act.put, sA]
  refine AtT.tk 4 ?_ 27 ?_ hS ?_
  rotate_left
  · (intro wS hSw; (try dsimp only at hSw); go_simp; (try rw [if_neg (by omega)]); try with_reducible rfl)
  simp only [Act.put, sA]
  refine AtT.tk 5 ?_ 28 ?_ hS ?_
  rotate_left
  · (intro wS hSw; (try dsimp only at hSw); have kr0 := (Mem.row hSw (.there .here)).cell; go_simp; (try rw [if_neg (by omega)]); try with_reducible rfl)
  simp only [Act.put, sA]
  refine AtT.tk 6 ?_ 29 ?_ hS ?_
  rotate_left
  · (intro wS hSw; (try dsimp only at hSw); go_simp; (try rw [if_neg (by omega)]); try with_reducible rfl)
  simp only [Act.put, sA]
  refine AtT.tk 7 ?_ 30 ?_ hS ?_
  rotate_left
  · (intro wS hSw; (try dsimp only at hSw); go_simp; (try rw [if_neg (by omega)]); try with_reducible rfl)
  simp only [Act.put, sA]
  refine AtT.tk 8 ?_ 31 ?_ hS ?_
  rotate_left
  · (intro wS hSw; (try dsimp only at hSw); go_simp; (try rw [if_neg (by omega)]); try with_reducible rfl)
  simp only [Act.put, sA]
  refine AtT.tk 9 ?_ 32 ?_ hS ?_
  rotate_left
  · (intro wS hSw; (try dsimp only at hSw); go_simp; (try rw [if_neg (by omega)]); try with_reducible rfl)
  simp only [Act.put, sA]
  refine AtT.tk 11 ?_ 34 ?_ hS ?_
  rotate_left
  · (intro wS hSw; (try dsimp only at hSw); go_simp; (try rw [if_neg (by omega)]); try with_reducible rfl)
  simp only [Act.put, sA]
  refine AtT.only (i := 10) (by kernel_rfl) rfl rfl ?_
  intro K hK
  go_simp
  have hM2 := hM.pick (is := [2, 4, 5, 6, 0, 3, 1, 7]) (by decide) rfl
  dsimp only [List.filterMap_cons, List.filterMap_nil, List.getElem?_cons_zero, List.getElem?_cons_succ] at hM2
  have hM3 := Mem.pack53 hM2
  clear hM hM2
  refine (cutsFor_any W H a1 c1 xs a4 ph.length c4 ph a2 n2 c2 ss start a3 n3 c3 ts HC.out hM3 (by omega) hxl).mono ?_
  clear hM3
  rintro e w4 ⟨a5, c5, cu, hcl, rfl, hm⟩
  have hm2 := Mem.unpack63 hm
  clear hm
  have hM := hm2.pick (is := [0, 5, 7, 1, 6, 2, 3, 4, 8]) (by decide) rfl
  clear hm2
  dsimp only [List.filterMap_cons, List.filterMap_nil, List.getElem?_cons_zero, List.getElem?_cons_succ] at hM
  try dsimp only
  refine hK.out _ _ (hM.tail.tail.tail) ?_
  clear hK K hS
  have hS := hM.tail.tail.tail
  refine AtT.only (i := 12) (by kernel_rfl) rfl rfl ?_
  intro K hK
  have kk2 := (hM.row (.there (.there .here))).cell
  have ff2 := (hM.row (.there (.there .here))).free
  have ll2 := (hM.row (.there (.there .here))).lt
  have kk4 := (hM.row (.there (.there (.there (.there .here))))).cell
  have ff4 := (hM.row (.there (.there (.there (.there .here))))).free
  have ll4 := (hM.row (.there (.there (.there (.there .here))))).lt
  go_simp
  clear kk2 ff2 ll2 kk4 ff4 ll4
  refine hK.out _ _ (by apply Mem.tail; apply Mem.tail; apply Mem.tail; (exact memA)) ?_
  clear hK K hS
  apply Mem.atT
  · exact memA
  clear hM
  intro hM
  (try simp only [World.size_alloc, World.size_setCell, World.heap_drewN, heapDrew, Nat.add_assoc, Nat.reduceAdd, sA, List.cons_append, List.nil_append] at hM)
  have hS := hM.tail.tail.tail
  refine AtT.tk 13 ?_ 3 ?_ hS ?_
  rotate_left
  · (intro wS hSw; (try dsimp only at hSw); go_simp; (try rw [if_neg (by omega)]); try with_reducible rfl)
  simp only [Act.put, sA]
  refine AtT.tk 14 ?_ 4 ?_ hS ?_
  rotate_left
  · (intro wS hSw; (try dsimp only at hSw); go_simp; (try rw [if_neg (by omega)]); try with_reducible rfl)
  simp only [Act.put, sA]
  refine AtT.tk 15 ?_ 5 ?_ hS ?_
  rotate_left
  · (intro wS hSw; (try dsimp only at hSw); go_simp; (try rw [if_neg (by omega)]); try with_reducible rfl)
  simp only [Act.put, sA]
  refine AtT.tk 16 ?_ 6 ?_ hS ?_
  rotate_left
  · (intro wS hSw; (try dsimp only at hSw); go_simp; (try rw [if_neg (by omega)]); try with_reducible rfl)
  simp only [Act.put, sA]
  refine AtT.last (by kernel_rfl) rfl (by kernel_rfl) ?_
  intro K hK
  clear hS
  go_simp
  refine hK.out _ _ ?_
  clear hK K
  obtain ⟨k1, f1, l1⟩ := hM.row (.there (.there .here))
  go_wp2
  refine bodyPost_ret (v := .tuple #[.agg #[.int .i64 W, .int .i64 H, .slice a1 xs.length c1], .slice a4 ph.length c4, .slice a2 n2 c2, .int .i64 start, .slice a5 cu.length c5, .slice a3 n3 c3]) (by simp [results, Tryz.results30, go_sem, k1]) rfl ⟨W, H, a1, c1, xs, a4, c4, ph, a2, n2, c2, ss, start, a5, c5, cu, a3, n3, c3, ts, ⟨HS.out, hpl, hcl, hst.1, hst.2⟩, rfl, ?_⟩
  apply HR.out.out5x
  apply Mem.curMore (hA := show A + 300 + 100 + 4 + 300 ≤ A + 1000 by omega) (p := .there (.there (.there (.there (.there .here)))))
  apply Mem.pick (is := [0, 3, 5, 6, 7, 1, 8])
  · exact memA
  · decide
  · rfl
set_option maxRecDepth 100000 in
set_option maxHeartbeats 8000000 in
theorem drawHold_any {ac : Option Addr} {nc cc : Nat} {l : List UInt8} {w : World} (hC : Rd FByt w ac nc cc l) :
    Calls Tryz.prog 6 #[.slice ac nc cc] w fun e w' => ∃ (W H : Int) (a1 : Option Addr) (c1 : Nat) (xs : List Int) (a4 : Option Addr) (c4 : Nat) (ph : List PhaseI) (a2 : Option Addr) (n2 c2 : Nat) (ss : List Int) (start : Int) (a5 : Option Addr) (c5 : Nat) (cu : List CutI) (a3 : Option Addr) (n3 c3 : Nat) (ts : List Int), (okT W H xs ∧ ph.length ≤ 10 ∧ cu.length ≤ 60 ∧ -1 ≤ start ∧ start ≤ 1001) ∧ e = .returned (.tuple #[.agg #[.int .i64 W, .int .i64 H, .slice a1 xs.length c1], .slice a4 ph.length c4, .slice a2 n2 c2, .int .i64 start, .slice a5 cu.length c5, .slice a3 n3 c3]) ∧ Mem w.heap.size w w' [owE FCut 37 a5 cu.length c5 cu, owE FPhase 128 a4 ph.length c4 ph, intE a1 xs.length c1 xs, intE a2 n2 c2 ss, intE a3 n3 c3 ts] := by
  have hM := Mem.start w
  have HC := Lib.hid hC
  clear hC
  go_enter Tryz.func6, Tryz.ntmps6
  go_wp2_with fail
  apply Mem.atA
  · exact memA
  clear hM
  intro wst hM
  (try simp only [World.size_alloc, World.size_setCell, World.heap_drewN, heapDrew, Nat.add_assoc, Nat.reduceAdd, sA, List.cons_append, List.nil_append] at hM)
  (first | refine (holding_any HC.out hM.curNew .here (by omega)).mono ?_)
  rintro e wc1 ⟨W, H, a1, c1, xs, a4, c4, ph, a2, n2, c2, ss, start, a5, c5, cu, a3, n3, c3, ts, hS, rfl, hm⟩
  clear hM
  have hM := hm
  clear hm
  try dsimp only at hM
  have HS := Lib.hid hS; clear hS
  go_upto_region 3 with fail
  apply Mem.atWpA
  · exact memA
  clear hM
  intro wst hM
  (try simp only [World.size_alloc, World.size_setCell, World.heap_drewN, heapDrew, Nat.add_assoc, Nat.reduceAdd, sA, List.cons_append, List.nil_append] at hM)
  replace hM := hM.pick (is := [7, 1, 2, 3, 4, 5, 0]) (by decide) rfl
  dsimp only [List.filterMap_cons, List.filterMap_nil, List.getElem?_cons_zero, List.getElem?_cons_succ] at hM
  obtain ⟨k0, f0, l0⟩ := hM.row .here
  obtain ⟨k6, f6, l6⟩ := hM.row (.there (.there (.there (.there (.there (.there .here))))))
  go_wp2
  refine bodyPost_ret (v := .tuple #[.agg #[.int .i64 W, .int .i64 H, .slice a1 xs.length c1], .slice a4 ph.length c4, .slice a2 n2 c2, .int .i64 start, .slice a5 cu.length c5, .slice a3 n3 c3]) (by simp [results, Tryz.results6, go_sem, k0, k6]) rfl ⟨W, H, a1, c1, xs, a4, c4, ph, a2, n2, c2, ss, start, a5, c5, cu, a3, n3, c3, ts, HS.out, rfl, ?_⟩
  apply Mem.pick (is := [1, 2, 3, 4, 5])
  · exact memA
  · decide
  · rfl
theorem Mem.one1 {B : Nat} {w0 w : World} {G : List Ent} {b : Nat} {cs : Array Value} {y : ScenarioI} (h : Mem B w0 w (rowE b 49 cs :: owE FPhase 128 y.ad y.n y.c y.ph :: G)) (hc : cs.toList = FScenario.cells [y]) (hw : FScenario.wf y) : Mem B w0 w (scenE (some ⟨b, 0, none⟩) 1 1 [y] :: G) :=
  Mem.nestClose (inner := scenIn) (xs := [y]) (Mem.toOwL (F := FScenario) [y] h hc (by intro x hx; obtain rfl := List.mem_singleton.1 hx; exact hw) (by show 1 * 2 ≤ 100000; decide))
theorem scL {xs : List ScenarioI} {y : ScenarioI} : (xs ++ [y]).length = xs.length + 1 := by simp
set_option maxRecDepth 100000 in
set_option maxHeartbeats 8000000 in
theorem ensemble_any {g : Nat} {ac : Option Addr} {nc cc : Nat} {l : List UInt8} {A : Nat} {w0 w : World} {G : List Ent} {F : Ent → List Ent} (hC : Rd FByt w0 ac nc cc l) (hM : Mem w0.heap.size w0 w G) (p : At G (curE g ac nc cc A) F) (hA : A ≤ 50000) :
    Calls Tryz.prog 53 #[.pointer (some ⟨g, 0, none⟩)] w fun e w' => ∃ (a' : Option Addr) (c' : Nat) (sc : List ScenarioI), sc.length ≤ 10 ∧ e = .returned (.slice a' sc.length c') ∧ Mem w0.heap.size w0 w' (scenE a' sc.length c' sc :: F (curE g ac nc cc (A + 600))) := by
  have HP := Lib.hid p
  have HC := Lib.hid hC
  clear p hC
  obtain ⟨i0, hi, hz0, hz1, hz2⟩ := info_parts Tryz.info49
  go_enter Tryz.func53, Tryz.ntmps53
  go_wp2_with fail
  apply Mem.atA
  · exact memA
  clear hM
  intro wst hM
  (try simp only [World.size_alloc, World.size_setCell, World.heap_drewN, heapDrew, Nat.add_assoc, Nat.reduceAdd, sA, List.cons_append, List.nil_append] at hM)
  (first | refine (pick_any 3 HC.out hM (.there HP.out) (by omega)).mono ?_)
  rintro e wc1 ⟨r, hr, hr2, rfl, hm⟩
  clear hM
  have hM := hm
  clear hm
  try dsimp only at hM
  have hr3 := pick_lt hr (by omega)
  clear hr hr2
  replace hM := Mem.nestNil (inner := scenIn) (Mem.toOwR (F := FScenario) hM)
  have hw : IntKind.i64.wrap (1 + (r : Int)) = ((r + 1 : Nat) : Int) := by rw [wrap_in (by omega)]; omega
  go_wp2_with fail
  go_loopw [3, 4] (fun s3 s4 wr => ∃ (k : Nat) (a' : Option Addr) (c' : Nat) (sc : List ScenarioI), s4 = .int .i64 k ∧ s3 = .slice a' sc.length c' ∧ sc.length + k ≤ 3 ∧ 1 ≤ sc.length + k ∧ Mem w0.heap.size w0 wr (scenE a' sc.length c' sc :: F (curE g ac nc cc (A + 2 + 110 * (3 - k))))) (fun _ s4 _ => (intOf s4).toNat)
  case atStart => exact ⟨r + 1, _, _, [], rfl, rfl, by simp; omega, by simp, hM.curMore (.there (HP.out.again _)) (by omega)⟩
  case round =>
    clear hM hr3 hw
    obtain ⟨k, a', c', sc, rfl, rfl, hxk, hx1, hM⟩ := hrel
    by_cases hk0 : 0 < k
    rotate_left
    · obtain rfl : k = 0 := by omega
      replace hM := hM.curMore (A' := A + 400) (.there (HP.out.again _)) (by omega)
      go_wp2_with fail
      apply Mem.atA
      · exact memA
      clear hM
      intro wst hM
      (try simp only [World.size_alloc, World.size_setCell, World.heap_drewN, heapDrew, Nat.add_assoc, Nat.reduceAdd, sA, List.cons_append, List.nil_append] at hM)
      (first | refine (pick_any 32 HC.out hM (.there (HP.out.again _)) (by omega)).mono ?_)
      rintro e wc3 ⟨r, hr, hr2, rfl, hm⟩
      clear hM
      have hM := hm
      clear hm
      try dsimp only at hM
      clear hr
      by_cases q0 : r = 0
      · subst q0
        go_wp2
        go_ret
        refine ⟨_, _, [], by simp, rfl, ?_⟩
        apply Mem.curMore (A := A + 400 + 2) (hA := by omega) (p := .there (HP.out.again _))
        apply Mem.nestNil (inner := scenIn)
        apply Mem.toOwR
        apply Mem.drop1 (f := scenE a' sc.length c' sc)
        (exact memA)
      by_cases q1 : r = 1
      · subst q1
        clear q0
        obtain ⟨R, hR⟩ : ∃ R, HeadP F R := HP.out.head
        have HR := Lib.hid hR; clear hR
        replace hM := HR.out.in1 hM
        have hO := hM.nestOw .here
        obtain ⟨gg, rfl, -, hgl⟩ := hO.head (by omega)
        have hcap := hO.rd.cap
        have hpos : 0 < sc.length := by omega
        clear hO
        obtain ⟨v, hv⟩ : ∃ v, sc.getD 0 ScenarioI.zero = v := ⟨_, rfl⟩
        have HV := Lib.hid hv; clear hv
        have j2 : (0 : Int) < (sc.length : Int) := by omega
        go_wp2_with fail
        apply Mem.atWpA
        · exact memA
        clear hM
        intro wst hM
        (try simp only [World.size_alloc, World.size_setCell, World.heap_drewN, heapDrew, Nat.add_assoc, Nat.reduceAdd, sA, List.cons_append, List.nil_append] at hM)
        replace hM := hM.pick (is := [1, 0, 2]) (by decide) rfl
        dsimp only [List.filterMap_cons, List.filterMap_nil, List.getElem?_cons_zero, List.getElem?_cons_succ] at hM
        refine AtT.startA hM.tail hM 10 (by kernel_rfl) ?_
        clear hM
        intro wd hM
        have hS := hM.tail
        refine AtT.tk 0 ?_ 29 ?_ hS ?_
        rotate_left
        · (intro wS hSw; (try dsimp only at hSw); go_simp; (try rw [if_neg (by omega)]); try with_reducible rfl)
        simp only [Act.put, sA]
        refine AtT.tk 1 ?_ 30 ?_ hS ?_
        rotate_left
        · (intro wS hSw; (try dsimp only at hSw); go_simp; (try rw [if_neg (by omega)]); try with_reducible rfl)
        simp only [Act.put, sA]
        refine AtT.tk 2 ?_ 31 ?_ hS ?_
        rotate_left
        · (intro wS hSw; (try dsimp only at hSw); have hcx := ((hSw.nestOw .here).cellScenario hpos).1; rw [HV.out] at hcx; simp only [Nat.zero_mul, Nat.zero_add] at hcx; go_simp; (try rw [if_neg (by omega)]); try with_reducible rfl)
        simp only [Act.put, sA]
        refine AtT.tk 3 ?_ 32 ?_ hS ?_
        rotate_left
        · (intro wS hSw; (try dsimp only at hSw); go_simp; (try rw [if_neg (by omega)]); try with_reducible rfl)
        simp only [Act.put, sA]
        refine AtT.tk 4 ?_ 33 ?_ hS ?_
        rotate_left
        · (intro wS hSw; (try dsimp only at hSw); have hcx := ((hSw.nestOw .here).cellScenario hpos).1; rw [HV.out] at hcx; simp only [Nat.zero_mul, Nat.zero_add] at hcx; go_simp; (try rw [if_neg (by omega)]); try with_reducible rfl)
        simp only [Act.put, sA]
        refine AtT.tk 5 ?_ 34 ?_ hS ?_
        rotate_left
        · (intro wS hSw; (try dsimp only at hSw); go_simp; (try rw [if_neg (by omega)]); try with_reducible rfl)
        simp only [Act.put, sA]
        refine AtT.only (i := 6) (by kernel_rfl) rfl rfl ?_
        intro K hK
        go_simp
        refine hK.out _ _ (by apply Mem.tail; apply Mem.tail; (exact memA)) ?_
        clear hK K hS
        have hMp := hM
        apply Mem.atT
        · exact memA
        clear hM
        intro hM
        (try simp only [World.size_alloc, World.size_setCell, World.heap_drewN, heapDrew, Nat.add_assoc, Nat.reduceAdd, sA, List.cons_append, List.nil_append] at hM)
        have hS := hM.tail.tail
        refine AtT.only (i := 7) (by kernel_rfl) rfl rfl ?_
        intro K hK
        go_simp
        refine (among_any [0, 101] HC.out hM (.there .here) (fun _ => .here) rfl (by decide) (by decide) (by omega) (by decide)).mono ?_
        rintro e w4 ⟨x, hx, rfl, hm⟩
        have hxb := amb 0 101 hx (by decide)
        clear hM hx
        have hM := hm
        clear hm
        try dsimp only at hM
        try dsimp only
        refine hK.out _ _ (hM.tail.tail) ?_
        clear hK K hS
        have hS := hM.tail.tail
        refine AtT.tk 8 ?_ 37 ?_ hS ?_
        rotate_left
        · (intro wS hSw; (try dsimp only at hSw); go_simp; (try rw [if_neg (by omega)]); try with_reducible rfl)
        simp only [Act.put, sA]
        refine AtT.tk 9 ?_ 38 ?_ hS ?_
        rotate_left
        · (intro wS hSw; (try dsimp only at hSw); have hcx := ((hSw.nestOw .here).cellScenario hpos).1; rw [HV.out] at hcx; simp only [Nat.zero_mul, Nat.zero_add] at hcx; go_simp; (try rw [if_neg (by omega)]); try with_reducible rfl)
        simp only [Act.put, sA]
        refine AtT.last (by kernel_rfl) rfl (by kernel_rfl) ?_
        intro K hK
        clear hS
        have kk0 := (hM.row .here).cell
        have ff0 := (hM.row .here).free
        have ll0 := (hM.row .here).lt
        have hO := hM.nestOw (.there (.there .here))
        obtain ⟨q0, q1⟩ := hO.cellScenario hpos
        simp only [Nat.zero_mul, Nat.zero_add] at q0 q1
        have hfr := hO.free
        have hti := hO.till _ ⟨_, rfl, rfl⟩
        go_simp
        clear kk0 ff0 ll0
        refine hK.out _ _ ?_
        clear hK K
        clear q0 q1 hfr hti hO
        apply Mem.atEx (hM.nestSet (k := 0) (y := (⟨v.ad, v.n, v.c, v.ph, x⟩ : ScenarioI)) (.there (.there .here)) hpos (by show I64 x; unfold I64; omega) (by show scenIn _ = scenIn _; rw [show sc.getD 0 FScenario.z = v from HV.out]) (by simp [setRec, FScenario]))
        clear hM
        intro wst hM
        go_wp2
        go_ret
        refine ⟨_, c', sc.set 0 (⟨v.ad, v.n, v.c, v.ph, x⟩ : ScenarioI), by rw [List.length_set]; omega, by rw [List.length_set]; rfl, ?_⟩
        rw [List.length_set]
        apply HR.out.out1
        apply Mem.curMore (A := A + 400 + 2 + 2) (hA := by omega) (p := .there .here)
        apply Mem.pick (is := [2, 1, 3])
        · exact memA
        · decide
        · rfl
      by_cases q2 : r = 2
      rotate_left
      · have q0' : ¬ (r : Int) = 0 := by omega
        have q1' : ¬ (r : Int) = 1 := by omega
        have q2' : ¬ (r : Int) = 2 := by omega
        go_wp2
        go_ret
        exact ⟨a', c', sc, by omega, rfl, hM.curMore (.there (HP.out.again _)) (by omega)⟩
      subst q2
      clear q0 q1
      go_wp2_with fail
      go_loopw [3] (fun s3 wr => ∃ (a' : Option Addr) (c' : Nat) (sc : List ScenarioI), s3 = .slice a' sc.length c' ∧ sc.length ≤ 5 ∧ Mem w0.heap.size w0 wr (scenE a' sc.length c' sc :: F (curE g ac nc cc (A + 410 + 2 * sc.length)))) (fun s3 _ => 17 - lenP s3)
      case atStart => exact ⟨a', c', sc, rfl, by omega, hM.curMore (.there (HP.out.again _)) (by omega)⟩
      case round =>
        clear hM
        obtain ⟨a2, c2, sc, rfl, hz, hM⟩ := hrel
        go_wp2_with fail
        apply Mem.atA
        · exact memA
        clear hM
        intro wst hM
        (try simp only [World.size_alloc, World.size_setCell, World.heap_drewN, heapDrew, Nat.add_assoc, Nat.reduceAdd, sA, List.cons_append, List.nil_append] at hM)
        (first | refine (pick_any 2 HC.out hM (.there (HP.out.again _)) (by omega)).mono ?_)
        rintro e wc9 ⟨r, hr, hr2, rfl, hm⟩
        clear hM
        have hM := hm
        clear hm
        try dsimp only at hM
        have hr3 := pick_lt hr (by omega)
        clear hr hr2
        have hw : IntKind.i64.wrap (4 + (r : Int)) = 4 + (r : Int) := by rw [wrap_in (by omega)]
        by_cases hlt : sc.length < 4 + r
        · have hlt2 : (sc.length : Int) < 4 + (r : Int) := by omega
          go_wp2_with (at_builtin; apply Mem.atL; (focus ((exact memA); done)); clear hM; intro hM; (try simp only [World.size_alloc, World.size_setCell, World.heap_drewN, heapDrew, Nat.add_assoc, Nat.reduceAdd, sA, List.cons_append, List.nil_append] at hM); refine wpList_pushN (F := FScenario) (inner := scenIn) (⟨some ⟨wc9.heap.size, 0, none⟩, 1, 1, [⟨0, 5⟩], 1⟩ : ScenarioI) (Mem.swap (Mem.toOwL (F := FPhase) [⟨0, 5⟩] hM.swap rfl (by intro x hx; obtain rfl := List.mem_singleton.1 hx; exact phI (by omega) (by omega)) (by show 1 * 2 ≤ 100000; decide))) rfl (by show I64 1; unfold I64; omega) (by decide) (by show (sc.length + 1) * 2 ≤ _; omega) i0 (.agg #[.slice none 0 0, .int .i64 0]) 32 hi hz0 hz1 hz2 rfl (by omega) rfl _ _ _ Tryz.underlying43 rfl rfl rfl ?_)
          intro a3 c3 w3 hM
          go_wp2
          go_roundw
          case rel =>
            refine ⟨a3, c3, sc ++ [(⟨some ⟨wc9.heap.size, 0, none⟩, 1, 1, [⟨0, 5⟩], 1⟩ : ScenarioI)], by rw [scL], by rw [scL]; omega, ?_⟩
            rw [scL]
            exact hM.curMore (.there (HP.out.again _)) (by omega)
          case measure => simp [lenP]; omega
        · have hlt2 : ¬ (sc.length : Int) < 4 + (r : Int) := by omega
          go_wp2
          go_ret
          exact ⟨a2, c2, sc, by omega, rfl, hM.curMore (.there (HP.out.again _)) (by omega)⟩
    obtain ⟨m, rfl⟩ : ∃ m, k = m + 1 := ⟨k - 1, by omega⟩
    go_wp2_with fail
    apply Mem.atA
    · exact memA
    clear hM
    intro wst hM
    (try simp only [World.size_alloc, World.size_setCell, World.heap_drewN, heapDrew, Nat.add_assoc, Nat.reduceAdd, sA, List.cons_append, List.nil_append] at hM)
    (first | refine (phases_any HC.out hM (.there (HP.out.again _)) (by omega)).mono ?_)
    rintro e wc3 ⟨a4, c4, ph, hpl, rfl, hm⟩
    clear hM
    have hM := hm
    clear hm
    try dsimp only at hM
    go_wp2_with fail
    apply Mem.atA
    · exact memA
    clear hM
    intro wst hM
    (try simp only [World.size_alloc, World.size_setCell, World.heap_drewN, heapDrew, Nat.add_assoc, Nat.reduceAdd, sA, List.cons_append, List.nil_append] at hM)
    (first | refine (among_any [1, 1, 2, 5, 100] HC.out hM (.there (.there (.there (HP.out.again _)))) (fun _ => .here) rfl (by decide) (by decide) (by omega) (by decide)).mono ?_)
    rintro e wc5 ⟨y, hy, rfl, hm⟩
    clear hM
    have hM := hm
    clear hm
    try dsimp only at hM
    have hyb := amb 1 100 hy (by decide)
    clear hy
    replace hM := hM.tail
    go_wp2_with (at_builtin; apply Mem.atL; (focus ((exact memA); done)); clear hM; intro hM; refine wpList_pushN (F := FScenario) (inner := scenIn) (⟨a4, ph.length, c4, ph, y⟩ : ScenarioI) hM rfl (by show I64 y; unfold I64; omega) (by decide) (by show (sc.length + 1) * 2 ≤ _; omega) i0 (.agg #[.slice none 0 0, .int .i64 0]) 32 hi hz0 hz1 hz2 rfl (by omega) rfl _ _ _ Tryz.underlying43 rfl rfl rfl ?_)
    intro a3 c3 w3 hM
    go_wp2
    go_roundw
    case rel =>
      refine ⟨m, a3, c3, sc ++ [(⟨a4, ph.length, c4, ph, y⟩ : ScenarioI)], by go_num, by rw [scL], by rw [scL]; omega, by rw [scL]; omega, ?_⟩
      rw [scL]
      exact hM.curMore (.there (HP.out.again _)) (by omega)
    case measure => simp [intOf]
set_option maxRecDepth 100000 in
set_option maxHeartbeats 8000000 in
theorem drawChance_any {ac : Option Addr} {nc cc : Nat} {l : List UInt8} {w : World} (hC : Rd FByt w ac nc cc l) :
    Calls Tryz.prog 16 #[.slice ac nc cc] w fun e w' => ∃ (W H : Int) (a1 : Option Addr) (c1 : Nat) (xs : List Int) (a6 : Option Addr) (c6 : Nat) (sc : List ScenarioI) (a2 : Option Addr) (n2 c2 : Nat) (ss : List Int) (start : Int) (a5 : Option Addr) (c5 : Nat) (cu : List CutI) (a3 : Option Addr) (n3 c3 : Nat) (ts : List Int), sc.length ≤ 20 ∧ e = .returned (.tuple #[.agg #[.int .i64 W, .int .i64 H, .slice a1 xs.length c1], .slice a6 sc.length c6, .slice a2 n2 c2, .int .i64 start, .slice a5 cu.length c5, .slice a3 n3 c3]) ∧ Mem w.heap.size w w' [scenE a6 sc.length c6 sc, owE FCut 37 a5 cu.length c5 cu, intE a1 xs.length c1 xs, intE a2 n2 c2 ss, intE a3 n3 c3 ts] := by
  have hM := Mem.start w
  have HC := Lib.hid hC
  clear hC
  obtain ⟨i0, hi, hz0, hz1, hz2⟩ := info_parts Tryz.info49
  go_enter Tryz.func16, Tryz.ntmps16
  go_wp2_with fail
  apply Mem.atA
  · exact memA
  clear hM
  intro wst hM
  (try simp only [World.size_alloc, World.size_setCell, World.heap_drewN, heapDrew, Nat.add_assoc, Nat.reduceAdd, sA, List.cons_append, List.nil_append] at hM)
  (first | refine (holding_any HC.out hM.curNew .here (by omega)).mono ?_)
  rintro e wc1 ⟨W, H, a1, c1, xs, a4, c4, ph, a2, n2, c2, ss, start, a5, c5, cu, a3, n3, c3, ts, hS, rfl, hm⟩
  clear hM
  have hM := hm
  clear hm
  try dsimp only at hM
  clear hS
  go_wp2_with fail
  apply Mem.atA
  · exact memA
  clear hM
  intro wst hM
  (try simp only [World.size_alloc, World.size_setCell, World.heap_drewN, heapDrew, Nat.add_assoc, Nat.reduceAdd, sA, List.cons_append, List.nil_append] at hM)
  (first | refine (pick_any 3 HC.out hM (.there (.there (.there (.there (.there (.there .here)))))) (by omega)).mono ?_)
  rintro e wc2 ⟨r, hr, hr2, rfl, hm⟩
  clear hM
  have hM := hm
  clear hm
  try dsimp only at hM
  have hr3 := pick_lt hr (by omega)
  clear hr hr2
  have hw : IntKind.i64.wrap (1 + (r : Int)) = 1 + (r : Int) := wrap_in (by omega)
  go_wp2_with fail
  apply Mem.atA
  · exact memA
  clear hM
  intro wst hM
  (try simp only [World.size_alloc, World.size_setCell, World.heap_drewN, heapDrew, Nat.add_assoc, Nat.reduceAdd, sA, List.cons_append, List.nil_append] at hM)
  (first | refine (ensemble_any HC.out hM (.there (.there (.there (.there (.there (.there (.there .here))))))) (by omega)).mono ?_)
  rintro e wc3 ⟨a7, c7, se, hse, rfl, hm⟩
  clear hM
  have hM := hm
  clear hm
  try dsimp only at hM
  replace hM := hM.pick (is := [1, 4, 0, 2, 3, 5, 6, 7, 8, 9]) (by decide) rfl
  dsimp only [List.filterMap_cons, List.filterMap_nil, List.getElem?_cons_zero, List.getElem?_cons_succ] at hM
  replace hM := Mem.one1 (y := (⟨a4, ph.length, c4, ph, 1 + (r : Int)⟩ : ScenarioI)) hM rfl (by show I64 (1 + (r : Int)); unfold I64; omega)
  clear hw
  go_wp2_with (at_builtin; apply Mem.atL; (focus ((exact memA); done)); clear hM; intro hM; refine wpList_appN (F := FScenario) (inner := scenIn) hM (by show (1 + se.length) * 2 ≤ _; omega) i0 (.agg #[.slice none 0 0, .int .i64 0]) 32 hi hz0 hz1 hz2 rfl (by omega) rfl _ _ _ Tryz.underlying43 rfl rfl rfl ?_)
  intro a6 c6 w6 hM
  go_upto_region 4 with fail
  apply Mem.atWpA
  · exact memA
  clear hM
  intro wst hM
  (try simp only [World.size_alloc, World.size_setCell, World.heap_drewN, heapDrew, Nat.add_assoc, Nat.reduceAdd, sA, List.cons_append, List.nil_append] at hM)
  obtain ⟨sc, hsc⟩ : ∃ sc, (⟨a4, ph.length, c4, ph, 1 + (r : Int)⟩ : ScenarioI) :: se = sc := ⟨_, rfl⟩
  have hsl : 1 + se.length = sc.length := by rw [← hsc, List.length_cons]; omega
  rw [hsc, hsl] at hM
  rw [hsl]
  have hs20 : sc.length ≤ 20 := by omega
  clear hsc hsl hse
  replace hM := hM.pick (is := [7, 0, 2, 3, 4, 5, 1]) (by decide) rfl
  dsimp only [List.filterMap_cons, List.filterMap_nil, List.getElem?_cons_zero, List.getElem?_cons_succ] at hM
  obtain ⟨k0, f0, l0⟩ := hM.row .here
  obtain ⟨k6, f6, l6⟩ := hM.row (.there (.there (.there (.there (.there (.there .here))))))
  go_wp2
  refine bodyPost_ret (v := .tuple #[.agg #[.int .i64 W, .int .i64 H, .slice a1 xs.length c1], .slice a6 sc.length c6, .slice a2 n2 c2, .int .i64 start, .slice a5 cu.length c5, .slice a3 n3 c3]) (by simp [results, Tryz.results16, go_sem, k0, k6]) rfl ⟨W, H, a1, c1, xs, a6, c6, sc, a2, n2, c2, ss, start, a5, c5, cu, a3, n3, c3, ts, hs20, rfl, ?_⟩
  apply Mem.pick (is := [1, 2, 3, 4, 5])
  · exact memA
  · decide
  · rfl
end Go.Proofs.YtojfbcgfeojdfaaGreat
