/-
  The reference's draws of phases, of a start and of a tick.
-/
import Derived.Test.YtojfbcgfeojdfaaGreatKSpeed
import Derived.Test.YtojfbcgfeojdfaaGreatKDrawSmk
import Derived.Deep.DeepCutAuto
/-
  The reference's draws of phases, of a start and of a tick.
-/
namespace Go.Proofs.YtojfbcgfeojdfaaGreat
set_option linter.unusedSimpArgs false
set_option linter.unusedVariables false
open Go.RowKit

def lenP : Value → Nat | .slice _ n _ => n | _ => 0
theorem Mem.toOwL {α : Type} {F : Fl α} {E : TypeId} {B : Nat} {w0 w : World} {G : List Ent} {b : Nat} {cs : Array Value} (xs : List α) (h : Mem B w0 w (rowE b E cs :: G)) (hc : cs.toList = F.cells xs) (hw : ∀ x ∈ xs, F.wf x) (hr : xs.length * F.sz ≤ 100000) : Mem B w0 w (owE F E (some ⟨b, 0, none⟩) xs.length xs.length xs :: G) := by
  have h1 := h.ents _ In.here.mem
  obtain ⟨h2, h3⟩ := h1
  have hp := F.pos
  have hl : xs.length ≤ xs.length * F.sz := Nat.le_mul_of_pos_right _ hp
  have hcs : cs.size = xs.length * F.sz := by
    have := congrArg List.length hc
    rw [Fl.cells_length] at this
    simpa using this
  refine h.put .here (Keeps.refl _ _) ?_ (fun k hk => ?_)
  · refine ⟨rfl, by omega, hw, by rw [Fl.cells_length], .inr ⟨b, xs.length, cs, rfl, h2, h3, Nat.le_refl _, by unfold maxLen; omega, hcs, ?_⟩⟩
    rw [hc]
    exact List.take_of_length_le (by rw [Fl.cells_length]; exact Nat.le_refl _)
  · obtain ⟨ad, e1, e2⟩ := hk
    injection e1 with e1
    subst e1
    exact .inl e2
theorem phI {x y : Int} (hx : -100000 ≤ x ∧ x ≤ 100000) (hy : -100000 ≤ y ∧ y ≤ 100000) : FPhase.wf ⟨x, y⟩ := by
  refine ⟨?_, ?_⟩ <;> (dsimp only; unfold I64; omega)
theorem phL {xs : List PhaseI} {y : PhaseI} : (xs ++ [y]).length = xs.length + 1 := by simp
set_option maxRecDepth 100000 in
set_option maxHeartbeats 8000000 in
theorem phases_any {g : Nat} {ac : Option Addr} {nc cc : Nat} {l : List UInt8} {A : Nat} {w0 w : World} {G : List Ent} {F : Ent → List Ent} (hC : Rd FByt w0 ac nc cc l) (hM : Mem w0.heap.size w0 w G) (p : At G (curE g ac nc cc A) F) (hA : A ≤ 10000000) :
    Calls Tryz.prog 67 #[.pointer (some ⟨g, 0, none⟩)] w fun e w' => ∃ (a' : Option Addr) (c' : Nat) (xs : List PhaseI), xs.length ≤ 10 ∧ e = .returned (.slice a' xs.length c') ∧ Mem w0.heap.size w0 w' (owE FPhase 128 a' xs.length c' xs :: F (curE g ac nc cc (A + 100))) := by
  have HP := Lib.hid p
  have HC := Lib.hid hC
  clear p hC
  obtain ⟨i0, hi, hz0, hz1, hz2⟩ := info_parts Tryz.info128
  go_enter Tryz.func67, Tryz.ntmps67
  go_wp2_with fail
  apply Mem.atA
  · exact memA
  clear hM
  intro wst hM
  (try simp only [World.size_alloc, World.size_setCell, World.heap_drewN, heapDrew, Nat.add_assoc, Nat.reduceAdd, sA, List.cons_append, List.nil_append] at hM)
  (first | refine (pick_any 9 HC.out hM HP.out (by omega)).mono ?_)
  rintro e wc1 ⟨r, hr, hr2, rfl, hm⟩
  clear hM
  have hM := hm
  clear hm
  try dsimp only at hM
  have hr9 := pick_lt hr (by omega)
  clear hr hr2
  have hw : IntKind.i64.wrap (1 + (r : Int)) = 1 + (r : Int) := wrap_in (by omega)
  go_wp2_with fail
  apply Mem.atA
  · exact memA
  clear hM
  intro wst hM
  (try simp only [World.size_alloc, World.size_setCell, World.heap_drewN, heapDrew, Nat.add_assoc, Nat.reduceAdd, sA, List.cons_append, List.nil_append] at hM)
  (first | refine (pick_any 4 HC.out hM (.there (HP.out.again _)) (by omega)).mono ?_)
  rintro e wc2 ⟨q, hq, hq2, rfl, hm⟩
  clear hM
  have hM := hm
  clear hm
  try dsimp only at hM
  have hq4 := pick_lt hq (by omega)
  clear hq hq2
  replace hM := Mem.toOwL (F := FPhase) [⟨0, 1 + (r : Int)⟩] hM rfl (by intro x hx; obtain rfl := List.mem_singleton.1 hx; exact phI (by omega) (by omega)) (by show 1 * 2 ≤ 100000; decide)
  clear hw
  go_wp2_with fail
  go_loopw [3, 4, 5] (fun s3 s4 s5 wr => ∃ (k : Nat) (d : Int) (a' : Option Addr) (c' : Nat) (xs : List PhaseI), s5 = .int .i64 k ∧ s4 = .int .i64 d ∧ s3 = .slice a' xs.length c' ∧ xs.length + k ≤ 4 ∧ 1 ≤ xs.length ∧ 0 ≤ d ∧ d ≤ 31 * (4 - (k : Int)) ∧ Mem w0.heap.size w0 wr (owE FPhase 128 a' xs.length c' xs :: F (curE g ac nc cc (A + 4 + 4 * (4 - k))))) (fun _ _ s5 _ => (intOf s5).toNat)
  case atStart => exact ⟨q, 0, _, _, [⟨0, 1 + (r : Int)⟩], rfl, rfl, rfl, by simp; omega, by simp, by omega, by omega, hM.curMore (.there (HP.out.again _)) (by omega)⟩
  case round =>
    clear hM hr9 hq4
    obtain ⟨k, d, a', c', xs, rfl, rfl, rfl, hxk, hx1, e0, e1, hM⟩ := hrel
    by_cases hk0 : 0 < k
    rotate_left
    · obtain rfl : k = 0 := by omega
      replace hM := hM.curMore (A' := A + 30) (.there (HP.out.again _)) (by omega)
      go_wp2_with fail
      apply Mem.atA
      · exact memA
      clear hM
      intro wst hM
      (try simp only [World.size_alloc, World.size_setCell, World.heap_drewN, heapDrew, Nat.add_assoc, Nat.reduceAdd, sA, List.cons_append, List.nil_append] at hM)
      (first | refine (pick_any 32 HC.out hM (.there (HP.out.again _)) (by omega)).mono ?_)
      rintro e wc3 ⟨r, hr, hr2, rfl, hm⟩
      clear hM
      have hM := hm
      clear hm
      try dsimp only at hM
      clear hr
      by_cases q0 : r = 0
      · subst q0
        go_wp2_with fail
        apply Mem.atA
        · exact memA
        clear hM
        intro wst hM
        (try simp only [World.size_alloc, World.size_setCell, World.heap_drewN, heapDrew, Nat.add_assoc, Nat.reduceAdd, sA, List.cons_append, List.nil_append] at hM)
        (first | refine (among_any [0, 9999, 10000] HC.out hM (.there (.there (HP.out.again _))) (fun _ => .here) rfl (by decide) (by decide) (by omega) (by decide)).mono ?_)
        rintro e wc4 ⟨x, hx, rfl, hm⟩
        clear hM
        have hM := hm
        clear hm
        try dsimp only at hM
        have hxb := amb (0) 10000 hx (by decide)
        clear hx
        replace hM := hM.tail
        go_wp2_with fail
        apply Mem.atA
        · exact memA
        clear hM
        intro wst hM
        (try simp only [World.size_alloc, World.size_setCell, World.heap_drewN, heapDrew, Nat.add_assoc, Nat.reduceAdd, sA, List.cons_append, List.nil_append] at hM)
        (first | refine (among_any [0, 9, 10] HC.out hM (.there (.there (HP.out.again _))) (fun _ => .here) rfl (by decide) (by decide) (by omega) (by decide)).mono ?_)
        rintro e wc5 ⟨y, hy, rfl, hm⟩
        clear hM
        have hM := hm
        clear hm
        try dsimp only at hM
        have hyb := amb (0) 10 hy (by decide)
        clear hy
        replace hM := hM.tail
        go_wp2_with (at_builtin; apply Mem.atL; (focus ((exact memA); done)); clear hM; intro hM; refine wpList_pushR (F := FPhase) (⟨x, y⟩ : PhaseI) hM (fun _ => .here) rfl (phI (by omega) (by omega)) (by decide) (by show (xs.length + 1) * 2 ≤ _; omega) i0 (.agg #[.int .i64 0, .int .i64 0]) 16 hi hz0 hz1 hz2 rfl (by omega) rfl _ _ _ Tryz.underlying27 rfl rfl rfl ?_)
        intro a3 c3 w3 hM
        go_wp2
        go_ret
        exact ⟨a3, c3, xs ++ [⟨x, y⟩], by rw [phL]; omega, by rw [phL]; rfl, by rw [phL]; exact hM.curMore (.there (HP.out.again _)) (by omega)⟩
      by_cases q1 : r = 1
      · subst q1
        clear q0
        go_wp2_with fail
        apply Mem.atA
        · exact memA
        clear hM
        intro wst hM
        (try simp only [World.size_alloc, World.size_setCell, World.heap_drewN, heapDrew, Nat.add_assoc, Nat.reduceAdd, sA, List.cons_append, List.nil_append] at hM)
        (first | refine (among_any [1, 0, -1] HC.out hM (.there (.there (HP.out.again _))) (fun _ => .here) rfl (by decide) (by decide) (by omega) (by decide)).mono ?_)
        rintro e wc4 ⟨x, hx, rfl, hm⟩
        clear hM
        have hM := hm
        clear hm
        try dsimp only at hM
        have hxb := amb (-1) 1 hx (by decide)
        clear hx
        replace hM := hM.tail
        have hO := hM.ow .here
        obtain ⟨gg, rfl, -, hgl⟩ := hO.head (by omega)
        obtain ⟨p0, p1⟩ := hO.cellPhase (k := 0) (by omega)
        have hfr := hO.free
        have hcap := hO.rd.cap
        have HQ := Lib.hid (hM.putPhase (k := 0) (by omega) ⟨x, 3⟩ (phI (by omega) (by omega)) .here)
        clear hO
        have j2 : (0 : Int) < (xs.length : Int) := by omega
        go_wp2
        go_ret
        refine ⟨_, c', xs.set 0 ⟨x, 3⟩, by rw [List.length_set]; omega, by rw [List.length_set]; rfl, ?_⟩
        rw [List.length_set]
        apply Mem.curMore (A := A + 30 + 2 + 2) (hA := by omega) (p := .there (HP.out.again _))
        have := HQ.out
        simpa using this
      by_cases q2 : r = 2
      · subst q2
        clear q0 q1
        go_wp2
        go_ret
        refine ⟨_, _, [], by simp, rfl, ?_⟩
        apply Mem.curMore (A := A + 30 + 2) (hA := by omega) (p := .there (HP.out.again _))
        apply Mem.toOwR
        apply Mem.drop1 (f := owE FPhase 128 a' xs.length c' xs)
        (exact memA)
      by_cases q3 : r = 3
      rotate_left
      · have q0' : ¬ (r : Int) = 0 := by omega
        have q1' : ¬ (r : Int) = 1 := by omega
        have q2' : ¬ (r : Int) = 2 := by omega
        have q3' : ¬ (r : Int) = 3 := by omega
        go_wp2
        go_ret
        exact ⟨a', c', xs, by omega, rfl, hM.curMore (.there (HP.out.again _)) (by omega)⟩
      subst q3
      clear q0 q1 q2
      go_wp2_with fail
      go_loopw [3] (fun s3 wr => ∃ (a' : Option Addr) (c' : Nat) (zs : List PhaseI), s3 = .slice a' zs.length c' ∧ zs.length ≤ 8 ∧ Mem w0.heap.size w0 wr (owE FPhase 128 a' zs.length c' zs :: F (curE g ac nc cc (A + 40 + 2 * zs.length)))) (fun s3 _ => 17 - lenP s3)
      case atStart => exact ⟨a', c', xs, rfl, by omega, hM.curMore (.there (HP.out.again _)) (by omega)⟩
      case round =>
        clear hM
        obtain ⟨a2, c2, zs, rfl, hz, hM⟩ := hrel
        go_wp2_with fail
        apply Mem.atA
        · exact memA
        clear hM
        intro wst hM
        (try simp only [World.size_alloc, World.size_setCell, World.heap_drewN, heapDrew, Nat.add_assoc, Nat.reduceAdd, sA, List.cons_append, List.nil_append] at hM)
        (first | refine (pick_any 2 HC.out hM (.there (HP.out.again _)) (by omega)).mono ?_)
        rintro e wc9 ⟨r, hr, hr2, rfl, hm⟩
        clear hM
        have hM := hm
        clear hm
        try dsimp only at hM
        have hr3 := pick_lt hr (by omega)
        clear hr hr2
        have hw : IntKind.i64.wrap (6 + (r : Int)) = 6 + (r : Int) := by rw [wrap_in (by omega)]
        by_cases hlt : zs.length < 6 + r
        · have hlt2 : (zs.length : Int) < 6 + (r : Int) := by omega
          have hw1 : IntKind.i64.wrap (10 * (zs.length : Int)) = 10 * (zs.length : Int) := by rw [wrap_in (by omega)]
          have hw2 : IntKind.i64.wrap (200 + 10 * (zs.length : Int)) = 200 + 10 * (zs.length : Int) := by rw [wrap_in (by omega)]
          go_wp2_with (at_builtin; apply Mem.atL; (focus ((exact memA); done)); clear hM; intro hM; refine wpList_pushR (F := FPhase) (⟨200 + 10 * (zs.length : Int), 2⟩ : PhaseI) hM (fun _ => .here) rfl (phI (by omega) (by omega)) (by decide) (by show (zs.length + 1) * 2 ≤ _; omega) i0 (.agg #[.int .i64 0, .int .i64 0]) 16 hi hz0 hz1 hz2 rfl (by omega) rfl _ _ _ Tryz.underlying27 rfl rfl rfl ?_)
          intro a3 c3 w3 hM
          go_wp2
          go_roundw
          case rel =>
            refine ⟨a3, c3, zs ++ [⟨200 + 10 * (zs.length : Int), 2⟩], by rw [phL], by rw [phL]; omega, ?_⟩
            rw [phL]
            exact hM.curMore (.there (HP.out.again _)) (by omega)
          case measure => simp [lenP]; omega
        · have hlt2 : ¬ (zs.length : Int) < 6 + (r : Int) := by omega
          go_wp2
          go_ret
          exact ⟨a2, c2, zs, by omega, rfl, hM.curMore (.there (HP.out.again _)) (by omega)⟩
    obtain ⟨m, rfl⟩ : ∃ m, k = m + 1 := ⟨k - 1, by omega⟩
    have hw1 : IntKind.i64.wrap (d + 1) = d + 1 := wrap_in (by omega)
    go_wp2_with fail
    apply Mem.atA
    · exact memA
    clear hM
    intro wst hM
    (try simp only [World.size_alloc, World.size_setCell, World.heap_drewN, heapDrew, Nat.add_assoc, Nat.reduceAdd, sA, List.cons_append, List.nil_append] at hM)
    (first | refine (pick_any 30 HC.out hM (.there (HP.out.again _)) (by omega)).mono ?_)
    rintro e wc3 ⟨r, hr, hr2, rfl, hm⟩
    clear hM
    have hM := hm
    clear hm
    try dsimp only at hM
    have hr3 := pick_lt hr (by omega)
    clear hr hr2
    have hw2 : IntKind.i64.wrap (d + 1 + (r : Int)) = d + 1 + (r : Int) := wrap_in (by omega)
    go_wp2_with fail
    apply Mem.atA
    · exact memA
    clear hM
    intro wst hM
    (try simp only [World.size_alloc, World.size_setCell, World.heap_drewN, heapDrew, Nat.add_assoc, Nat.reduceAdd, sA, List.cons_append, List.nil_append] at hM)
    (first | refine (among_any [1, 2, 5, 9] HC.out hM (.there (.there (HP.out.again _))) (fun _ => .here) rfl (by decide) (by decide) (by omega) (by decide)).mono ?_)
    rintro e wc5 ⟨y, hy, rfl, hm⟩
    clear hM
    have hM := hm
    clear hm
    try dsimp only at hM
    have hyb := amb (1) 9 hy (by decide)
    clear hy
    replace hM := hM.tail
    go_wp2_with (at_builtin; apply Mem.atL; (focus ((exact memA); done)); clear hM; intro hM; refine wpList_pushR (F := FPhase) (⟨d + 1 + (r : Int), y⟩ : PhaseI) hM (fun _ => .here) rfl (phI (by omega) (by omega)) (by decide) (by show (xs.length + 1) * 2 ≤ _; omega) i0 (.agg #[.int .i64 0, .int .i64 0]) 16 hi hz0 hz1 hz2 rfl (by omega) rfl _ _ _ Tryz.underlying27 rfl rfl rfl ?_)
    intro a3 c3 w3 hM
    go_wp2
    go_roundw
    case rel =>
      refine ⟨m, d + 1 + (r : Int), a3, c3, xs ++ [⟨d + 1 + (r : Int), y⟩], by go_num, rfl, by rw [phL], by rw [phL]; omega, by rw [phL]; omega, by omega, by omega, ?_⟩
      rw [phL]
      exact hM.curMore (.there (HP.out.again _)) (by omega)
    case measure => simp [intOf]
set_option maxRecDepth 100000 in
set_option maxHeartbeats 8000000 in
theorem startTick_any {g : Nat} {ac : Option Addr} {nc cc : Nat} {l : List UInt8} {A : Nat} {w0 w : World} {G : List Ent} {F : Ent → List Ent} (hC : Rd FByt w0 ac nc cc l) (hM : Mem w0.heap.size w0 w G) (p : At G (curE g ac nc cc A) F) (hA : A ≤ 10000000) :
    Calls Tryz.prog 68 #[.pointer (some ⟨g, 0, none⟩)] w fun e w' => ∃ x : Int, (-1 ≤ x ∧ x ≤ 1001) ∧ e = .returned (.int .i64 x) ∧ Mem w0.heap.size w0 w' (F (curE g ac nc cc (A + 4))) := by
  have HP := Lib.hid p
  have HC := Lib.hid hC
  clear p hC
  go_enter Tryz.func68, Tryz.ntmps68
  go_wp2_with fail
  apply Mem.atA
  · exact memA
  clear hM
  intro wst hM
  (try simp only [World.size_alloc, World.size_setCell, World.heap_drewN, heapDrew, Nat.add_assoc, Nat.reduceAdd, sA, List.cons_append, List.nil_append] at hM)
  (first | refine (one_any 24 HC.out hM HP.out (by omega)).mono ?_)
  rintro e wc1 ⟨b, rfl, hm⟩
  clear hM
  have hM := hm
  clear hm
  try dsimp only at hM
  cases b
  · skip
    go_wp2_with fail
    apply Mem.atA
    · exact memA
    clear hM
    intro wst hM
    (try simp only [World.size_alloc, World.size_setCell, World.heap_drewN, heapDrew, Nat.add_assoc, Nat.reduceAdd, sA, List.cons_append, List.nil_append] at hM)
    (first | refine (among_any [0, 0, 5, 20, 60] HC.out hM (.there (HP.out.again _)) (fun _ => .here) rfl (by decide) (by decide) (by omega) (by decide)).mono ?_)
    rintro e wc4 ⟨x, hx, rfl, hm⟩
    clear hM
    have hM := hm
    clear hm
    try dsimp only at hM
    have hxb := amb (-1) 1001 hx (by decide)
    clear hx
    go_wp2
    go_ret
    exact ⟨x, hxb, rfl, hM.tail⟩
  · skip
    go_wp2_with fail
    apply Mem.atA
    · exact memA
    clear hM
    intro wst hM
    (try simp only [World.size_alloc, World.size_setCell, World.heap_drewN, heapDrew, Nat.add_assoc, Nat.reduceAdd, sA, List.cons_append, List.nil_append] at hM)
    (first | refine (among_any [-1, 1000, 1001] HC.out hM (.there (HP.out.again _)) (fun _ => .here) rfl (by decide) (by decide) (by omega) (by decide)).mono ?_)
    rintro e wc4 ⟨x, hx, rfl, hm⟩
    clear hM
    have hM := hm
    clear hm
    try dsimp only at hM
    have hxb := amb (-1) 1001 hx (by decide)
    clear hx
    go_wp2
    go_ret
    exact ⟨x, hxb, rfl, hM.tail⟩
set_option maxRecDepth 100000 in
set_option maxHeartbeats 8000000 in
theorem tickD_any {g : Nat} {ac : Option Addr} {nc cc : Nat} {l : List UInt8} {A : Nat} {w0 w : World} {G : List Ent} {F : Ent → List Ent} (hC : Rd FByt w0 ac nc cc l) (hM : Mem w0.heap.size w0 w G) (p : At G (curE g ac nc cc A) F) (hA : A ≤ 10000000) :
    Calls Tryz.prog 118 #[.pointer (some ⟨g, 0, none⟩)] w fun e w' => ∃ x : Int, (-1 ≤ x ∧ x ≤ 10000) ∧ e = .returned (.int .i64 x) ∧ Mem w0.heap.size w0 w' (F (curE g ac nc cc (A + 4))) := by
  have HP := Lib.hid p
  have HC := Lib.hid hC
  clear p hC
  go_enter Tryz.func118, Tryz.ntmps118
  go_wp2_with fail
  apply Mem.atA
  · exact memA
  clear hM
  intro wst hM
  (try simp only [World.size_alloc, World.size_setCell, World.heap_drewN, heapDrew, Nat.add_assoc, Nat.reduceAdd, sA, List.cons_append, List.nil_append] at hM)
  (first | refine (one_any 20 HC.out hM HP.out (by omega)).mono ?_)
  rintro e wc1 ⟨b, rfl, hm⟩
  clear hM
  have hM := hm
  clear hm
  try dsimp only at hM
  cases b
  · skip
    go_wp2_with fail
    apply Mem.atA
    · exact memA
    clear hM
    intro wst hM
    (try simp only [World.size_alloc, World.size_setCell, World.heap_drewN, heapDrew, Nat.add_assoc, Nat.reduceAdd, sA, List.cons_append, List.nil_append] at hM)
    (first | refine (pick_any 120 HC.out hM (HP.out.again _) (by omega)).mono ?_)
    rintro e wc3 ⟨r, hr, hr2, rfl, hm⟩
    clear hM
    have hM := hm
    clear hm
    try dsimp only at hM
    have hr3 := pick_lt hr (by omega)
    clear hr hr2
    go_wp2
    go_ret
    exact ⟨r, by omega, rfl, hM⟩
  · skip
    go_wp2_with fail
    apply Mem.atA
    · exact memA
    clear hM
    intro wst hM
    (try simp only [World.size_alloc, World.size_setCell, World.heap_drewN, heapDrew, Nat.add_assoc, Nat.reduceAdd, sA, List.cons_append, List.nil_append] at hM)
    (first | refine (among_any [-1, 9999, 10000] HC.out hM (.there (HP.out.again _)) (fun _ => .here) rfl (by decide) (by decide) (by omega) (by decide)).mono ?_)
    rintro e wc4 ⟨x, hx, rfl, hm⟩
    clear hM
    have hM := hm
    clear hm
    try dsimp only at hM
    have hxb := amb (-1) 10000 hx (by decide)
    clear hx
    go_wp2
    go_ret
    exact ⟨x, hxb, rfl, hM.tail⟩
end Go.Proofs.YtojfbcgfeojdfaaGreat
