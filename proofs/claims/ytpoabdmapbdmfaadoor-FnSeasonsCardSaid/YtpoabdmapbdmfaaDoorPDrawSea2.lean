/-
  The reference's draws of seasons.
-/
import Derived.Test.YtpoabdmapbdmfaaDoorPDrawSea
import Derived.Test.YtpoabdmapbdmfaaDoorPPush
import Derived.Test.YtpoabdmapbdmfaaDoorPOpCode
/-
  The reference's draws of seasons.
-/
namespace Go.Proofs.YtpoabdmapbdmfaaDoor
set_option linter.unusedSimpArgs false
set_option linter.unusedVariables false
open Go.RowKit

def lenV : Value → Nat | .slice _ n _ => n | _ => 0
def allF (xs : List FireI) : Prop := ∀ x ∈ xs, okF x
theorem allF_nil : allF [] := by intro x hx; cases hx
theorem allF_snoc {xs : List FireI} {y : FireI} (h : allF xs) (hy : okF y) : allF (xs ++ [y]) := by
  intro x hx
  rcases List.mem_append.1 hx with hx | hx
  · exact h x hx
  · obtain rfl := List.mem_singleton.1 hx
    exact hy
theorem allF_set {xs : List FireI} {y : FireI} {k : Nat} (h : allF xs) (hy : okF y) : allF (xs.set k y) := by
  intro x hx
  rcases List.mem_or_eq_of_mem_set hx with hx | rfl
  · exact h x hx
  · exact hy
theorem allF_getD {xs : List FireI} (h : allF xs) {k : Nat} (hk : k < xs.length) : okF (xs.getD k FireI.zero) := by
  rw [List.getD_eq_getElem?_getD, List.getElem?_eq_getElem hk]
  exact h _ (List.getElem_mem _)
theorem leastD_any (x y : Int) (w : World) : Calls Tryd.prog 101 #[.int .i64 x, .int .i64 y] w fun e w' => e = .returned (.int .i64 (if x < y then x else y)) ∧ w = w' := by
  by_cases h : x < y
  all_goals
    go_enter Tryd.func101, Tryd.ntmps101
    go_wp2
    go_ret
    exact ⟨ri (by simp [h]), rfl⟩
set_option maxRecDepth 100000 in
set_option maxHeartbeats 8000000 in
theorem season_any {g : Nat} {ac : Option Addr} {nc cc : Nat} {l : List UInt8} {A : Nat} {w0 w : World} {G : List Ent} {F : Ent → List Ent} (hC : Rd FByt w0 ac nc cc l) (hM : Mem w0.heap.size w0 w G) (p : At G (curE g ac nc cc A) F) (hA : A ≤ 10000000) :
    Calls Tryd.prog 62 #[.pointer (some ⟨g, 0, none⟩)] w fun e w' => ∃ (a' : Option Addr) (c' : Nat) (xs : List FireI), xs.length ≤ 16 ∧ allF xs ∧ e = .returned (.slice a' xs.length c') ∧ Mem w0.heap.size w0 w' (owE FFire 33 a' xs.length c' xs :: F (curE g ac nc cc (A + 200))) := by
  have HP := Lib.hid p
  have HC := Lib.hid hC
  clear p hC
  obtain ⟨i0, hi, hz0, hz1, hz2⟩ := info_parts Tryd.info33
  go_enter Tryd.func62, Tryd.ntmps62
  go_wp2_with fail
  apply Mem.atA
  · (repeat' (first | with_reducible exact hM | with_reducible exact hMp | with_reducible apply Mem.drew | with_reducible apply Mem.drewN | with_reducible apply Mem.alloc | with_reducible apply Mem.set | with_reducible exact Sto.row | ((with_reducible refine Sto.rowEq2 ?_ ?_); omega; rfl) | ((with_reducible refine Sto.rowEq ?_); omega) | with_reducible apply Sto.int | with_reducible apply Sto.there | with_reducible assumption | (unfold I64; omega) | (with_reducible (have hMx := Mem.undrew hM; exact hMx)) | (with_reducible (have hMx := Mem.undrew hMp; exact hMx))))
  clear hM
  intro wst hM
  (try simp only [World.size_alloc, World.size_setCell, World.heap_drewN, heapDrew, Nat.add_assoc, Nat.reduceAdd, List.setIfInBounds_toArray, List.set_cons_zero, List.set_cons_succ, List.cons_append, List.nil_append] at hM)
  (first | refine (among_any [0, 5, 340] HC.out hM (.there (.there HP.out)) (fun _ => .here) rfl (by decide) (by decide) (by omega) (by decide)).mono ?_)
  rintro e wc1 ⟨d0, hd0, rfl, hm⟩
  clear hM
  have hM := hm
  clear hm
  try dsimp only at hM
  obtain ⟨d00, d01⟩ := mem_bound (lo := 0) (hi := 364) hd0 (by decide)
  clear hd0
  go_wp2_with fail
  apply Mem.atA
  · (repeat' (first | with_reducible exact hM | with_reducible exact hMp | with_reducible apply Mem.drew | with_reducible apply Mem.drewN | with_reducible apply Mem.alloc | with_reducible apply Mem.set | with_reducible exact Sto.row | ((with_reducible refine Sto.rowEq2 ?_ ?_); omega; rfl) | ((with_reducible refine Sto.rowEq ?_); omega) | with_reducible apply Sto.int | with_reducible apply Sto.there | with_reducible assumption | (unfold I64; omega) | (with_reducible (have hMx := Mem.undrew hM; exact hMx)) | (with_reducible (have hMx := Mem.undrew hMp; exact hMx))))
  clear hM
  intro wst hM
  (try simp only [World.size_alloc, World.size_setCell, World.heap_drewN, heapDrew, Nat.add_assoc, Nat.reduceAdd, List.setIfInBounds_toArray, List.set_cons_zero, List.set_cons_succ, List.cons_append, List.nil_append] at hM)
  (first | refine (pick_any 9 HC.out hM.tail (.there (HP.out.again _)) (by omega)).mono ?_)
  rintro e wc2 ⟨r, hr, hr2, rfl, hm⟩
  clear hM
  have hM := hm
  clear hm
  try dsimp only at hM
  have hr9 := pick_lt hr (by omega)
  clear hr hr2
  replace hM := Mem.toOwR (F := FFire) hM
  go_wp2_with fail
  go_loopw [3, 4, 5] (fun s3 s4 s5 wr => ∃ (k : Nat) (d : Int) (a' : Option Addr) (c' : Nat) (xs : List FireI), s5 = .int .i64 k ∧ s4 = .int .i64 d ∧ s3 = .slice a' xs.length c' ∧ xs.length + k ≤ 8 ∧ 0 ≤ d ∧ d ≤ 364 ∧ Hid (allF xs) ∧ Mem w0.heap.size w0 wr (owE FFire 33 a' xs.length c' xs :: F (curE g ac nc cc (A + 4 + 12 * (8 - k))))) (fun _ _ s5 _ => (intOf s5).toNat)
  case atStart => exact ⟨r, d0, _, _, [], rfl, rfl, rfl, by simp; omega, d00, d01, Lib.hid allF_nil, hM.curMore (.there (HP.out.again _)) (by omega)⟩
  case round =>
    clear hM hr9 d00 d01
    obtain ⟨k, d, a', c', xs, rfl, rfl, rfl, hxk, e0, e1, HX, hM⟩ := hrel
    by_cases hk0 : 0 < k
    rotate_left
    · obtain rfl : k = 0 := by omega
      replace hM := hM.curMore (A' := A + 100) (.there (HP.out.again _)) (by omega)
      go_upto_region 8 with fail
      go_cut [34] (fun s34 wx => ∃ b : Bool, s34 = .bool b ∧ (b = true → 1 < xs.length) ∧ Mem w0.heap.size w0 wx (owE FFire 33 a' xs.length c' xs :: F (curE g ac nc cc (A + 102))))
      case first =>
        by_cases hn : 1 < xs.length
        · skip
          go_wp2_with fail
          apply Mem.atA
          · (repeat' (first | with_reducible exact hM | with_reducible exact hMp | with_reducible apply Mem.drew | with_reducible apply Mem.drewN | with_reducible apply Mem.alloc | with_reducible apply Mem.set | with_reducible exact Sto.row | ((with_reducible refine Sto.rowEq2 ?_ ?_); omega; rfl) | ((with_reducible refine Sto.rowEq ?_); omega) | with_reducible apply Sto.int | with_reducible apply Sto.there | with_reducible assumption | (unfold I64; omega) | (with_reducible (have hMx := Mem.undrew hM; exact hMx)) | (with_reducible (have hMx := Mem.undrew hMp; exact hMx))))
          clear hM
          intro wst hM
          (try simp only [World.size_alloc, World.size_setCell, World.heap_drewN, heapDrew, Nat.add_assoc, Nat.reduceAdd, List.setIfInBounds_toArray, List.set_cons_zero, List.set_cons_succ, List.cons_append, List.nil_append] at hM)
          (first | refine (one_any 30 HC.out hM (.there (HP.out.again _)) (by omega)).mono ?_)
          rintro e wc3 ⟨b, rfl, hm⟩
          clear hM
          have hM := hm
          clear hm
          try dsimp only at hM
          go_wp2_with fail
          go_meet
          exact ⟨b, rfl, fun _ => hn, hM⟩
        · go_wp2_with fail
          go_meet
          exact ⟨false, rfl, (fun h => by cases h), hM.curMore (.there (HP.out.again _)) (by omega)⟩
      case rest =>
        clear hM
        obtain ⟨b, rfl, hb1, hM⟩ := hcut
        go_upto_if 34 with fail
        go_cut [] (fun wx => ∃ ys : List FireI, Hid (ys.length = xs.length) ∧ Hid (allF ys) ∧ Mem w0.heap.size w0 wx (owE FFire 33 a' xs.length c' ys :: F (curE g ac nc cc (A + 102))))
        case first =>
          cases b
          · go_wp2_with fail
            go_meet
            exact ⟨xs, Lib.hid rfl, HX, hM⟩
          · have hn := hb1 rfl
            clear hb1
            obtain ⟨m, hm⟩ : ∃ m, xs.length = m + 1 := ⟨xs.length - 1, by omega⟩
            have hO := hM.ow .here
            obtain ⟨gg, rfl, -, hgl⟩ := hO.head (by omega)
            obtain ⟨q0, q1, q2, q3⟩ := hO.cellFire (k := m) (by omega)
            obtain ⟨p0, p1, p2, p3⟩ := hO.cellFire (k := 0) (by omega)
            have hfr := hO.free
            have hcap := hO.rd.cap
            have HY := Lib.hid (allF_getD HX.out (k := m) (by omega))
            have HQ := Lib.hid (hM.putFire (k := 0) (by omega) (xs.getD m FireI.zero) (okF_wf HY.out) .here)
            clear hO
            obtain ⟨y, hy⟩ : ∃ y, xs.getD m FireI.zero = y := ⟨_, rfl⟩
            rw [hy] at q0 q1 q2 q3 HY HQ
            clear hy
            obtain ⟨y0, y1, y2, y3⟩ := y
            dsimp only at q0 q1 q2 q3 HQ
            have hw : IntKind.i64.wrap ((xs.length : Int) - 1) = (m : Int) := by rw [wrap_in (by omega)]; omega
            have j0 : (0 : Int) ≤ (m : Int) := by omega
            have j1 : (m : Int) < (xs.length : Int) := by omega
            have j2 : (0 : Int) < (xs.length : Int) := by omega
            clear hm
            go_wp2_with fail
            go_meet
            refine ⟨xs.set 0 ⟨y0, y1, y2, y3⟩, Lib.hid (by rw [List.length_set]), Lib.hid (allF_set HX.out HY.out), ?_⟩
            have := HQ.out
            simpa using this
        case rest =>
          clear hM hb1
          obtain ⟨ys, HYL, HYF, hM⟩ := hcut
          rw [← HYL.out] at hM hxk ⊢
          clear HX HYL
          go_wp2_with fail
          apply Mem.atA
          · (repeat' (first | with_reducible exact hM | with_reducible exact hMp | with_reducible apply Mem.drew | with_reducible apply Mem.drewN | with_reducible apply Mem.alloc | with_reducible apply Mem.set | with_reducible exact Sto.row | ((with_reducible refine Sto.rowEq2 ?_ ?_); omega; rfl) | ((with_reducible refine Sto.rowEq ?_); omega) | with_reducible apply Sto.int | with_reducible apply Sto.there | with_reducible assumption | (unfold I64; omega) | (with_reducible (have hMx := Mem.undrew hM; exact hMx)) | (with_reducible (have hMx := Mem.undrew hMp; exact hMx))))
          clear hM
          intro wst hM
          (try simp only [World.size_alloc, World.size_setCell, World.heap_drewN, heapDrew, Nat.add_assoc, Nat.reduceAdd, List.setIfInBounds_toArray, List.set_cons_zero, List.set_cons_succ, List.cons_append, List.nil_append] at hM)
          (first | refine (one_any 24 HC.out hM (.there (HP.out.again _)) (by omega)).mono ?_)
          rintro e wc4 ⟨b, rfl, hm⟩
          clear hM
          have hM := hm
          clear hm
          try dsimp only at hM
          cases b
          · go_wp2
            go_ret
            exact ⟨a', c', ys, by omega, HYF.out, rfl, hM.curMore (.there (HP.out.again _)) (by omega)⟩
          · go_wp2_with fail
            go_loopw [3] (fun s3 wr => ∃ (a' : Option Addr) (c' : Nat) (zs : List FireI), s3 = .slice a' zs.length c' ∧ zs.length ≤ 16 ∧ Hid (allF zs) ∧ Mem w0.heap.size w0 wr (owE FFire 33 a' zs.length c' zs :: F (curE g ac nc cc (A + 104 + 2 * zs.length)))) (fun s3 _ => 17 - lenV s3)
            case atStart => exact ⟨a', c', ys, rfl, by omega, HYF, hM.curMore (.there (HP.out.again _)) (by omega)⟩
            case round =>
              clear hM HYF
              obtain ⟨a2, c2, zs, rfl, hz, HZ, hM⟩ := hrel
              go_wp2_with fail
              apply Mem.atA
              · (repeat' (first | with_reducible exact hM | with_reducible exact hMp | with_reducible apply Mem.drew | with_reducible apply Mem.drewN | with_reducible apply Mem.alloc | with_reducible apply Mem.set | with_reducible exact Sto.row | ((with_reducible refine Sto.rowEq2 ?_ ?_); omega; rfl) | ((with_reducible refine Sto.rowEq ?_); omega) | with_reducible apply Sto.int | with_reducible apply Sto.there | with_reducible assumption | (unfold I64; omega) | (with_reducible (have hMx := Mem.undrew hM; exact hMx)) | (with_reducible (have hMx := Mem.undrew hMp; exact hMx))))
              clear hM
              intro wst hM
              (try simp only [World.size_alloc, World.size_setCell, World.heap_drewN, heapDrew, Nat.add_assoc, Nat.reduceAdd, List.setIfInBounds_toArray, List.set_cons_zero, List.set_cons_succ, List.cons_append, List.nil_append] at hM)
              (first | refine (pick_any 2 HC.out hM (.there (HP.out.again _)) (by omega)).mono ?_)
              rintro e wc9 ⟨r, hr, hr2, rfl, hm⟩
              clear hM
              have hM := hm
              clear hm
              try dsimp only at hM
              have hr3 := pick_lt hr (by omega)
              clear hr hr2
              by_cases hlt : zs.length < 15 + r
              · have hlt2 : (zs.length : Int) < 15 + (r : Int) := by omega
                have hw : IntKind.i64.wrap (15 + (r : Int)) = 15 + (r : Int) := by rw [wrap_in (by omega)]
                go_wp2_with (at_builtin; apply Mem.atL; (focus ((repeat' (first | with_reducible exact hM | with_reducible exact hMp | with_reducible apply Mem.drew | with_reducible apply Mem.drewN | with_reducible apply Mem.alloc | with_reducible apply Mem.set | with_reducible exact Sto.row | ((with_reducible refine Sto.rowEq2 ?_ ?_); omega; rfl) | ((with_reducible refine Sto.rowEq ?_); omega) | with_reducible apply Sto.int | with_reducible apply Sto.there | with_reducible assumption | (unfold I64; omega) | (with_reducible (have hMx := Mem.undrew hM; exact hMx)) | (with_reducible (have hMx := Mem.undrew hMp; exact hMx)))); done)); clear hM; intro hM; refine wpList_pushR (F := FFire) (⟨364, 0, 2, 3⟩ : FireI) hM (fun _ => .here) rfl (by refine ⟨?_, ?_, ?_, ?_⟩ <;> (unfold I64; decide)) (by decide) (by show (zs.length + 1) * 4 ≤ _; omega) i0 (.agg #[.int .i64 0, .int .i64 0, .int .i64 0, .int .i64 0]) 32 hi hz0 hz1 hz2 rfl (by omega) rfl _ _ _ Tryd.underlying24 rfl rfl rfl ?_)
                intro a3 c3 w3 hM
                have hl3 : (zs ++ [(⟨364, 0, 2, 3⟩ : FireI)]).length = zs.length + 1 := by simp
                go_wp2
                go_roundw
                case rel =>
                  refine ⟨a3, c3, zs ++ [⟨364, 0, 2, 3⟩], by rw [hl3], by rw [hl3]; omega, Lib.hid (allF_snoc HZ.out (by unfold okF; dsimp only; omega)), ?_⟩
                  rw [hl3]
                  exact hM.curMore (.there (HP.out.again _)) (by omega)
                case measure => simp [lenV]; omega
              · have hlt2 : ¬ (zs.length : Int) < 15 + (r : Int) := by omega
                have hw : IntKind.i64.wrap (15 + (r : Int)) = 15 + (r : Int) := by rw [wrap_in (by omega)]
                go_wp2
                go_ret
                exact ⟨a2, c2, zs, hz, HZ.out, rfl, hM.curMore (.there (HP.out.again _)) (by omega)⟩
    obtain ⟨m, rfl⟩ : ∃ m, k = m + 1 := ⟨k - 1, by omega⟩
    go_wp2_with fail
    apply Mem.atA
    · (repeat' (first | with_reducible exact hM | with_reducible exact hMp | with_reducible apply Mem.drew | with_reducible apply Mem.drewN | with_reducible apply Mem.alloc | with_reducible apply Mem.set | with_reducible exact Sto.row | ((with_reducible refine Sto.rowEq2 ?_ ?_); omega; rfl) | ((with_reducible refine Sto.rowEq ?_); omega) | with_reducible apply Sto.int | with_reducible apply Sto.there | with_reducible assumption | (unfold I64; omega) | (with_reducible (have hMx := Mem.undrew hM; exact hMx)) | (with_reducible (have hMx := Mem.undrew hMp; exact hMx))))
    clear hM
    intro wst hM
    (try simp only [World.size_alloc, World.size_setCell, World.heap_drewN, heapDrew, Nat.add_assoc, Nat.reduceAdd, List.setIfInBounds_toArray, List.set_cons_zero, List.set_cons_succ, List.cons_append, List.nil_append] at hM)
    (first | refine (fire26_any d e0 e1 HC.out hM (.there (HP.out.again _)) (by omega)).mono ?_)
    rintro e wc3 ⟨x, hx, rfl, hm⟩
    clear hM
    have hM := hm
    clear hm
    try dsimp only at hM
    have HFX := Lib.hid hx; clear hx
    obtain ⟨x0, x1, x2, x3⟩ := x
    go_wp2_with (at_builtin; apply Mem.atL; (focus ((repeat' (first | with_reducible exact hM | with_reducible exact hMp | with_reducible apply Mem.drew | with_reducible apply Mem.drewN | with_reducible apply Mem.alloc | with_reducible apply Mem.set | with_reducible exact Sto.row | ((with_reducible refine Sto.rowEq2 ?_ ?_); omega; rfl) | ((with_reducible refine Sto.rowEq ?_); omega) | with_reducible apply Sto.int | with_reducible apply Sto.there | with_reducible assumption | (unfold I64; omega) | (with_reducible (have hMx := Mem.undrew hM; exact hMx)) | (with_reducible (have hMx := Mem.undrew hMp; exact hMx)))); done)); clear hM; intro hM; refine wpList_pushR (F := FFire) (⟨x0, x1, x2, x3⟩ : FireI) hM (fun _ => .here) rfl (okF_wf HFX.out) (by decide) (by show (xs.length + 1) * 4 ≤ _; omega) i0 (.agg #[.int .i64 0, .int .i64 0, .int .i64 0, .int .i64 0]) 32 hi hz0 hz1 hz2 rfl (by omega) rfl _ _ _ Tryd.underlying24 rfl rfl rfl ?_)
    intro a3 c3 w3 hM
    go_wp2_with fail
    apply Mem.atA
    · (repeat' (first | with_reducible exact hM | with_reducible exact hMp | with_reducible apply Mem.drew | with_reducible apply Mem.drewN | with_reducible apply Mem.alloc | with_reducible apply Mem.set | with_reducible exact Sto.row | ((with_reducible refine Sto.rowEq2 ?_ ?_); omega; rfl) | ((with_reducible refine Sto.rowEq ?_); omega) | with_reducible apply Sto.int | with_reducible apply Sto.there | with_reducible assumption | (unfold I64; omega) | (with_reducible (have hMx := Mem.undrew hM; exact hMx)) | (with_reducible (have hMx := Mem.undrew hMp; exact hMx))))
    clear hM
    intro wst hM
    (try simp only [World.size_alloc, World.size_setCell, World.heap_drewN, heapDrew, Nat.add_assoc, Nat.reduceAdd, List.setIfInBounds_toArray, List.set_cons_zero, List.set_cons_succ, List.cons_append, List.nil_append] at hM)
    (first | refine (among_any [0, 1, 3, 7, 40] HC.out hM (.there (.there (HP.out.again _))) (fun _ => .here) rfl (by decide) (by decide) (by omega) (by decide)).mono ?_)
    rintro e wc4 ⟨q, hq, rfl, hm⟩
    clear hM
    have hM := hm
    clear hm
    try dsimp only at hM
    obtain ⟨q0, q1⟩ := mem_bound (lo := 0) (hi := 40) hq (by decide)
    clear hq
    replace hM := hM.tail
    have hw : IntKind.i64.wrap (d + q) = d + q := wrap_in (by omega)
    go_wp2_with fail
    apply Mem.atA
    · (repeat' (first | with_reducible exact hM | with_reducible exact hMp | with_reducible apply Mem.drew | with_reducible apply Mem.drewN | with_reducible apply Mem.alloc | with_reducible apply Mem.set | with_reducible exact Sto.row | ((with_reducible refine Sto.rowEq2 ?_ ?_); omega; rfl) | ((with_reducible refine Sto.rowEq ?_); omega) | with_reducible apply Sto.int | with_reducible apply Sto.there | with_reducible assumption | (unfold I64; omega) | (with_reducible (have hMx := Mem.undrew hM; exact hMx)) | (with_reducible (have hMx := Mem.undrew hMp; exact hMx))))
    clear hM
    intro wst hM
    (try simp only [World.size_alloc, World.size_setCell, World.heap_drewN, heapDrew, Nat.add_assoc, Nat.reduceAdd, List.setIfInBounds_toArray, List.set_cons_zero, List.set_cons_succ, List.cons_append, List.nil_append] at hM)
    (first | refine (leastD_any 364 (d + q) _).mono ?_)
    rintro e wc8 ⟨rfl, rfl⟩
    obtain ⟨v, hv⟩ : ∃ v, (if (364 : Int) < d + q then 364 else d + q) = v := ⟨_, rfl⟩
    have hvb : 0 ≤ v ∧ v ≤ 364 := by rw [← hv]; split <;> omega
    rw [hv]
    clear hv hw
    have hl3 : (xs ++ [(⟨x0, x1, x2, x3⟩ : FireI)]).length = xs.length + 1 := by simp
    go_wp2
    go_roundw
    case rel =>
      refine ⟨m, v, a3, c3, xs ++ [⟨x0, x1, x2, x3⟩], by go_num, rfl, by rw [hl3], by rw [hl3]; omega, hvb.1, hvb.2, Lib.hid (allF_snoc HX.out HFX.out), ?_⟩
      rw [hl3]
      exact hM.curMore (.there (HP.out.again _)) (by omega)
    case measure => simp [intOf]
end Go.Proofs.YtpoabdmapbdmfaaDoor
