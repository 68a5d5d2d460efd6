/-
  MergeBooks: finding and comparing notes (the reference's).
-/
import Derived.Test.YtjnbdgldpmmamaaGreatUMrgP
import Derived.Test.YtjnbdgldpmmamaaGreatUNoteZ
/-
  MergeBooks: finding and comparing notes (the reference's).
-/
namespace Go.Proofs.YtjnbdgldpmmamaaGreat
set_option linter.unusedSimpArgs false
set_option linter.unusedVariables false
open Go.RowKit

/-- the place of a note, or -1 -/
def fndN (l : List NoteC) (x : NoteC) : Int := if hasN l x then ((plN l x : Nat) : Int) else -1
theorem fnd_at {l : List NoteC} {x : NoteC} {k : Nat} (hk : k < l.length) (h : sameK (l.getD k NoteC.zero) x = true) (hb : ∀ i, i < k → sameK (l.getD i NoteC.zero) x = false) : fndN l x = (k : Int) := by
  have hg : ∀ i (hi : i < l.length), l.getD i NoteC.zero = l[i] := fun i hi => by rw [List.getD_eq_getElem?_getD, List.getElem?_eq_getElem hi]; rfl
  have h1 : hasN l x = true := by
    unfold hasN
    rw [List.any_eq_true]
    exact ⟨l[k], List.getElem_mem hk, by rw [← hg k hk]; exact h⟩
  have h2 : plN l x = k := by
    unfold plN
    rw [List.findIdx_eq hk]
    exact ⟨by rw [← hg k hk]; exact h, fun j hj => by rw [← hg j (by omega)]; exact hb j hj⟩
  rw [fndN, h1, h2]
  rfl
theorem fnd_none {l : List NoteC} {x : NoteC} (hb : ∀ i, i < l.length → sameK (l.getD i NoteC.zero) x = false) : fndN l x = -1 := by
  have h1 : hasN l x = false := by
    unfold hasN
    rw [List.any_eq_false]
    intro y hy
    obtain ⟨i, hi, rfl⟩ := List.getElem_of_mem hy
    have := hb i hi
    rw [List.getD_eq_getElem?_getD, List.getElem?_eq_getElem hi] at this
    simpa using this
  rw [fndN, h1]
  rfl
theorem no_succ {P : Nat → Prop} {k : Nat} (h : ∀ i, i < k → P i) (hk : P k) : ∀ i, i < k + 1 → P i := by
  intro i hi
  rcases Nat.lt_or_ge i k with h1 | h1
  · exact h i h1
  · have e : i = k := by omega
    rw [e]
    exact hk
set_option maxRecDepth 100000 in
set_option maxHeartbeats 4000000 in
theorem l17Find_any (a : Option Addr) (n c : Nat) (xs : List NoteI) (x : NoteC) (w : World) (h : RdN w a n c xs) :
    Calls Tryz.prog 37 #[.slice a n c, .int .i64 x.un, .int .i64 x.sq] w fun e w' => e = .returned (.int .i64 (fndN (coreN xs) x)) ∧ Below w.heap.size w w' := by
  have hM := Mem.start w
  have hrm := h.rd.nroom
  have HL := Lib.hid h.rd.len
  obtain ⟨u, s, cl, wo⟩ := x
  dsimp only
  obtain ⟨r, hr⟩ : ∃ r, fndN (coreN xs) ⟨u, s, cl, wo⟩ = r := ⟨_, rfl⟩
  rw [hr]
  have HR := Lib.hid hr; clear hr
  go_enter Tryz.func37, Tryz.ntmps37
  go_wp2_with fail
  go_loopw [7] (fun s7 wr => ∃ k : Nat, k ≤ n ∧ s7 = .int .i64 k ∧ (∀ i, i < k → sameK ((coreN xs).getD i NoteC.zero) ⟨u, s, cl, wo⟩ = false) ∧ Mem w.heap.size w wr []) (fun s7 _ => n - (intOf s7).toNat)
  case atStart => exact ⟨0, Nat.zero_le _, rfl, fun i hi => by omega, hM⟩
  case round =>
    clear hM
    obtain ⟨k, hk, rfl, hno, hM⟩ := hrel
    have HNO := Lib.hid hno; clear hno
    by_cases hlt : k < n
    · obtain ⟨b, off, rfl, -, -⟩ := h.rd.at' _ hlt
      have hc := ((h.rd.ext hM.below).cellNote hlt).2
      have hcg := coreN_getD xs k
      obtain ⟨y, hy⟩ : ∃ y, xs.getD k NoteI.zero = y := ⟨_, rfl⟩
      rw [hy] at hc hcg
      have HCG := Lib.hid hcg
      clear hy hcg
      have x0 := hc.1
      have x1 := hc.2.1
      clear hc
      have i0' : (0 : Int) ≤ (k : Int) := by omega
      have i1 : (k : Int) < (n : Int) := by omega
      by_cases hu : y.un = u
      · by_cases hs : y.sq = s
        · have HF := Lib.hid (show r = (k : Int) by rw [← HR.out]; exact fnd_at (by rw [coreN_len, HL.out]; exact hlt) (by rw [HCG.out]; exact sameK_true.2 ⟨hu, hs⟩) HNO.out)
          have e1 : (y.un == u) = true := by simpa using hu
          have e2 : (y.sq == s) = true := by simpa using hs
          clear hu hs
          go_wp2
          go_ret
          exact ⟨ri (by first | exact HF.out.symm | rw [HF.out]), (by apply Mem.below; (exact memA))⟩
        · have HK := Lib.hid (show sameK ((coreN xs).getD k NoteC.zero) ⟨u, s, cl, wo⟩ = false by rw [HCG.out]; cases hq : sameK y.core ⟨u, s, cl, wo⟩; rfl; exact absurd (sameK_true.1 hq).2 hs)
          have e1 : (y.un == u) = true := by simpa using hu
          have e2 : (y.sq == s) = false := by simpa using hs
          clear hu hs
          go_wp2
          go_roundw
          case rel => exact ⟨k + 1, by omega, by go_num, no_succ HNO.out HK.out, by (exact memA)⟩
          case measure => simp [intOf]; omega
      · have HK := Lib.hid (show sameK ((coreN xs).getD k NoteC.zero) ⟨u, s, cl, wo⟩ = false by rw [HCG.out]; cases hq : sameK y.core ⟨u, s, cl, wo⟩; rfl; exact absurd (sameK_true.1 hq).1 hu)
        have e1 : (y.un == u) = false := by simpa using hu
        clear hu
        go_wp2
        go_roundw
        case rel => exact ⟨k + 1, by omega, by go_num, no_succ HNO.out HK.out, by (exact memA)⟩
        case measure => simp [intOf]; omega
    · obtain rfl : k = n := by omega
      have HF := Lib.hid (show r = -1 by rw [← HR.out]; exact fnd_none fun i hi => HNO.out i (by rw [← HL.out, ← coreN_len]; exact hi))
      go_wp2
      go_ret
      exact ⟨ri (by first | exact HF.out.symm | rw [HF.out]), (by apply Mem.below; (exact memA))⟩
set_option maxRecDepth 100000 in
set_option maxHeartbeats 8000000 in
theorem l17Same_f (xu xq : Int) (xa ya : Option Addr) (xn xc yn yc : Nat) (xl yl : List Int) (xw yw : Bs) (w : World) (hx : Ints w xa xn xc xl) (hy : Ints w ya yn yc yl) (s0 : -10 ≤ xu) (s1 : xu ≤ 10) (s2 : -20 ≤ xq) (s3 : xq ≤ 20) :
    Calls Tryz.prog 46 #[NoteI.val ⟨xu, xq, xa, xn, xc, xl, xw⟩, NoteI.val ⟨xu, xq, ya, yn, yc, yl, yw⟩] w fun e w' => e = .returned (.bool (decide (xw = yw) && decide (xl = yl))) ∧ Below w.heap.size w w' := by
  have hM := Mem.start w
  have BL := bsA_list
  have hrx := hx.room
  have hry := hy.room
  have hord := l17Order_any ⟨xu, xq, xa, xn, xc, xl, xw⟩ ⟨xu, xq, ya, yn, yc, yl, yw⟩
  have k3 : -40 ≤ xq ∧ xq ≤ 40 := ⟨by omega, by omega⟩
  have HORD := Lib.hid (fun w => hord w ⟨s0, s1⟩ ⟨s0, s1⟩ k3 k3)
  have hz : (xu - xu) * 100 + xq - xq = 0 := by omega
  have HZ := Lib.hid hz
  clear hord hz
  have HX := Lib.hid hx; have HY := Lib.hid hy
  have HXL := Lib.hid hx.len; have HYL := Lib.hid hy.len
  clear hx hy
  by_cases hw : xw = yw
  · have e1 : (xw != yw) = false := by simpa using hw
    have e2 : decide (xw = yw) = true := decide_eq_true hw
    rw [e2, Bool.true_and]
    subst hw
    by_cases hn : xn = yn
    · subst hn
      have e3 : ((xn : Int) != (xn : Int)) = false := by simp
      go_enter Tryz.func46, Tryz.ntmps46
      go_upto_region 1 with fail
      apply Mem.atWpA
      · exact memA
      clear hM
      intro wst hM
      (try simp only [World.size_alloc, World.size_setCell, World.heap_drewN, heapDrew, Nat.add_assoc, Nat.reduceAdd, sA, List.cons_append, List.nil_append] at hM)
      obtain ⟨k0, f0, l0⟩ := hM.row .here
      obtain ⟨k1, f1, l1⟩ := hM.row (.there .here)
      go_wp2_with fail
      refine (HORD.out _).mono ?_
      try dsimp only
      rw [HZ.out]
      rintro e w3 ⟨rfl, hb⟩
      replace hM := hM.ext hb
      clear hb
      clear k0 k1 f0 f1 l0 l1
      obtain ⟨k0, f0, l0⟩ := hM.row .here
      obtain ⟨k1, f1, l1⟩ := hM.row (.there .here)
      go_wp2_with fail
      go_loopw [5] (fun s5 wr => ∃ k : Nat, k ≤ xn ∧ s5 = .int .i64 k ∧ (∀ i, i < k → xl.getD i 0 = yl.getD i 0) ∧ Mem w.heap.size w wr [rowE (w.heap.size + 1) 40 #[.int .i64 xu, .int .i64 xq, .slice ya xn yc, .string (bsA xw)], rowE w.heap.size 40 #[.int .i64 xu, .int .i64 xq, .slice xa xn xc, .string (bsA xw)]]) (fun s5 _ => xn - (intOf s5).toNat)
      case atStart => exact ⟨0, Nat.zero_le _, rfl, fun i hi => by omega, by (exact memA)⟩
      case round =>
        clear hM k0 k1 f0 f1 l0 l1
        obtain ⟨k, hk, rfl, heq, hM⟩ := hrel
        have HEQ := Lib.hid heq; clear heq
        by_cases hlt : k < xn
        · obtain ⟨bx, ox, rfl, -, hcx⟩ := (HX.out.ext hM.below).at' _ hlt
          obtain ⟨by1, oy, rfl, -, hcy⟩ := (HY.out.ext hM.below).at' _ hlt
          have hx1 := hcx k hlt
          have hy1 := hcy k hlt
          clear hcx hcy
          have k0' : (0 : Int) ≤ (k : Int) := by omega
          have k1' : (k : Int) < (xn : Int) := by omega
          by_cases hv : xl.getD k 0 = yl.getD k 0
          · have HV := Lib.hid hv
            rw [← hv] at hy1
            generalize xl.getD k 0 = v at hx1 hy1
            clear hv
            obtain ⟨k0, f0, l0⟩ := hM.row .here
            obtain ⟨k1, f1, l1⟩ := hM.row (.there .here)
            go_wp2
            go_quiet (fail)
            go_wp2
            go_roundw
            case rel => exact ⟨k + 1, by omega, by go_num, no_succ HEQ.out HV.out, by (exact memA)⟩
            case measure => simp [intOf]; omega
          · have hne : xl ≠ yl := fun e => hv (by rw [e])
            have HF := Lib.hid (show decide (xl = yl) = false from decide_eq_false hne)
            clear hne
            have e5 : (xl.getD k 0 != yl.getD k 0) = true := by simpa using hv
            generalize xl.getD k 0 = v at hx1 e5
            generalize yl.getD k 0 = v' at hy1 e5
            clear hv
            obtain ⟨k0, f0, l0⟩ := hM.row .here
            obtain ⟨k1, f1, l1⟩ := hM.row (.there .here)
            go_wp2
            go_quiet (fail)
            go_wp2
            go_ret
            exact ⟨rb (by rw [HF.out]), (by apply Mem.below; (exact memA))⟩
        · obtain rfl : k = xn := by omega
          have hl : xl = yl := by
            apply List.ext_getElem (by rw [HXL.out, HYL.out])
            intro i h1 h2
            have := HEQ.out i (by rw [← HXL.out]; exact h1)
            rw [List.getD_eq_getElem?_getD, List.getD_eq_getElem?_getD, List.getElem?_eq_getElem h1, List.getElem?_eq_getElem h2] at this
            exact this
          have HF := Lib.hid (show decide (xl = yl) = true from decide_eq_true hl)
          clear hl
          obtain ⟨k0, f0, l0⟩ := hM.row .here
          obtain ⟨k1, f1, l1⟩ := hM.row (.there .here)
          go_wp2
          go_ret
          exact ⟨rb (by rw [HF.out]), (by apply Mem.below; (exact memA))⟩
    · have e3 : ((xn : Int) != (yn : Int)) = true := by simp; omega
      have hne : xl ≠ yl := fun e => hn (by rw [← HXL.out, ← HYL.out, e])
      rw [show decide (xl = yl) = false from decide_eq_false hne]
      go_enter Tryz.func46, Tryz.ntmps46
      go_upto_region 1 with fail
      apply Mem.atWpA
      · exact memA
      clear hM
      intro wst hM
      (try simp only [World.size_alloc, World.size_setCell, World.heap_drewN, heapDrew, Nat.add_assoc, Nat.reduceAdd, sA, List.cons_append, List.nil_append] at hM)
      obtain ⟨k0, f0, l0⟩ := hM.row .here
      obtain ⟨k1, f1, l1⟩ := hM.row (.there .here)
      go_wp2_with fail
      refine (HORD.out _).mono ?_
      try dsimp only
      rw [HZ.out]
      rintro e w3 ⟨rfl, hb⟩
      replace hM := hM.ext hb
      clear hb k0 k1 f0 f1 l0 l1
      obtain ⟨k0, f0, l0⟩ := hM.row .here
      obtain ⟨k1, f1, l1⟩ := hM.row (.there .here)
      go_wp2
      go_ret
      exact ⟨rfl, (by apply Mem.below; (exact memA))⟩
  · have e1 : (xw != yw) = true := by simpa using hw
    rw [show decide (xw = yw) = false from decide_eq_false hw, Bool.false_and]
    go_enter Tryz.func46, Tryz.ntmps46
    go_upto_region 1 with fail
    apply Mem.atWpA
    · exact memA
    clear hM
    intro wst hM
    (try simp only [World.size_alloc, World.size_setCell, World.heap_drewN, heapDrew, Nat.add_assoc, Nat.reduceAdd, sA, List.cons_append, List.nil_append] at hM)
    obtain ⟨k0, f0, l0⟩ := hM.row .here
    obtain ⟨k1, f1, l1⟩ := hM.row (.there .here)
    go_wp2
    go_ret
    exact ⟨rfl, (by apply Mem.below; (exact memA))⟩
theorem l17Same_any (x y : NoteI) (w : World) (hx : Ints w x.ad x.n x.c x.cl) (hy : Ints w y.ad y.n y.c y.cl) (hsx : smallN x) (hk : sameK x.core y.core = true) :
    Calls Tryz.prog 46 #[x.val, y.val] w fun e w' => e = .returned (.bool (decide (x.core = y.core))) ∧ Below w.heap.size w w' := by
  obtain ⟨h1, h2⟩ : x.un = y.un ∧ x.sq = y.sq := sameK_true.1 hk
  have e : y = ⟨x.un, x.sq, y.ad, y.n, y.c, y.cl, y.wd⟩ := by rw [h1, h2]
  have hr : decide (x.core = y.core) = (decide (x.wd = y.wd) && decide (x.cl = y.cl)) := by
    have : x.core = y.core ↔ x.wd = y.wd ∧ x.cl = y.cl := by
      unfold NoteI.core
      rw [NoteC.mk.injEq]
      exact ⟨fun h => ⟨h.2.2.2, h.2.2.1⟩, fun h => ⟨h1, h2, h.2, h.1⟩⟩
    rw [← Bool.decide_and, decide_eq_decide]
    exact this
  rw [hr, e]
  exact l17Same_f x.un x.sq x.ad y.ad x.n x.c y.n y.c x.cl y.cl x.wd y.wd w hx hy hsx.1.1 hsx.1.2 hsx.2.1 hsx.2.2
end Go.Proofs.YtjnbdgldpmmamaaGreat
