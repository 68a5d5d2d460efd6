/-
  The smallest line: plain laws of the search, and the reference's l9Open, l9Ways, l9First, BestLine.
-/
import Derived.Test.YtojfbcgfeojdfaaGreatKHoldP
import Derived.Test.YtojfbcgfeojdfaaGreatKFlowC
import Derived.Test.YtojfbcgfeojdfaaGreatKFlowS
import Derived.Test.YtojfbcgfeojdfaaGreatKDrawTer
/-
  SavedCells.
-/
namespace Go.Proofs.YtojfbcgfeojdfaaGreat
set_option linter.unusedSimpArgs false
set_option linter.unusedVariables false
open Go.RowKit

structure LB where
  l : List Int
  ok : Bool
/-- a list and whether there is one: new memory -/
def LRes (w : World) (r : LB) (e : Ending) (w' : World) : Prop := ∃ a m c, e = .returned (.tuple #[.slice a m c, .bool r.ok]) ∧ Mem w.heap.size w w' [intE a m c r.l]

end Go.Proofs.YtojfbcgfeojdfaaGreat

/-
  The smallest line: plain laws of the search, and the reference's l9Open, l9Ways, l9First, BestLine.
-/
namespace Go.Proofs.YtojfbcgfeojdfaaGreat
set_option linter.unusedSimpArgs false
set_option linter.unusedVariables false
open Go.RowKit

def openB (W n : Nat) (xs ss ts : List Int) : Bool := ss.any fun c => brn xs c.toNat && touchN W n xs ts c.toNat
theorem open_no {W n : Nat} {xs ss ts : List Int} (h : openB W n xs ss ts = false) : ∀ c d, c < n → d < n → hasI ss (c : Nat) = true → brn xs c = true → hasI ts (d : Nat) = true → brn xs d = true → nearN W c d = false := by
  intro c d hc hd h1 h2 h3 h4
  unfold openB at h
  rw [List.any_eq_false] at h
  have h5 := h _ (hasI_iff.1 h1)
  rw [Int.toNat_natCast, h2, Bool.true_and] at h5
  cases e : nearN W c d
  · rfl
  · exact absurd (touch_tch.2 ⟨d, hd, e, h4, h3⟩) h5
abbrev FewT (W n : Nat) (xs ss ts : List Int) (v : Int) : Prop := Few n (nearN W) (brn xs) (fun k => hasI ss (k : Nat)) (fun k => hasI ts (k : Nat)) v
noncomputable def fewV (W n : Nat) (xs ss ts : List Int) : Int := Classical.epsilon (FewT W n xs ss ts)
theorem fewV_of {W n : Nat} {xs ss ts : List Int} {v : Int} (h : FewT W n xs ss ts v) : fewV W n xs ss ts = v := Few.one (Classical.epsilon_spec ⟨v, h⟩) h
/-- the first line in order that goes on from one -/
noncomputable def extL (W n : Nat) (xs ss ts : List Int) : Nat → List Int → Nat → Option (List Int)
  | 0, begun, _ => if lineB W n xs ss ts begun then some begun else none
  | k + 1, begun, f => ((List.range n).filter fun (x : Nat) => decide (f ≤ x) && freeN xs ss ts x).findSome? fun (x : Nat) => extL W n xs ss ts k (begun ++ [(x : Int)]) (x + 1)
def fromL (begun : List Int) : Nat := if begun.length = 0 then 0 else (begun.getD (begun.length - 1) 0).toNat + 1
noncomputable def extTo (W n : Nat) (xs ss ts : List Int) (k : Nat) (begun : List Int) (f j : Nat) : Option (List Int) := ((List.range j).filter fun (x : Nat) => decide (f ≤ x) && freeN xs ss ts x).findSome? fun (x : Nat) => extL W n xs ss ts k (begun ++ [(x : Int)]) (x + 1)
theorem extTo_succ {W n : Nat} {xs ss ts : List Int} {k : Nat} {begun : List Int} {f j : Nat} (h : extTo W n xs ss ts k begun f j = none) : extTo W n xs ss ts k begun f (j + 1) = if (decide (f ≤ j) && freeN xs ss ts j) = true then extL W n xs ss ts k (begun ++ [(j : Int)]) (j + 1) else none := by
  unfold extTo at h ⊢
  rw [List.range_succ, List.filter_append, List.findSome?_append, h, Option.none_or]
  by_cases e : (decide (f ≤ j) && freeN xs ss ts j) = true
  · rw [if_pos e]
    simp only [List.filter_cons, e, if_true, List.filter_nil, List.findSome?_cons, List.findSome?_nil]
    cases extL W n xs ss ts k (begun ++ [(j : Int)]) (j + 1) <;> rfl
  · rw [if_neg e]
    simp [List.filter_cons, e]
theorem extTo_zero {W n : Nat} {xs ss ts : List Int} {k : Nat} {begun : List Int} {f : Nat} : ∀ j, j ≤ f → extTo W n xs ss ts k begun f j = none
  | 0, _ => rfl
  | j + 1, h => by
    rw [extTo_succ (extTo_zero j (by omega)), if_neg]
    simp
    omega
theorem extTo_some {W n : Nat} {xs ss ts : List Int} {k : Nat} {begun : List Int} {f j : Nat} {r : List Int} (h : extTo W n xs ss ts k begun f (j + 1) = some r) (hj : j < n) : extL W n xs ss ts (k + 1) begun f = some r := by
  have e : ∀ m, j + 1 ≤ m → extTo W n xs ss ts k begun f m = some r := fun m hm => by
    induction m with
    | zero => omega
    | succ m ih =>
      by_cases e : j = m
      · rw [← e]; exact h
      · have := ih (by omega)
        unfold extTo at this ⊢
        rw [List.range_succ, List.filter_append, List.findSome?_append, this, Option.some_or]
  exact e n hj
theorem fromL_snoc {begun : List Int} {x : Nat} : fromL (begun ++ [(x : Int)]) = x + 1 := by
  unfold fromL
  rw [if_neg (by simp)]
  simp [List.getD]
theorem setB_snoc {n : Nat} {begun : List Int} {x : Nat} (h : setB n begun = true) (hx : x < n) (hf : fromL begun ≤ x) : setB n (begun ++ [(x : Int)]) = true := by
  obtain ⟨h1, h2⟩ := setB_iff.1 h
  refine setB_iff.2 ⟨?_, fun y hy => ?_⟩
  · rw [List.pairwise_append]
    refine ⟨h1, by simp, fun y hy z hz => ?_⟩
    obtain rfl := List.mem_singleton.1 hz
    obtain ⟨i, hi, rfl⟩ := List.getElem_of_mem hy
    unfold fromL at hf
    rw [if_neg (by omega)] at hf
    have h3 := (h2 _ (List.getElem_mem hi)).1
    have hl : begun.length - 1 < begun.length := by omega
    have h4 : begun.getD (begun.length - 1) 0 = begun[begun.length - 1] := by simp [List.getD, hl]
    rw [h4] at hf
    have h5 := (h2 _ (List.getElem_mem hl)).1
    by_cases e : i = begun.length - 1
    · subst e; omega
    · have := List.pairwise_iff_getElem.1 h1 i (begun.length - 1) hi hl (by omega)
      omega
  · rcases List.mem_append.1 hy with hy | hy
    · exact h2 y hy
    · obtain rfl := List.mem_singleton.1 hy
      omega
theorem fromL_le {n : Nat} {begun : List Int} (h : setB n begun = true) : fromL begun ≤ n := by
  unfold fromL
  split
  · omega
  · have := (setB_iff.1 h).2 _ (getD_mem (xs := begun) (k := begun.length - 1) (by omega))
    omega
theorem setB_len {n : Nat} {begun : List Int} (h : setB n begun = true) : begun.length ≤ n := (setB_true h).1

set_option maxRecDepth 100000 in
set_option maxHeartbeats 30000000 in
theorem l9Open_any (W Hn : Nat) (a : Option Addr) (n c : Nat) (xs : List Int) (a1 : Option Addr) (n1 c1 : Nat) (ss : List Int) (a2 : Option Addr) (n2 c2 : Nat) (ts : List Int) (w : World) (h : Ints w a n c xs) (h1 : Ints w a1 n1 c1 ss) (h2 : Ints w a2 n2 c2 ts) (hn25 : n ≤ 25) (hW : 1 ≤ W ∧ W ≤ 5) (hs : setB n ss = true) (hxs : ∀ x ∈ xs, 0 ≤ x) :
    Calls Tryz.prog 143 #[.agg #[.int .i64 W, .int .i64 Hn, .slice a n c], .slice a1 n1 c1, .slice a2 n2 c2] w (fun e w' => e = .returned (.bool (openB W n xs ss ts)) ∧ Below w.heap.size w w') := by
  have hM := Mem.start w
  have HSM := Lib.hid (setB_iff.1 hs).2
  have HL1 := Lib.hid h1.len
  have HXS := Lib.hid hxs
  have hr1 := h1.room
  clear hs hxs
  go_enter Tryz.func143, Tryz.ntmps143
  go_wp2_with fail
  go_loopw [7] (fun i wr => ∃ j : Nat, j ≤ n1 ∧ i = .int .i64 j ∧ Hid ((ss.take j).any (fun c => brn xs c.toNat && touchN W n xs ts c.toNat) = false) ∧ Mem w.heap.size w wr [rowE w.heap.size 26 #[.int .i64 W, .int .i64 Hn, .slice a n c]]) (fun i _ => n1 - (intOf i).toNat)
  case atStart => exact ⟨0, Nat.zero_le _, rfl, Lib.hid (by simp), by (exact memA)⟩
  case round =>
    clear hM
    obtain ⟨j, hj, rfl, HA, hM⟩ := hrel
    by_cases hlt : j < n1
    · have hjl : j < ss.length := by rw [HL1.out]; exact hlt
      have hts := any_take_succ (p := fun c => brn xs c.toNat && touchN W n xs ts c.toNat) hjl
      have htr := fun (e : brn xs (ss.getD j 0).toNat && touchN W n xs ts (ss.getD j 0).toNat) => (List.any_eq_true (p := fun c => brn xs c.toNat && touchN W n xs ts c.toNat)).2 ⟨_, getD_mem hjl, e⟩
      obtain ⟨d0, d1⟩ := HSM.out _ (getD_mem hjl)
      obtain ⟨d, hd⟩ := Int.eq_ofNat_of_zero_le d0
      obtain ⟨b1, o1, rfl, -, hc1⟩ := h1.at' _ hlt
      have hcs := h1.get hlt
      rw [hd] at hts htr d0 d1 hcs
      rw [Int.toNat_natCast] at hts htr
      have hdn : d < n := by omega
      obtain ⟨bx, ox, rfl, -, -⟩ := h.at' _ hdn
      obtain ⟨v, hv⟩ : ∃ v, xs.getD d 0 = v := ⟨_, rfl⟩
      obtain ⟨q, hq⟩ : ∃ q, touchN W n xs ts d = q := ⟨_, rfl⟩
      rw [brn, hv, hq] at hts htr
      have HTS := Lib.hid hts; have HTR := Lib.hid htr; have HD := Lib.hid hd; have HV := Lib.hid hv; have HQ := Lib.hid hq
      clear hts htr hd hv hq hjl hcs hc1
      have i0 : (0 : Int) ≤ (j : Int) := by omega
      have i1 : (j : Int) < (n1 : Int) := by omega
      go_upto_region 4 with fail
      apply Mem.atWpA
      · exact memA
      clear hM
      intro wst hM
      (try simp only [World.size_alloc, World.size_setCell, World.heap_drewN, heapDrew, Nat.add_assoc, Nat.reduceAdd, sA, List.cons_append, List.nil_append] at hM)
      by_cases hvz : 0 < v
      rotate_left
      · have hve : decide (0 < v) = false := decide_eq_false hvz
        have HVZ := Lib.hid hve
        clear hvz
        refine AtT.startA hM hM 17 (by kernel_rfl) ?_
        clear hM
        intro wd hM
        have hS := hM
        refine AtT.tk 0 ?_ 14 ?_ hS ?_
        rotate_left
        · (intro wS hSw; (try dsimp only at hSw); go_simp; (try rw [if_neg (by omega)]); try with_reducible rfl)
        simp only [Act.put, sA]
        refine AtT.tk 1 ?_ 15 ?_ hS ?_
        rotate_left
        · (intro wS hSw; (try dsimp only at hSw); have kr0 := (Mem.row hSw .here).cell; have hck := (h1.ext hSw.below).get hlt; rw [HD.out] at hck; have hcx := (h.ext hSw.below).get hdn; rw [HV.out] at hcx; go_simp; (try rw [if_neg (by omega)]); try with_reducible rfl)
        simp only [Act.put, sA]
        refine AtT.tk 2 ?_ 16 ?_ hS ?_
        rotate_left
        · (intro wS hSw; (try dsimp only at hSw); go_simp; (try rw [if_neg (by omega)]); try with_reducible rfl)
        simp only [Act.put, sA]
        refine AtT.tk 3 ?_ 17 ?_ hS ?_
        rotate_left
        · (intro wS hSw; (try dsimp only at hSw); go_simp; (try rw [if_neg (by omega)]); try with_reducible rfl)
        simp only [Act.put, sA]
        refine AtT.tk 4 ?_ 18 ?_ hS ?_
        rotate_left
        · (intro wS hSw; (try dsimp only at hSw); have kr0 := (Mem.row hSw .here).cell; have hck := (h1.ext hSw.below).get hlt; rw [HD.out] at hck; have hcx := (h.ext hSw.below).get hdn; rw [HV.out] at hcx; go_simp; (try rw [if_neg (by omega)]); try with_reducible rfl)
        simp only [Act.put, sA]
        refine AtT.tk 5 ?_ 19 ?_ hS ?_
        rotate_left
        · (intro wS hSw; (try dsimp only at hSw); have kr0 := (Mem.row hSw .here).cell; have hck := (h1.ext hSw.below).get hlt; rw [HD.out] at hck; have hcx := (h.ext hSw.below).get hdn; rw [HV.out] at hcx; go_simp; (try rw [if_neg (by omega)]); try with_reducible rfl)
        simp only [Act.put, sA]
        refine AtT.tk 6 ?_ 20 ?_ hS ?_
        rotate_left
        · (intro wS hSw; (try dsimp only at hSw); have kr0 := (Mem.row hSw .here).cell; have hck := (h1.ext hSw.below).get hlt; rw [HD.out] at hck; have hcx := (h.ext hSw.below).get hdn; rw [HV.out] at hcx; go_simp; (try rw [if_neg (by omega)]); try with_reducible rfl)
        simp only [Act.put, sA]
        refine AtT.tk 7 ?_ 21 ?_ hS ?_
        rotate_left
        · (intro wS hSw; (try dsimp only at hSw); have kr0 := (Mem.row hSw .here).cell; have hck := (h1.ext hSw.below).get hlt; rw [HD.out] at hck; have hcx := (h.ext hSw.below).get hdn; rw [HV.out] at hcx; go_simp; (try rw [if_neg (by omega)]); try with_reducible rfl)
        simp only [Act.put, sA]
        refine AtT.tk 8 ?_ 22 ?_ hS ?_
        rotate_left
        · (intro wS hSw; (try dsimp only at hSw); go_simp; (try rw [if_neg (by omega)]); try with_reducible rfl)
        simp only [Act.put, sA]
        refine AtT.tk 9 ?_ 23 ?_ hS ?_
        rotate_left
        · (intro wS hSw; (try dsimp only at hSw); go_simp; (try rw [if_neg (by omega)]); try with_reducible rfl)
        simp only [Act.put, sA]
        refine AtT.tn 10 24 hS ?_
        simp only [Act.put, sA]
        refine AtT.tn 11 25 hS ?_
        simp only [Act.put, sA]
        refine AtT.tn 12 26 hS ?_
        simp only [Act.put, sA]
        refine AtT.tn 13 27 hS ?_
        simp only [Act.put, sA]
        refine AtT.tn 14 28 hS ?_
        simp only [Act.put, sA]
        refine AtT.tn 15 29 hS ?_
        simp only [Act.put, sA]
        refine AtT.tn 16 30 hS ?_
        simp only [Act.put, sA]
        refine AtT.last (by kernel_rfl) rfl (by kernel_rfl) ?_
        intro K hK
        clear hS
        go_simp
        refine hK.out _ _ ?_
        clear hK K
        apply Mem.atEx
        · exact memA
        clear hM
        intro wst hM
        (try simp only [World.size_alloc, World.size_setCell, World.heap_drewN, heapDrew, Nat.add_assoc, Nat.reduceAdd, sA, List.cons_append, List.nil_append] at hM)
        go_wp2
        go_roundw
        case rel => exact ⟨j + 1, by omega, by go_num, Lib.hid (by rw [HTS.out, HA.out, HVZ.out]; rfl), hM⟩
        case measure => simp [intOf]; omega
      · have hve : decide (0 < v) = true := decide_eq_true hvz
        have HVZ := Lib.hid hve
        clear hvz
        refine AtT.startA hM hM 17 (by kernel_rfl) ?_
        clear hM
        intro wd hM
        have hS := hM
        refine AtT.tk 0 ?_ 14 ?_ hS ?_
        rotate_left
        · (intro wS hSw; (try dsimp only at hSw); go_simp; (try rw [if_neg (by omega)]); try with_reducible rfl)
        simp only [Act.put, sA]
        refine AtT.tk 1 ?_ 15 ?_ hS ?_
        rotate_left
        · (intro wS hSw; (try dsimp only at hSw); have kr0 := (Mem.row hSw .here).cell; have hck := (h1.ext hSw.below).get hlt; rw [HD.out] at hck; have hcx := (h.ext hSw.below).get hdn; rw [HV.out] at hcx; go_simp; (try rw [if_neg (by omega)]); try with_reducible rfl)
        simp only [Act.put, sA]
        refine AtT.tk 2 ?_ 16 ?_ hS ?_
        rotate_left
        · (intro wS hSw; (try dsimp only at hSw); go_simp; (try rw [if_neg (by omega)]); try with_reducible rfl)
        simp only [Act.put, sA]
        refine AtT.tk 3 ?_ 17 ?_ hS ?_
        rotate_left
        · (intro wS hSw; (try dsimp only at hSw); go_simp; (try rw [if_neg (by omega)]); try with_reducible rfl)
        simp only [Act.put, sA]
        refine AtT.tk 4 ?_ 18 ?_ hS ?_
        rotate_left
        · (intro wS hSw; (try dsimp only at hSw); have kr0 := (Mem.row hSw .here).cell; have hck := (h1.ext hSw.below).get hlt; rw [HD.out] at hck; have hcx := (h.ext hSw.below).get hdn; rw [HV.out] at hcx; go_simp; (try rw [if_neg (by omega)]); try with_reducible rfl)
        simp only [Act.put, sA]
        refine AtT.tk 5 ?_ 19 ?_ hS ?_
        rotate_left
        · (intro wS hSw; (try dsimp only at hSw); have kr0 := (Mem.row hSw .here).cell; have hck := (h1.ext hSw.below).get hlt; rw [HD.out] at hck; have hcx := (h.ext hSw.below).get hdn; rw [HV.out] at hcx; go_simp; (try rw [if_neg (by omega)]); try with_reducible rfl)
        simp only [Act.put, sA]
        refine AtT.tk 6 ?_ 20 ?_ hS ?_
        rotate_left
        · (intro wS hSw; (try dsimp only at hSw); have kr0 := (Mem.row hSw .here).cell; have hck := (h1.ext hSw.below).get hlt; rw [HD.out] at hck; have hcx := (h.ext hSw.below).get hdn; rw [HV.out] at hcx; go_simp; (try rw [if_neg (by omega)]); try with_reducible rfl)
        simp only [Act.put, sA]
        refine AtT.tk 7 ?_ 21 ?_ hS ?_
        rotate_left
        · (intro wS hSw; (try dsimp only at hSw); have kr0 := (Mem.row hSw .here).cell; have hck := (h1.ext hSw.below).get hlt; rw [HD.out] at hck; have hcx := (h.ext hSw.below).get hdn; rw [HV.out] at hcx; go_simp; (try rw [if_neg (by omega)]); try with_reducible rfl)
        simp only [Act.put, sA]
        refine AtT.tk 8 ?_ 22 ?_ hS ?_
        rotate_left
        · (intro wS hSw; (try dsimp only at hSw); go_simp; (try rw [if_neg (by omega)]); try with_reducible rfl)
        simp only [Act.put, sA]
        refine AtT.tk 9 ?_ 23 ?_ hS ?_
        rotate_left
        · (intro wS hSw; (try dsimp only at hSw); go_simp; (try rw [if_neg (by omega)]); try with_reducible rfl)
        simp only [Act.put, sA]
        refine AtT.tk 10 ?_ 24 ?_ hS ?_
        rotate_left
        · (intro wS hSw; (try dsimp only at hSw); have kr0 := (Mem.row hSw .here).cell; have hck := (h1.ext hSw.below).get hlt; rw [HD.out] at hck; have hcx := (h.ext hSw.below).get hdn; rw [HV.out] at hcx; go_simp; (try rw [if_neg (by omega)]); try with_reducible rfl)
        simp only [Act.put, sA]
        refine AtT.tk 11 ?_ 25 ?_ hS ?_
        rotate_left
        · (intro wS hSw; (try dsimp only at hSw); go_simp; (try rw [if_neg (by omega)]); try with_reducible rfl)
        simp only [Act.put, sA]
        refine AtT.tk 12 ?_ 26 ?_ hS ?_
        rotate_left
        · (intro wS hSw; (try dsimp only at hSw); go_simp; (try rw [if_neg (by omega)]); try with_reducible rfl)
        simp only [Act.put, sA]
        refine AtT.tk 13 ?_ 27 ?_ hS ?_
        rotate_left
        · (intro wS hSw; (try dsimp only at hSw); have kr0 := (Mem.row hSw .here).cell; have hck := (h1.ext hSw.below).get hlt; rw [HD.out] at hck; have hcx := (h.ext hSw.below).get hdn; rw [HV.out] at hcx; go_simp; (try rw [if_neg (by omega)]); try with_reducible rfl)
        simp only [Act.put, sA]
        refine AtT.tk 14 ?_ 28 ?_ hS ?_
        rotate_left
        · (intro wS hSw; (try dsimp only at hSw); have kr0 := (Mem.row hSw .here).cell; have hck := (h1.ext hSw.below).get hlt; rw [HD.out] at hck; have hcx := (h.ext hSw.below).get hdn; rw [HV.out] at hcx; go_simp; (try rw [if_neg (by omega)]); try with_reducible rfl)
        simp only [Act.put, sA]
        refine AtT.tk 15 ?_ 29 ?_ hS ?_
        rotate_left
        · (intro wS hSw; (try dsimp only at hSw); go_simp; (try rw [if_neg (by omega)]); try with_reducible rfl)
        simp only [Act.put, sA]
        refine AtT.only (i := 16) (by kernel_rfl) rfl rfl ?_
        intro K hK
        go_simp
        refine (l9Touch_any W Hn _ n c xs d a2 n2 c2 ts _ (h.ext hM.below) (h2.ext hM.below) hn25 hW hdn HXS.out).mono ?_
        rw [HQ.out]
        rintro e w3 ⟨rfl, hb⟩
        replace hM := hM.ext hb
        clear hb
        try dsimp only
        refine hK.out _ _ (hM) ?_
        clear hK K hS
        have hS := hM
        refine AtT.last (by kernel_rfl) rfl (by kernel_rfl) ?_
        intro K hK
        clear hS
        go_simp
        refine hK.out _ _ ?_
        clear hK K
        apply Mem.atEx
        · exact memA
        clear hM
        intro wst hM
        (try simp only [World.size_alloc, World.size_setCell, World.heap_drewN, heapDrew, Nat.add_assoc, Nat.reduceAdd, sA, List.cons_append, List.nil_append] at hM)
        cases q
        · go_wp2
          go_roundw
          case rel => exact ⟨j + 1, by omega, by go_num, Lib.hid (by rw [HTS.out, HA.out, HVZ.out]; rfl), hM⟩
          case measure => simp [intOf]; omega
        · go_wp2
          go_ret
          exact ⟨rb (by unfold openB; exact (HTR.out (by rw [HVZ.out]; rfl)).symm), (by apply Mem.below; (exact memA))⟩
    · obtain rfl : j = n1 := by omega
      have hany := HA.out
      rw [List.take_of_length_le (by rw [HL1.out]; exact Nat.le_refl _)] at hany
      have HB := Lib.hid hany; clear hany
      go_wp2
      go_ret
      exact ⟨rb (by unfold openB; rw [HB.out]), (by apply Mem.below; (exact memA))⟩
set_option maxRecDepth 100000 in
set_option maxHeartbeats 4000000 in
theorem l9Ways_any (W Hn : Nat) (a : Option Addr) (n c : Nat) (xs : List Int) (a1 : Option Addr) (n1 c1 : Nat) (ss : List Int) (a2 : Option Addr) (n2 c2 : Nat) (ts : List Int) (w : World) (h : Ints w a n c xs) (h1 : Ints w a1 n1 c1 ss) (h2 : Ints w a2 n2 c2 ts) (hn25 : n ≤ 25) (hW : 1 ≤ W ∧ W ≤ 5) (hxs : ∀ x ∈ xs, 0 ≤ x) (hdis : ∀ x ∈ ss, hasI ts x = false) (hop : openB W n xs ss ts = false) :
    Calls Tryz.prog 144 #[.agg #[.int .i64 W, .int .i64 Hn, .slice a n c], .slice a1 n1 c1, .slice a2 n2 c2] w fun e w' => ∃ k : Nat, FewT W n xs ss ts k ∧ k ≤ 60 ∧ e = .returned (.int .i64 k) ∧ Below w.heap.size w w' := by
  have hM := Mem.start w
  have HXS := Lib.hid hxs
  have HDIS := Lib.hid hdis
  have HOP := Lib.hid (open_no hop)
  clear hxs hdis hop
  go_enter Tryz.func144, Tryz.ntmps144
  go_wp2_with fail
  apply Mem.atA
  · exact memA
  clear hM
  intro wst hM
  (try simp only [World.size_alloc, World.size_setCell, World.heap_drewN, heapDrew, Nat.add_assoc, Nat.reduceAdd, sA, List.cons_append, List.nil_append] at hM)
  (first | refine (l9Caps_any W Hn a n c xs a1 n1 c1 ss a2 n2 c2 ts _ (h.ext hM.below) (h1.ext hM.below) (h2.ext hM.below) hn25 hW HXS.out).mono ?_)
  rintro e w2 ⟨b, cc, bs, rfl, hm⟩
  replace hM := hM.join hm
  clear hm
  (try simp only [World.size_alloc, World.size_setCell, World.heap_drewN, heapDrew, Nat.add_assoc, Nat.reduceAdd, sA, List.cons_append, List.nil_append] at hM)
  obtain ⟨N, hN⟩ : ∃ N, 2 * n + 2 = N := ⟨_, rfl⟩
  have HN := Lib.hid hN
  have hNb : 2 * n + 2 ≤ N ∧ N ≤ 2 * n + 2 := by omega
  rw [hN] at hM ⊢
  clear hN
  obtain ⟨M0, hM0⟩ : ∃ M0, capA n (nearN W) (brn xs) (fun k => hasI ss k) (fun k => hasI ts k) (2 * n) (2 * n + 1) (fun x => 2 * x) (fun x => 2 * x + 1) = M0 := ⟨_, rfl⟩
  rw [hM0] at hM
  have HM0 := Lib.hid hM0
  have hc1 : ∀ p q, M0 p q ≤ 1 := fun p q => by rw [← hM0]; exact (cap_01 p q).2
  have hf0 : Flow N (2 * n) (2 * n + 1) M0 M0 0 := Flow.start (fun p q _ _ => by rw [← hM0]; exact (cap_01 p q).1)
  have HC1 := Lib.hid hc1; have HF0 := Lib.hid hf0
  clear hM0 hc1 hf0
  go_wp2_with fail
  go_loopw [8] (fun s8 wr => ∃ (k : Nat) (M : Nat → Nat → Int), s8 = .int .i64 k ∧ k ≤ N ∧ Hid (Flow N (2 * n) (2 * n + 1) M0 M k) ∧ Mem w.heap.size w wr [matE 24 (some ⟨b, 0, none⟩) N cc N bs M, rowE w.heap.size 26 #[.int .i64 W, .int .i64 Hn, .slice a n c]]) (fun s8 _ => 100 - (intOf s8).toNat)
  case atStart => exact ⟨0, M0, rfl, Nat.zero_le _, HF0, hM⟩
  case round =>
    clear hM
    obtain ⟨k, M, rfl, hk, HF, hM⟩ := hrel
    go_wp2_with fail
    apply Mem.atA
    · exact memA
    clear hM
    intro wst hM
    (try simp only [World.size_alloc, World.size_setCell, World.heap_drewN, heapDrew, Nat.add_assoc, Nat.reduceAdd, sA, List.cons_append, List.nil_append] at hM)
    refine (l9Push_any b cc N (2 * n) (2 * n + 1) bs M0 M k _ (by omega) (by omega) (by omega) HF.out HC1.out hM).mono ?_
    rintro e w3 (⟨rfl, ⟨S, hs, ht, hfull⟩, hm⟩ | ⟨M', rfl, hf, hm⟩)
    · have hfew : FewT W n xs ss ts k := by
        have hcap := HM0.out
        have hn := net_spec n
        have hF := HF.out
        rw [← hcap] at hF
        rw [HN.out] at hn
        exact (flow_few hn (fun p q => nearN_symm W p q) (fun p _ hp => HDIS.out _ (hasI_iff.1 hp)) HOP.out hF hs ht hfull)
      have HFW := Lib.hid hfew
      clear hfew hfull hs ht hM
      have hM := hm
      clear hm
      go_wp2
      go_ret
      exact ⟨k, HFW.out, by omega, rfl, (by apply Mem.below; (exact memA))⟩
    · have hk1 := hf.most (by omega) (by omega) (fun p q _ _ => HC1.out p q)
      have HF2 := Lib.hid hf
      clear hM hf
      have hM := hm
      clear hm
      go_wp2
      go_roundw
      case rel => exact ⟨k + 1, M', by go_num, by omega, HF2, hM⟩
      case measure => simp [intOf]; omega
end Go.Proofs.YtojfbcgfeojdfaaGreat
