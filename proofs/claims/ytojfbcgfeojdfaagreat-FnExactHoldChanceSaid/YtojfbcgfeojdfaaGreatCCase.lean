/-
  Cases of lines: isRegion, isCase, free, holds, isLine; the reference's l9Asked, l9Line.
-/
import Derived.Test.YtojfbcgfeojdfaaGreatCLstV
import Derived.Test.YtojfbcgfeojdfaaGreatCFloodW
import Derived.Test.YtojfbcgfeojdfaaGreatCReachS
/-
  Cases of lines: isRegion, isCase, free, holds, isLine; the reference's l9Asked, l9Line.
-/
namespace Go.Proofs.YtojfbcgfeojdfaaGreat
set_option linter.unusedSimpArgs false
set_option linter.unusedVariables false
open Go.RowKit

def caseB (W H : Int) (xs : List Int) (n : Nat) (ss ts : List Int) : Bool := goodB 20 W H xs && (setB n ss && setB n ts) && ss.all (fun c => !hasI ts c)
/-- may a line have the cell -/
def freeN (xs ss ts : List Int) (c : Nat) : Bool := brn xs c && !hasI ss c && !hasI ts c
/-- does the line hold -/
noncomputable def holdB (W n : Nat) (xs ss ts line : List Int) : Bool := ts.all fun c => !hasI (reachL W n (clrL xs line) (fun k => hasI ss k)) c
noncomputable def lineB (W n : Nat) (xs ss ts line : List Int) : Bool := line.all (fun c => hasI (cellsN n (freeN xs ss ts)) c) && holdB W n xs ss ts line

set_option maxRecDepth 100000 in
set_option maxHeartbeats 1000000 in
theorem isRegion2_any (W H : Int) (a : Option Addr) (n c : Nat) (xs : List Int) (a1 : Option Addr) (n1 c1 : Nat) (s1 : List Int) (a2 : Option Addr) (n2 c2 : Nat) (s2 : List Int) (b : Nat) (w : World) (h : Ints w a n c xs) (h1 : Ints w a1 n1 c1 s1) (h2 : Ints w a2 n2 c2 s2) (hr : Row w b #[.slice a1 n1 c1, .slice a2 n2 c2]) :
    Calls Tryz.prog 72 #[.agg #[.int .i64 W, .int .i64 H, .slice a n c], .slice (some ⟨b, 0, none⟩) 2 2] w fun e w' => e = .returned (.bool (goodB 20 W H xs && (setB n s1 && setB n s2))) ∧ Below w.heap.size w w' := by
  have hM := Mem.start w
  have hmf : ∀ (fn : Fn) (first cap : Array Value) (w : World), (Instr.makeFunc fn first cap).run Tryz.prog w = .ok (.func fn first cap) w := fun _ _ _ _ => rfl
  have HL := Lib.hid h.len
  cases hg : goodB 20 W H xs
  · skip
    go_enter Tryz.func72, Tryz.ntmps72
    go_wp2_with fail
    apply Mem.at
    · (repeat' (first | with_reducible exact hM | with_reducible exact hMp | with_reducible apply Mem.drew | with_reducible apply Mem.drewN | with_reducible apply Mem.alloc | with_reducible apply Mem.set | with_reducible exact Sto.row | ((with_reducible refine Sto.rowEq2 ?_ ?_); omega; rfl) | ((with_reducible refine Sto.rowEq ?_); omega) | with_reducible apply Sto.int | with_reducible apply Sto.there | with_reducible assumption | (unfold I64; omega) | (with_reducible (have hMx := Mem.undrew hM; exact hMx)) | (with_reducible (have hMx := Mem.undrew hMp; exact hMx))))
    clear hM
    intro hM
    (try simp only [World.size_alloc, World.size_setCell, World.heap_drewN, heapDrew, Nat.add_assoc, Nat.reduceAdd, List.setIfInBounds_toArray, List.set_cons_zero, List.set_cons_succ, List.cons_append, List.nil_append] at hM)
    refine (IsTerrain_any W H a n c xs _ (h.ext hM.below)).mono ?_
    rw [hg]
    rintro e w1 ⟨rfl, hb⟩
    replace hM := hM.ext hb
    clear hb
    go_wp2
    go_ret
    exact ⟨rb rfl, (by apply Mem.below; (repeat' (first | with_reducible exact hM | with_reducible exact hMp | with_reducible apply Mem.drew | with_reducible apply Mem.drewN | with_reducible apply Mem.alloc | with_reducible apply Mem.set | with_reducible exact Sto.row | ((with_reducible refine Sto.rowEq2 ?_ ?_); omega; rfl) | ((with_reducible refine Sto.rowEq ?_); omega) | with_reducible apply Sto.int | with_reducible apply Sto.there | with_reducible assumption | (unfold I64; omega) | (with_reducible (have hMx := Mem.undrew hM; exact hMx)) | (with_reducible (have hMx := Mem.undrew hMp; exact hMx)))))⟩
  · obtain ⟨Wn, Hn, rfl, rfl, p1, p2, p3, p4, hlen, h25, hall⟩ := goodB_true hg
    have hn25 : n ≤ 25 := by rw [← HL.out]; exact h25
    clear h25 hlen hall
    have HG := Lib.hid hg; clear hg
    go_enter Tryz.func72, Tryz.ntmps72
    go_wp2_with fail
    apply Mem.at
    · (repeat' (first | with_reducible exact hM | with_reducible exact hMp | with_reducible apply Mem.drew | with_reducible apply Mem.drewN | with_reducible apply Mem.alloc | with_reducible apply Mem.set | with_reducible exact Sto.row | ((with_reducible refine Sto.rowEq2 ?_ ?_); omega; rfl) | ((with_reducible refine Sto.rowEq ?_); omega) | with_reducible apply Sto.int | with_reducible apply Sto.there | with_reducible assumption | (unfold I64; omega) | (with_reducible (have hMx := Mem.undrew hM; exact hMx)) | (with_reducible (have hMx := Mem.undrew hMp; exact hMx))))
    clear hM
    intro hM
    (try simp only [World.size_alloc, World.size_setCell, World.heap_drewN, heapDrew, Nat.add_assoc, Nat.reduceAdd, List.setIfInBounds_toArray, List.set_cons_zero, List.set_cons_succ, List.cons_append, List.nil_append] at hM)
    refine (IsTerrain_any _ _ a n c xs _ (h.ext hM.below)).mono ?_
    rw [HG.out]
    rintro e w1 ⟨rfl, hb⟩
    replace hM := hM.ext hb
    clear hb
    obtain ⟨k0, f0, l0⟩ := hM.row .here
    go_wp2_with fail
    clear k0 f0 l0
    apply Mem.at
    · (repeat' (first | with_reducible exact hM | with_reducible exact hMp | with_reducible apply Mem.drew | with_reducible apply Mem.drewN | with_reducible apply Mem.alloc | with_reducible apply Mem.set | with_reducible exact Sto.row | ((with_reducible refine Sto.rowEq2 ?_ ?_); omega; rfl) | ((with_reducible refine Sto.rowEq ?_); omega) | with_reducible apply Sto.int | with_reducible apply Sto.there | with_reducible assumption | (unfold I64; omega) | (with_reducible (have hMx := Mem.undrew hM; exact hMx)) | (with_reducible (have hMx := Mem.undrew hMp; exact hMx))))
    clear hM
    intro hM
    (try simp only [World.size_alloc, World.size_setCell, World.heap_drewN, heapDrew, Nat.add_assoc, Nat.reduceAdd, List.setIfInBounds_toArray, List.set_cons_zero, List.set_cons_succ, List.cons_append, List.nil_append] at hM)
    refine (allV_any _ _ _ (fun k => if k = 0 then setB n s1 else setB n s2) b 2 _ _ (by omega) rfl (hr.ext hM.below) (fun k v hv => by
      match k, hv with
      | 0, hv => exact ⟨a1, n1, c1, (Option.some.inj hv).symm⟩
      | 1, hv => exact ⟨a2, n2, c2, (Option.some.inj hv).symm⟩
      | k + 2, hv => simp at hv) (enters Tryz.func46 (by kernel_rfl) rfl) (fun k v hv w' hb => by
      have hM' := hM.ext hb
      match k, hv with
      | 0, hv =>
        obtain rfl := Option.some.inj hv
        exact isSet_any _ _ a n c a1 n1 c1 s1 _ (h1.ext hM'.below) hn25
      | 1, hv =>
        obtain rfl := Option.some.inj hv
        exact isSet_any _ _ a n c a2 n2 c2 s2 _ (h2.ext hM'.below) hn25
      | k + 2, hv => simp at hv)).mono ?_
    rw [show (List.range 2).all (fun k => if k = 0 then setB n s1 else setB n s2) = (setB n s1 && setB n s2) by simp [List.range_succ]]
    rintro e w2 ⟨rfl, hb⟩
    replace hM := hM.ext hb
    clear hb
    go_wp2
    go_ret
    exact ⟨rb rfl, (by apply Mem.below; (repeat' (first | with_reducible exact hM | with_reducible exact hMp | with_reducible apply Mem.drew | with_reducible apply Mem.drewN | with_reducible apply Mem.alloc | with_reducible apply Mem.set | with_reducible exact Sto.row | ((with_reducible refine Sto.rowEq2 ?_ ?_); omega; rfl) | ((with_reducible refine Sto.rowEq ?_); omega) | with_reducible apply Sto.int | with_reducible apply Sto.there | with_reducible assumption | (unfold I64; omega) | (with_reducible (have hMx := Mem.undrew hM; exact hMx)) | (with_reducible (have hMx := Mem.undrew hMp; exact hMx)))))⟩

set_option maxRecDepth 100000 in
set_option maxHeartbeats 400000 in
theorem isCase1_any (a : Option Addr) (n c : Nat) (ts : List Int) (x : Int) (b : Nat) (w : World) (h : Ints w a n c ts) (hr : Row w b #[.slice a n c]) :
    Calls Tryz.prog 74 #[.int .i64 x, .pointer (some ⟨b, 0, none⟩)] w fun e w' => e = .returned (.bool (!hasI ts x)) ∧ Below w.heap.size w w' := by
  have k1 := hr.cell
  go_enter Tryz.func74, Tryz.ntmps74
  go_wp2_with fail
  refine (has_any a n c ts x _ h).mono ?_
  rintro e w1 ⟨rfl, rfl⟩
  go_wp2
  go_ret
  exact ⟨rfl, Below.refl _ _⟩

set_option maxRecDepth 100000 in
set_option maxHeartbeats 1000000 in
theorem isCase_any (W H : Int) (a : Option Addr) (n c : Nat) (xs : List Int) (a1 : Option Addr) (n1 c1 : Nat) (ss : List Int) (a2 : Option Addr) (n2 c2 : Nat) (ts : List Int) (w : World) (h : Ints w a n c xs) (h1 : Ints w a1 n1 c1 ss) (h2 : Ints w a2 n2 c2 ts) :
    Calls Tryz.prog 32 #[.agg #[.int .i64 W, .int .i64 H, .slice a n c], .slice a1 n1 c1, .slice a2 n2 c2] w fun e w' => e = .returned (.bool (caseB W H xs n ss ts)) ∧ Below w.heap.size w w' := by
  have hM := Mem.start w
  have hmf : ∀ (fn : Fn) (first cap : Array Value) (w : World), (Instr.makeFunc fn first cap).run Tryz.prog w = .ok (.func fn first cap) w := fun _ _ _ _ => rfl
  obtain ⟨r, hr⟩ : ∃ r, (goodB 20 W H xs && (setB n ss && setB n ts)) = r := ⟨_, rfl⟩
  have HF := Lib.hid (show caseB W H xs n ss ts = (r && ss.all (fun c => !hasI ts c)) by rw [caseB, hr])
  have HR := Lib.hid hr
  clear hr
  go_enter Tryz.func32, Tryz.ntmps32
  go_wp2_with fail
  apply Mem.at
  · (repeat' (first | with_reducible exact hM | with_reducible exact hMp | with_reducible apply Mem.drew | with_reducible apply Mem.drewN | with_reducible apply Mem.alloc | with_reducible apply Mem.set | with_reducible exact Sto.row | ((with_reducible refine Sto.rowEq2 ?_ ?_); omega; rfl) | ((with_reducible refine Sto.rowEq ?_); omega) | with_reducible apply Sto.int | with_reducible apply Sto.there | with_reducible assumption | (unfold I64; omega) | (with_reducible (have hMx := Mem.undrew hM; exact hMx)) | (with_reducible (have hMx := Mem.undrew hMp; exact hMx))))
  clear hM
  intro hM
  (try simp only [World.size_alloc, World.size_setCell, World.heap_drewN, heapDrew, Nat.add_assoc, Nat.reduceAdd, List.setIfInBounds_toArray, List.set_cons_zero, List.set_cons_succ, List.cons_append, List.nil_append] at hM)
  refine (isRegion2_any W H a n c xs a1 n1 c1 ss a2 n2 c2 ts _ _ (h.ext hM.below) (h1.ext hM.below) (h2.ext hM.below) (hM.row .here)).mono ?_
  rw [HR.out]
  rintro e w1 ⟨rfl, hb⟩
  replace hM := hM.ext hb
  clear hb
  cases r
  · go_wp2
    go_ret
    exact ⟨rb (by rw [HF.out]; rfl), (by apply Mem.below; (repeat' (first | with_reducible exact hM | with_reducible exact hMp | with_reducible apply Mem.drew | with_reducible apply Mem.drewN | with_reducible apply Mem.alloc | with_reducible apply Mem.set | with_reducible exact Sto.row | ((with_reducible refine Sto.rowEq2 ?_ ?_); omega; rfl) | ((with_reducible refine Sto.rowEq ?_); omega) | with_reducible apply Sto.int | with_reducible apply Sto.there | with_reducible assumption | (unfold I64; omega) | (with_reducible (have hMx := Mem.undrew hM; exact hMx)) | (with_reducible (have hMx := Mem.undrew hMp; exact hMx)))))⟩
  go_wp2_with fail
  apply Mem.at
  · (repeat' (first | with_reducible exact hM | with_reducible exact hMp | with_reducible apply Mem.drew | with_reducible apply Mem.drewN | with_reducible apply Mem.alloc | with_reducible apply Mem.set | with_reducible exact Sto.row | ((with_reducible refine Sto.rowEq2 ?_ ?_); omega; rfl) | ((with_reducible refine Sto.rowEq ?_); omega) | with_reducible apply Sto.int | with_reducible apply Sto.there | with_reducible assumption | (unfold I64; omega) | (with_reducible (have hMx := Mem.undrew hM; exact hMx)) | (with_reducible (have hMx := Mem.undrew hMp; exact hMx))))
  clear hM
  intro hM
  (try simp only [World.size_alloc, World.size_setCell, World.heap_drewN, heapDrew, Nat.add_assoc, Nat.reduceAdd, List.setIfInBounds_toArray, List.set_cons_zero, List.set_cons_succ, List.cons_append, List.nil_append] at hM)
  refine (all_any _ _ (fun c => !hasI ts c) a1 n1 c1 ss _ (h1.ext hM.below) (enters Tryz.func74 (by kernel_rfl) rfl) (fun x hx w' hb => by
    have hM' := hM.ext hb
    exact isCase1_any a2 n2 c2 ts x _ w' (h2.ext hM'.below) (hM'.row (.there .here)))).mono ?_
  rintro e w2 ⟨rfl, hb⟩
  replace hM := hM.ext hb
  clear hb
  go_wp2
  go_ret
  exact ⟨rb (by rw [HF.out]; rfl), (by apply Mem.below; (repeat' (first | with_reducible exact hM | with_reducible exact hMp | with_reducible apply Mem.drew | with_reducible apply Mem.drewN | with_reducible apply Mem.alloc | with_reducible apply Mem.set | with_reducible exact Sto.row | ((with_reducible refine Sto.rowEq2 ?_ ?_); omega; rfl) | ((with_reducible refine Sto.rowEq ?_); omega) | with_reducible apply Sto.int | with_reducible apply Sto.there | with_reducible assumption | (unfold I64; omega) | (with_reducible (have hMx := Mem.undrew hM; exact hMx)) | (with_reducible (have hMx := Mem.undrew hMp; exact hMx)))))⟩
end Go.Proofs.YtojfbcgfeojdfaaGreat
