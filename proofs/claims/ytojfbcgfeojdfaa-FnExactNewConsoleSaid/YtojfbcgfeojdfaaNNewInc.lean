/-
  NewIncident.
-/
import Derived.Test.YtojfbcgfeojdfaaNClear
import Derived.Test.YtojfbcgfeojdfaaNMk
import Derived.Test.YtojfbcgfeojdfaaNMkr
import Derived.Test.YtojfbcgfeojdfaaNInc
import Derived.Deep.DeepCutAuto
/-
  NewIncident.
-/
namespace Go.Proofs.Ytojfbcgfeojdfaa
set_option linter.unusedSimpArgs false
set_option linter.unusedVariables false
open Go.RowKit

structure IncI where
  W : Int
  H : Int
  xs : List Int
  fs : List Int
  ws : List Int
  t : Int
def IncI.zero : IncI := ⟨0, 0, [], [], [], 0⟩
def fireTo (xs : List Int) (cells acc : List Int) : List Int := cells.foldl (fun acc c => acc.set c.toNat (xs.getD c.toNat 0)) acc
def fireL (xs cells : List Int) : List Int := fireTo xs cells (List.replicate xs.length 0)
theorem fireTo_length (xs cells acc : List Int) : (fireTo xs cells acc).length = acc.length := by
  unfold fireTo
  induction cells generalizing acc with
  | nil => rfl
  | cons c r ih => rw [List.foldl_cons, ih, List.length_set]
theorem fireTo_succ {xs cells acc : List Int} {k : Nat} (hk : k < cells.length) : fireTo xs (cells.take (k + 1)) acc = (fireTo xs (cells.take k) acc).set (cells.getD k 0).toNat (xs.getD (cells.getD k 0).toNat 0) := by
  unfold fireTo
  rw [List.take_add_one, List.getElem?_eq_getElem hk, Option.toList_some, List.foldl_append, List.getD_eq_getElem?_getD, List.getElem?_eq_getElem hk]
  rfl
structure IncR where
  i : IncI
  ok : Bool
def newR (W H : Int) (xs cells : List Int) : IncR := if goodB 20 W H xs && setB xs.length cells then ⟨⟨W, H, xs, fireL xs cells, List.replicate xs.length 0, 0⟩, true⟩ else ⟨IncI.zero, false⟩
/-- an incident and whether there is one: new memory -/
def IncRes (w : World) (r : IncR) (e : Ending) (w' : World) : Prop :=
  ∃ b1 n1 d1 b2 n2 d2 b3 n3 d3, e = .returned (.tuple #[.agg #[.int .i64 r.i.W, .int .i64 r.i.H, .slice b1 n1 d1, .slice b2 n2 d2, .slice b3 n3 d3, .int .i64 r.i.t], .bool r.ok]) ∧
    Mem w.heap.size w w' [intE b1 n1 d1 r.i.xs, intE b2 n2 d2 r.i.fs, intE b3 n3 d3 r.i.ws]
theorem Mem.nil3 {B : Nat} {w0 w : World} {G : List Ent} (h : Mem B w0 w G) : Mem B w0 w [intE none 0 0 [], intE none 0 0 [], intE none 0 0 []] := by
  refine ⟨h.below, h.size, ?_, ?_⟩
  · intro e he
    obtain rfl : e = _ := by simpa using he
    exact own_nil _ _
  · have hn : ∀ k, ¬ (intE none 0 0 []).blk k := fun k hk => by simp [intE, blockOf] at hk
    simp [List.pairwise_cons, hn]

set_option maxRecDepth 100000 in
set_option maxHeartbeats 4000000 in
theorem implNewInc_any (W H : Int) (a : Option Addr) (n c : Nat) (xs : List Int) (a' : Option Addr) (n' c' : Nat) (cells : List Int) (w : World) (h : Ints w a n c xs) (h' : Ints w a' n' c' cells) :
    Calls Try.prog 25 #[.agg #[.int .i64 W, .int .i64 H, .slice a n c], .slice a' n' c'] w (IncRes w (newR W H xs cells)) := by
  have hn := h.cap
  have hc := h.room
  have HL := Lib.hid h.len
  have HL' := Lib.hid h'.len
  have hn' := h'.cap
  have hc' := h'.room
  have hM := Mem.start w
  cases hg1 : goodB 20 W H xs
  · have HF := Lib.hid (show newR W H xs cells = ⟨IncI.zero, false⟩ by rw [newR, hg1]; rfl)
    go_enter Try.func25, Try.ntmps25
    go_wp2_with fail
    apply Mem.at
    · (repeat' (first | with_reducible exact hM | with_reducible exact hMp | with_reducible apply Mem.drew | with_reducible apply Mem.drewN | with_reducible apply Mem.alloc | with_reducible apply Mem.set | with_reducible exact Sto.row | ((with_reducible refine Sto.rowEq2 ?_ ?_); omega; rfl) | ((with_reducible refine Sto.rowEq ?_); omega) | with_reducible apply Sto.int | with_reducible apply Sto.there | with_reducible assumption | (unfold I64; omega) | (with_reducible (have hMx := Mem.undrew hM; exact hMx)) | (with_reducible (have hMx := Mem.undrew hMp; exact hMx))))
    clear hM
    intro hM
    (try simp only [World.size_alloc, World.size_setCell, World.heap_drewN, heapDrew, Nat.add_assoc, Nat.reduceAdd, List.setIfInBounds_toArray, List.set_cons_zero, List.set_cons_succ, List.cons_append, List.nil_append] at hM)
    refine (IsTerrain_any W H a n c xs _ (h.ext hM.below)).mono ?_
    rw [hg1]
    rintro e w1 ⟨rfl, hb⟩
    replace hM := hM.ext hb
    clear hb
    obtain ⟨k1, f1, l1⟩ := hM.row .here
    go_wp2
    rw [HF.out]
    refine bodyPost_ret (v := .tuple #[.agg #[.int .i64 0, .int .i64 0, .slice none 0 0, .slice none 0 0, .slice none 0 0, .int .i64 0], .bool false]) (by simp [results, Try.results25, go_sem, k1]) rfl ⟨none, 0, 0, none, 0, 0, none, 0, 0, rfl, ?_⟩
    apply Mem.nil3
    (repeat' (first | with_reducible exact hM | with_reducible exact hMp | with_reducible apply Mem.drew | with_reducible apply Mem.drewN | with_reducible apply Mem.alloc | with_reducible apply Mem.set | with_reducible exact Sto.row | ((with_reducible refine Sto.rowEq2 ?_ ?_); omega; rfl) | ((with_reducible refine Sto.rowEq ?_); omega) | with_reducible apply Sto.int | with_reducible apply Sto.there | with_reducible assumption | (unfold I64; omega) | (with_reducible (have hMx := Mem.undrew hM; exact hMx)) | (with_reducible (have hMx := Mem.undrew hMp; exact hMx))))
  obtain ⟨Wn, Hn, rfl, rfl, a1, a2, b1, b2, hlen, h25, hall⟩ := goodB_true hg1
  have hn25 : n ≤ 25 := by rw [← HL.out]; exact h25
  have hnp : 0 < n := by rw [← HL.out, hlen]; exact Nat.mul_pos a1 b1
  clear h25 hlen hall
  cases hs : setB n cells
  · have HF := Lib.hid (show newR Wn Hn xs cells = ⟨IncI.zero, false⟩ by rw [newR, HL.out, hs, Bool.and_false]; rfl)
    go_enter Try.func25, Try.ntmps25
    go_wp2_with fail
    apply Mem.at
    · (repeat' (first | with_reducible exact hM | with_reducible exact hMp | with_reducible apply Mem.drew | with_reducible apply Mem.drewN | with_reducible apply Mem.alloc | with_reducible apply Mem.set | with_reducible exact Sto.row | ((with_reducible refine Sto.rowEq2 ?_ ?_); omega; rfl) | ((with_reducible refine Sto.rowEq ?_); omega) | with_reducible apply Sto.int | with_reducible apply Sto.there | with_reducible assumption | (unfold I64; omega) | (with_reducible (have hMx := Mem.undrew hM; exact hMx)) | (with_reducible (have hMx := Mem.undrew hMp; exact hMx))))
    clear hM
    intro hM
    (try simp only [World.size_alloc, World.size_setCell, World.heap_drewN, heapDrew, Nat.add_assoc, Nat.reduceAdd, List.setIfInBounds_toArray, List.set_cons_zero, List.set_cons_succ, List.cons_append, List.nil_append] at hM)
    refine (IsTerrain_any Wn Hn a n c xs _ (h.ext hM.below)).mono ?_
    rw [hg1]
    rintro e w1 ⟨rfl, hb⟩
    replace hM := hM.ext hb
    clear hb
    obtain ⟨k1, f1, l1⟩ := hM.row (.there .here)
    go_wp2_with fail
    clear k1 f1 l1
    apply Mem.at
    · (repeat' (first | with_reducible exact hM | with_reducible exact hMp | with_reducible apply Mem.drew | with_reducible apply Mem.drewN | with_reducible apply Mem.alloc | with_reducible apply Mem.set | with_reducible exact Sto.row | ((with_reducible refine Sto.rowEq2 ?_ ?_); omega; rfl) | ((with_reducible refine Sto.rowEq ?_); omega) | with_reducible apply Sto.int | with_reducible apply Sto.there | with_reducible assumption | (unfold I64; omega) | (with_reducible (have hMx := Mem.undrew hM; exact hMx)) | (with_reducible (have hMx := Mem.undrew hMp; exact hMx))))
    clear hM
    intro hM
    (try simp only [World.size_alloc, World.size_setCell, World.heap_drewN, heapDrew, Nat.add_assoc, Nat.reduceAdd, List.setIfInBounds_toArray, List.set_cons_zero, List.set_cons_succ, List.cons_append, List.nil_append] at hM)
    refine (isSet_any _ _ a n c a' n' c' cells _ (h'.ext hM.below) hn25).mono ?_
    rw [hs]
    rintro e w2 ⟨rfl, hb⟩
    replace hM := hM.ext hb
    clear hb
    obtain ⟨k1, f1, l1⟩ := hM.row .here
    go_wp2
    rw [HF.out]
    refine bodyPost_ret (v := .tuple #[.agg #[.int .i64 0, .int .i64 0, .slice none 0 0, .slice none 0 0, .slice none 0 0, .int .i64 0], .bool false]) (by simp [results, Try.results25, go_sem, k1]) rfl ⟨none, 0, 0, none, 0, 0, none, 0, 0, rfl, ?_⟩
    apply Mem.nil3
    (repeat' (first | with_reducible exact hM | with_reducible exact hMp | with_reducible apply Mem.drew | with_reducible apply Mem.drewN | with_reducible apply Mem.alloc | with_reducible apply Mem.set | with_reducible exact Sto.row | ((with_reducible refine Sto.rowEq2 ?_ ?_); omega; rfl) | ((with_reducible refine Sto.rowEq ?_); omega) | with_reducible apply Sto.int | with_reducible apply Sto.there | with_reducible assumption | (unfold I64; omega) | (with_reducible (have hMx := Mem.undrew hM; exact hMx)) | (with_reducible (have hMx := Mem.undrew hMp; exact hMx))))
  have HF := Lib.hid (show newR Wn Hn xs cells = ⟨⟨Wn, Hn, xs, fireL xs cells, List.replicate n 0, 0⟩, true⟩ by rw [newR, HL.out, hs, hg1]; rfl)
  have HAF := Lib.hid (fun k (hk : k < cells.length) => set_fact hs hk)
  have HG := Lib.hid hg1
  have HS := Lib.hid hs
  clear hg1 hs
  obtain ⟨i0, hi, hz0, hz1, hz2⟩ := info_parts Try.info3
  go_enter Try.func25, Try.ntmps25
  go_wp2_with fail
  apply Mem.at
  · (repeat' (first | with_reducible exact hM | with_reducible exact hMp | with_reducible apply Mem.drew | with_reducible apply Mem.drewN | with_reducible apply Mem.alloc | with_reducible apply Mem.set | with_reducible exact Sto.row | ((with_reducible refine Sto.rowEq2 ?_ ?_); omega; rfl) | ((with_reducible refine Sto.rowEq ?_); omega) | with_reducible apply Sto.int | with_reducible apply Sto.there | with_reducible assumption | (unfold I64; omega) | (with_reducible (have hMx := Mem.undrew hM; exact hMx)) | (with_reducible (have hMx := Mem.undrew hMp; exact hMx))))
  clear hM
  intro hM
  (try simp only [World.size_alloc, World.size_setCell, World.heap_drewN, heapDrew, Nat.add_assoc, Nat.reduceAdd, List.setIfInBounds_toArray, List.set_cons_zero, List.set_cons_succ, List.cons_append, List.nil_append] at hM)
  refine (IsTerrain_any Wn Hn a n c xs _ (h.ext hM.below)).mono ?_
  rw [HG.out]
  rintro e w1 ⟨rfl, hb⟩
  replace hM := hM.ext hb
  clear hb
  obtain ⟨k1, f1, l1⟩ := hM.row (.there .here)
  go_wp2_with fail
  clear k1 f1 l1
  apply Mem.at
  · (repeat' (first | with_reducible exact hM | with_reducible exact hMp | with_reducible apply Mem.drew | with_reducible apply Mem.drewN | with_reducible apply Mem.alloc | with_reducible apply Mem.set | with_reducible exact Sto.row | ((with_reducible refine Sto.rowEq2 ?_ ?_); omega; rfl) | ((with_reducible refine Sto.rowEq ?_); omega) | with_reducible apply Sto.int | with_reducible apply Sto.there | with_reducible assumption | (unfold I64; omega) | (with_reducible (have hMx := Mem.undrew hM; exact hMx)) | (with_reducible (have hMx := Mem.undrew hMp; exact hMx))))
  clear hM
  intro hM
  (try simp only [World.size_alloc, World.size_setCell, World.heap_drewN, heapDrew, Nat.add_assoc, Nat.reduceAdd, List.setIfInBounds_toArray, List.set_cons_zero, List.set_cons_succ, List.cons_append, List.nil_append] at hM)
  refine (isSet_any _ _ a n c a' n' c' cells _ (h'.ext hM.below) hn25).mono ?_
  rw [HS.out]
  rintro e w2 ⟨rfl, hb⟩
  replace hM := hM.ext hb
  clear hb
  have k0 := (hM.row (.there .here)).cell
  go_wp2_with fail
  clear k0
  refine AtT.startA hM hM 12 (by kernel_rfl) ?_
  clear hM
  intro wd hM
  have hS := hM
  refine AtT.taked (i := 0) (v := ?_) (some 19) rfl rfl (by kernel_rfl) (by kernel_rfl) (by kernel_rfl) (by kernel_rfl) (fun _ _ _ h => h) (Or.inl ⟨by kernel_rfl, ?_⟩) hS ?_
  rotate_left
  · (intro wS hSw; (try dsimp only at hSw); have kr0 := (Mem.row hSw (.there .here)).cell; go_simp; (try rw [if_neg (by omega)]); try with_reducible rfl)
  simp only [Act.put, List.setIfInBounds_toArray, List.set_cons_zero, List.set_cons_succ]
  refine AtT.taked (i := 2) (v := ?_) (some 21) rfl rfl (by kernel_rfl) (by kernel_rfl) (by kernel_rfl) (by kernel_rfl) (fun _ _ _ h => h) (Or.inl ⟨by kernel_rfl, ?_⟩) hS ?_
  rotate_left
  · (intro wS hSw; (try dsimp only at hSw); go_simp; (try rw [if_neg (by omega)]); try with_reducible rfl)
  simp only [Act.put, List.setIfInBounds_toArray, List.set_cons_zero, List.set_cons_succ]
  refine AtT.taked (i := 3) (v := ?_) (some 22) rfl rfl (by kernel_rfl) (by kernel_rfl) (by kernel_rfl) (by kernel_rfl) (fun _ _ _ h => h) (Or.inl ⟨by kernel_rfl, ?_⟩) hS ?_
  rotate_left
  · (intro wS hSw; (try dsimp only at hSw); have kr0 := (Mem.row hSw (.there .here)).cell; go_simp; (try rw [if_neg (by omega)]); try with_reducible rfl)
  simp only [Act.put, List.setIfInBounds_toArray, List.set_cons_zero, List.set_cons_succ]
  refine AtT.taked (i := 4) (v := ?_) (some 23) rfl rfl (by kernel_rfl) (by kernel_rfl) (by kernel_rfl) (by kernel_rfl) (fun _ _ _ h => h) (Or.inl ⟨by kernel_rfl, ?_⟩) hS ?_
  rotate_left
  · (intro wS hSw; (try dsimp only at hSw); go_simp; (try rw [if_neg (by omega)]); try with_reducible rfl)
  simp only [Act.put, List.setIfInBounds_toArray, List.set_cons_zero, List.set_cons_succ]
  refine AtT.taked (i := 6) (v := ?_) (some 25) rfl rfl (by kernel_rfl) (by kernel_rfl) (by kernel_rfl) (by kernel_rfl) (fun _ _ _ h => h) (Or.inl ⟨by kernel_rfl, ?_⟩) hS ?_
  rotate_left
  · (intro wS hSw; (try dsimp only at hSw); go_simp; (try rw [if_neg (by omega)]); try with_reducible rfl)
  simp only [Act.put, List.setIfInBounds_toArray, List.set_cons_zero, List.set_cons_succ]
  refine AtT.taked (i := 7) (v := ?_) (some 26) rfl rfl (by kernel_rfl) (by kernel_rfl) (by kernel_rfl) (by kernel_rfl) (fun _ _ _ h => h) (Or.inl ⟨by kernel_rfl, ?_⟩) hS ?_
  rotate_left
  · (intro wS hSw; (try dsimp only at hSw); have kr0 := (Mem.row hSw (.there .here)).cell; go_simp; (try rw [if_neg (by omega)]); try with_reducible rfl)
  simp only [Act.put, List.setIfInBounds_toArray, List.set_cons_zero, List.set_cons_succ]
  refine AtT.taked (i := 8) (v := ?_) (some 27) rfl rfl (by kernel_rfl) (by kernel_rfl) (by kernel_rfl) (by kernel_rfl) (fun _ _ _ h => h) (Or.inl ⟨by kernel_rfl, ?_⟩) hS ?_
  rotate_left
  · (intro wS hSw; (try dsimp only at hSw); go_simp; (try rw [if_neg (by omega)]); try with_reducible rfl)
  simp only [Act.put, List.setIfInBounds_toArray, List.set_cons_zero, List.set_cons_succ]
  refine AtT.makers (fun i pv => if i = 1 then RTerr Wn Hn n xs else if i = 5 then RInts n (List.replicate n 0) else if i = 9 then RInts n (List.replicate n 0) else if i = 11 then RRow 30 #[.int .i64 0, .int .i64 0, .slice none 0 0, .slice none 0 0, .slice none 0 0, .int .i64 0] else fun _ _ => False) 5 [1, 5, 9, 10, 11] [10] (fun i => if i = 1 then some 20 else if i = 5 then some 24 else if i = 9 then some 28 else if i = 10 then some 29 else if i = 11 then some 6 else none) (fun i => if i = 10 then [1, 5, 9] else []) rfl (by kernel_rfl) hM ⟨?_, ?_, ?_, ?_, ?_, trivial⟩ ?_
  · skip
    clear hM
    refine SpecAt.intro rfl ?_
    intro ρ hρ w2 G1 hM K Q hK
    clear hρ
    simp only [puts, Nat.reduceEqDiff, if_true, if_false, reduceIte, Act.put, List.setIfInBounds_toArray, List.set_cons_zero, List.set_cons_succ]
    simp only [puts, Nat.reduceEqDiff, if_true, if_false, reduceIte, Act.put, List.setIfInBounds_toArray, List.set_cons_zero, List.set_cons_succ, flat, List.flatMap_cons, List.flatMap_nil, List.nil_append, List.cons_append, List.append_nil] at hK
    simp only [flat, List.flatMap_cons, List.flatMap_nil, List.nil_append, List.cons_append, List.append_nil, Nat.reduceEqDiff, if_true, if_false, reduceIte] at hM
    go_simp
    refine (copiedTerrain_any _ _ a n c xs _ (h.ext hM.below)).mono ?_
    rintro e w3 ⟨a2, c2, rfl, hO, hb⟩
    exact hK.out _ _ _ ⟨_, _, rfl, rfl⟩ (hM.own hb hO)
  · skip
    clear hM
    refine SpecAt.intro rfl ?_
    intro ρ hρ w2 G1 hM K Q hK
    clear hρ
    simp only [puts, Nat.reduceEqDiff, if_true, if_false, reduceIte, Act.put, List.setIfInBounds_toArray, List.set_cons_zero, List.set_cons_succ]
    simp only [puts, Nat.reduceEqDiff, if_true, if_false, reduceIte, Act.put, List.setIfInBounds_toArray, List.set_cons_zero, List.set_cons_succ, flat, List.flatMap_cons, List.flatMap_nil, List.nil_append, List.cons_append, List.append_nil] at hK
    simp only [flat, List.flatMap_cons, List.flatMap_nil, List.nil_append, List.cons_append, List.append_nil, Nat.reduceEqDiff, if_true, if_false, reduceIte] at hM
    refine wp_makeI hM (some 24) rfl _ _ 22 rfl i0 Try.underlying22 hi hz0 hz1 hz2 n rfl rfl (by omega) (fun b w' hM => ?_)
    simp only [Act.put, List.setIfInBounds_toArray, List.set_cons_zero, List.set_cons_succ]
    exact hK.out _ _ _ ⟨_, _, rfl, rfl⟩ hM
  · skip
    clear hM
    refine SpecAt.intro rfl ?_
    intro ρ hρ w2 G1 hM K Q hK
    clear hρ
    simp only [puts, Nat.reduceEqDiff, if_true, if_false, reduceIte, Act.put, List.setIfInBounds_toArray, List.set_cons_zero, List.set_cons_succ]
    simp only [puts, Nat.reduceEqDiff, if_true, if_false, reduceIte, Act.put, List.setIfInBounds_toArray, List.set_cons_zero, List.set_cons_succ, flat, List.flatMap_cons, List.flatMap_nil, List.nil_append, List.cons_append, List.append_nil] at hK
    simp only [flat, List.flatMap_cons, List.flatMap_nil, List.nil_append, List.cons_append, List.append_nil, Nat.reduceEqDiff, if_true, if_false, reduceIte] at hM
    refine wp_makeI hM (some 28) rfl _ _ 22 rfl i0 Try.underlying22 hi hz0 hz1 hz2 n rfl rfl (by omega) (fun b w' hM => ?_)
    simp only [Act.put, List.setIfInBounds_toArray, List.set_cons_zero, List.set_cons_succ]
    exact hK.out _ _ _ ⟨_, _, rfl, rfl⟩ hM
  · skip
    clear hM
    refine SpecAt.pure rfl rfl rfl ?_
    intro ρ hρ
    have h1 : (RTerr Wn Hn n xs) (ρ 1).1 (ρ 1).2 := hρ 1 (by decide)
    obtain ⟨a2, c2, v1, E1⟩ := h1
    have h5 : (RInts n (List.replicate n 0)) (ρ 5).1 (ρ 5).2 := hρ 5 (by decide)
    obtain ⟨a3, c3, v5, E5⟩ := h5
    have h9 : (RInts n (List.replicate n 0)) (ρ 9).1 (ρ 9).2 := hρ 9 (by decide)
    obtain ⟨a4, c4, v9, E9⟩ := h9
    refine ⟨?_, fun wS => ?_⟩
    rotate_left
    · (simp only [puts, Nat.reduceEqDiff, if_true, if_false, reduceIte, Act.put, List.setIfInBounds_toArray, List.set_cons_zero, List.set_cons_succ, v1, v5, v9]; go_simp; (try rw [if_neg (by omega)]); try with_reducible rfl)
  · skip
    clear hM
    refine SpecAt.intro rfl ?_
    intro ρ hρ w2 G1 hM K Q hK
    clear hρ
    simp only [puts, Nat.reduceEqDiff, if_true, if_false, reduceIte, Act.put, List.setIfInBounds_toArray, List.set_cons_zero, List.set_cons_succ]
    simp only [puts, Nat.reduceEqDiff, if_true, if_false, reduceIte, Act.put, List.setIfInBounds_toArray, List.set_cons_zero, List.set_cons_succ, flat, List.flatMap_cons, List.flatMap_nil, List.nil_append, List.cons_append, List.append_nil] at hK
    simp only [flat, List.flatMap_cons, List.flatMap_nil, List.nil_append, List.cons_append, List.append_nil, Nat.reduceEqDiff, if_true, if_false, reduceIte] at hM
    go_simp
    exact hK.out _ _ _ ⟨_, rfl, rfl⟩ (hM.alloc _ _)
  clear hM hS
  intro ρ hρ wm hM
  have hS := hM.sub (List.sublist_append_right _ _)
  have h1 : (RTerr Wn Hn n xs) (ρ 1).1 (ρ 1).2 := hρ 1 (by decide)
  obtain ⟨a2, c2, v1, E1⟩ := h1
  have h5 : (RInts n (List.replicate n 0)) (ρ 5).1 (ρ 5).2 := hρ 5 (by decide)
  obtain ⟨a3, c3, v5, E5⟩ := h5
  have h9 : (RInts n (List.replicate n 0)) (ρ 9).1 (ρ 9).2 := hρ 9 (by decide)
  obtain ⟨a4, c4, v9, E9⟩ := h9
  have h10 := combo_pure (hρ 10 (by decide)) rfl rfl
  obtain ⟨E10, h10⟩ := h10
  refine pure_known (v' := ?_) h10 wm ?_ ?_
  rotate_left
  · (simp only [puts, Nat.reduceEqDiff, if_true, if_false, reduceIte, Act.put, List.setIfInBounds_toArray, List.set_cons_zero, List.set_cons_succ, v1, v5, v9]; go_simp; (try rw [if_neg (by omega)]); try with_reducible rfl)
  intro v10
  have h11 : (RRow 30 #[.int .i64 0, .int .i64 0, .slice none 0 0, .slice none 0 0, .slice none 0 0, .int .i64 0]) (ρ 11).1 (ρ 11).2 := hρ 11 (by decide)
  obtain ⟨b5, v11, E11⟩ := h11
  clear hρ
  simp only [sets, puts, Nat.reduceEqDiff, if_true, if_false, reduceIte, Act.put, List.setIfInBounds_toArray, List.set_cons_zero, List.set_cons_succ, v1, v5, v9, v10, v11]
  simp only [flat, List.flatMap_cons, List.flatMap_nil, List.nil_append, List.cons_append, List.append_nil, E1, E5, E9, E10, E11] at hM
  clear v1 E1 v5 E5 v9 E9 v10 E10 v11 E11
  refine AtT.last (by kernel_rfl) rfl (by kernel_rfl) ?_
  intro K hK
  clear hS
  have kk3 := (hM.row (.there (.there (.there .here)))).cell
  have ff3 := (hM.row (.there (.there (.there .here)))).free
  have ll3 := (hM.row (.there (.there (.there .here)))).lt
  have kk5 := (hM.row (.there (.there (.there (.there (.there .here)))))).cell
  have ff5 := (hM.row (.there (.there (.there (.there (.there .here)))))).free
  have ll5 := (hM.row (.there (.there (.there (.there (.there .here)))))).lt
  go_simp
  clear kk3 ff3 ll3 kk5 ff5 ll5
  refine hK.out _ _ ?_
  clear hK K
  obtain ⟨g, rfl, -, -, -, -⟩ := (hM.ints (.there .here)).head hnp
  go_wp2
  go_loopw [32] (fun i wr => ∃ k : Nat, k ≤ n' ∧ i = .int .i64 k ∧ Mem w.heap.size w wr [rowE b5 30 #[.int .i64 Wn, .int .i64 Hn, .slice a2 n c2, .slice (some ⟨g, 0, none⟩) n c3, .slice a4 n c4, .int .i64 0], intE (some ⟨g, 0, none⟩) n c3 (fireTo xs (cells.take k) (List.replicate n 0)), intE a2 n c2 xs, intE a4 n c4 (List.replicate n 0), rowE (w.heap.size + 1) 30 #[.int .i64 0, .int .i64 0, .slice none 0 0, .slice none 0 0, .slice none 0 0, .int .i64 0], rowE w.heap.size 28 #[.int .i64 Wn, .int .i64 Hn, .slice a n c]]) (fun i _ => n' - (intOf i).toNat)
  case atStart =>
    refine ⟨0, Nat.zero_le _, rfl, ?_⟩
    apply Mem.pick (is := [3, 1, 0, 2, 4, 5])
    · (repeat' (first | with_reducible exact hM | with_reducible exact hMp | with_reducible apply Mem.drew | with_reducible apply Mem.drewN | with_reducible apply Mem.alloc | with_reducible apply Mem.set | with_reducible exact Sto.row | ((with_reducible refine Sto.rowEq2 ?_ ?_); omega; rfl) | ((with_reducible refine Sto.rowEq ?_); omega) | with_reducible apply Sto.int | with_reducible apply Sto.there | with_reducible assumption | (unfold I64; omega) | (with_reducible (have hMx := Mem.undrew hM; exact hMx)) | (with_reducible (have hMx := Mem.undrew hMp; exact hMx))))
    · decide
    · rfl
  case round =>
    clear hM
    obtain ⟨k, hk, rfl, hM⟩ := hrel
    by_cases hlt : k < n'
    · obtain ⟨b, off, rfl, hbb, hcell⟩ := (h'.ext hM.below).at' _ hlt
      have hck := hcell k hlt
      clear hcell hbb
      have hkc : k < cells.length := by rw [HL'.out]; exact hlt
      obtain ⟨m, hm, hmn⟩ := HAF.out k hkc
      have HST := Lib.hid (fireTo_succ (xs := xs) (acc := List.replicate n 0) hkc)
      clear hkc
      rw [hm] at hck
      have HM := Lib.hid hm; clear hm
      obtain ⟨bx, offx, rfl, hbx, hcx⟩ := (h.ext hM.below).at' _ hmn
      clear hcx hbx
      obtain ⟨x, hx⟩ : ∃ x, xs.getD m 0 = x := ⟨_, rfl⟩
      have HX := Lib.hid hx; clear hx
      have i0 : (0 : Int) ≤ (k : Int) := by omega
      have i1 : (k : Int) < (n' : Int) := by omega
      have m0 : (0 : Int) ≤ (m : Int) := by omega
      have m1 : (m : Int) < (n : Int) := by omega
      go_wp2
      refine AtT.startA hM hM 9 (by kernel_rfl) ?_
      clear hM
      intro wd hM
      have hS := hM
      refine AtT.taked (i := 0) (v := ?_) (some 36) rfl rfl (by kernel_rfl) (by kernel_rfl) (by kernel_rfl) (by kernel_rfl) (fun _ _ _ h => h) (Or.inl ⟨by kernel_rfl, ?_⟩) hS ?_
      rotate_left
      · (intro wS hSw; (try dsimp only at hSw); go_simp; (try rw [if_neg (by omega)]); try with_reducible rfl)
      simp only [Act.put, List.setIfInBounds_toArray, List.set_cons_zero, List.set_cons_succ]
      refine AtT.taked (i := 1) (v := ?_) (some 37) rfl rfl (by kernel_rfl) (by kernel_rfl) (by kernel_rfl) (by kernel_rfl) (fun _ _ _ h => h) (Or.inl ⟨by kernel_rfl, ?_⟩) hS ?_
      rotate_left
      · (intro wS hSw; (try dsimp only at hSw); have kr0 := (Mem.row hSw .here).cell; have kr1 := (Mem.row hSw (.there (.there (.there (.there (.there .here)))))).cell; have hcm := (h.ext hSw.below).get hmn; rw [HX.out] at hcm; go_simp; (try rw [if_neg (by omega)]); try with_reducible rfl)
      simp only [Act.put, List.setIfInBounds_toArray, List.set_cons_zero, List.set_cons_succ]
      refine AtT.taked (i := 2) (v := ?_) (some 38) rfl rfl (by kernel_rfl) (by kernel_rfl) (by kernel_rfl) (by kernel_rfl) (fun _ _ _ h => h) (Or.inl ⟨by kernel_rfl, ?_⟩) hS ?_
      rotate_left
      · (intro wS hSw; (try dsimp only at hSw); go_simp; (try rw [if_neg (by omega)]); try with_reducible rfl)
      simp only [Act.put, List.setIfInBounds_toArray, List.set_cons_zero, List.set_cons_succ]
      refine AtT.taked (i := 3) (v := ?_) (some 39) rfl rfl (by kernel_rfl) (by kernel_rfl) (by kernel_rfl) (by kernel_rfl) (fun _ _ _ h => h) (Or.inl ⟨by kernel_rfl, ?_⟩) hS ?_
      rotate_left
      · (intro wS hSw; (try dsimp only at hSw); go_simp; (try rw [if_neg (by omega)]); try with_reducible rfl)
      simp only [Act.put, List.setIfInBounds_toArray, List.set_cons_zero, List.set_cons_succ]
      refine AtT.taked (i := 4) (v := ?_) (some 40) rfl rfl (by kernel_rfl) (by kernel_rfl) (by kernel_rfl) (by kernel_rfl) (fun _ _ _ h => h) (Or.inl ⟨by kernel_rfl, ?_⟩) hS ?_
      rotate_left
      · (intro wS hSw; (try dsimp only at hSw); have kr0 := (Mem.row hSw .here).cell; have kr1 := (Mem.row hSw (.there (.there (.there (.there (.there .here)))))).cell; have hcm := (h.ext hSw.below).get hmn; rw [HX.out] at hcm; go_simp; (try rw [if_neg (by omega)]); try with_reducible rfl)
      simp only [Act.put, List.setIfInBounds_toArray, List.set_cons_zero, List.set_cons_succ]
      refine AtT.taked (i := 5) (v := ?_) (some 41) rfl rfl (by kernel_rfl) (by kernel_rfl) (by kernel_rfl) (by kernel_rfl) (fun _ _ _ h => h) (Or.inl ⟨by kernel_rfl, ?_⟩) hS ?_
      rotate_left
      · (intro wS hSw; (try dsimp only at hSw); go_simp; (try rw [if_neg (by omega)]); try with_reducible rfl)
      simp only [Act.put, List.setIfInBounds_toArray, List.set_cons_zero, List.set_cons_succ]
      refine AtT.taked (i := 6) (v := ?_) (some 42) rfl rfl (by kernel_rfl) (by kernel_rfl) (by kernel_rfl) (by kernel_rfl) (fun _ _ _ h => h) (Or.inl ⟨by kernel_rfl, ?_⟩) hS ?_
      rotate_left
      · (intro wS hSw; (try dsimp only at hSw); have kr0 := (Mem.row hSw .here).cell; have kr1 := (Mem.row hSw (.there (.there (.there (.there (.there .here)))))).cell; have hcm := (h.ext hSw.below).get hmn; rw [HX.out] at hcm; go_simp; (try rw [if_neg (by omega)]); try with_reducible rfl)
      simp only [Act.put, List.setIfInBounds_toArray, List.set_cons_zero, List.set_cons_succ]
      refine AtT.taked (i := 7) (v := ?_) (some 43) rfl rfl (by kernel_rfl) (by kernel_rfl) (by kernel_rfl) (by kernel_rfl) (fun _ _ _ h => h) (Or.inl ⟨by kernel_rfl, ?_⟩) hS ?_
      rotate_left
      · (intro wS hSw; (try dsimp only at hSw); have kr0 := (Mem.row hSw .here).cell; have kr1 := (Mem.row hSw (.there (.there (.there (.there (.there .here)))))).cell; have hcm := (h.ext hSw.below).get hmn; rw [HX.out] at hcm; go_simp; (try rw [if_neg (by omega)]); try with_reducible rfl)
      simp only [Act.put, List.setIfInBounds_toArray, List.set_cons_zero, List.set_cons_succ]
      refine AtT.taked (i := 8) (v := ?_) (some 44) rfl rfl (by kernel_rfl) (by kernel_rfl) (by kernel_rfl) (by kernel_rfl) (fun _ _ _ h => h) (Or.inl ⟨by kernel_rfl, ?_⟩) hS ?_
      rotate_left
      · (intro wS hSw; (try dsimp only at hSw); have kr0 := (Mem.row hSw .here).cell; have kr1 := (Mem.row hSw (.there (.there (.there (.there (.there .here)))))).cell; have hcm := (h.ext hSw.below).get hmn; rw [HX.out] at hcm; go_simp; (try rw [if_neg (by omega)]); try with_reducible rfl)
      simp only [Act.put, List.setIfInBounds_toArray, List.set_cons_zero, List.set_cons_succ]
      refine AtT.last (by kernel_rfl) rfl (by kernel_rfl) ?_
      intro K hK
      clear hS
      have kk0 := (hM.row .here).cell
      have ff0 := (hM.row .here).free
      have ll0 := (hM.row .here).lt
      have kk5 := (hM.row (.there (.there (.there (.there (.there .here)))))).cell
      have ff5 := (hM.row (.there (.there (.there (.there (.there .here)))))).free
      have ll5 := (hM.row (.there (.there (.there (.there (.there .here)))))).lt
      have hfk := (hM.ints (.there .here)).freeAt m
      have hdk := (hM.ints (.there .here)).cellAt hmn
      go_simp
      clear kk0 ff0 ll0 kk5 ff5 ll5
      refine hK.out _ _ ?_
      clear hK K
      go_wp2
      go_roundw
      case rel =>
        refine ⟨k + 1, by omega, by go_num, ?_⟩
        have e1 := HST.out
        rw [HM.out, Int.toNat_natCast, HX.out] at e1
        rw [e1]
        have hxi : I64 x := by rw [← HX.out]; exact h.wf _ (getD_mem (by rw [HL.out]; exact hmn))
        (repeat' (first | with_reducible exact hM | with_reducible exact hMp | with_reducible apply Mem.drew | with_reducible apply Mem.drewN | with_reducible apply Mem.alloc | with_reducible apply Mem.set | with_reducible exact Sto.row | ((with_reducible refine Sto.rowEq2 ?_ ?_); omega; rfl) | ((with_reducible refine Sto.rowEq ?_); omega) | with_reducible apply Sto.int | with_reducible apply Sto.there | with_reducible assumption | (unfold I64; omega) | (with_reducible (have hMx := Mem.undrew hM; exact hMx)) | (with_reducible (have hMx := Mem.undrew hMp; exact hMx))))
      case measure => simp [intOf]; omega
    · obtain rfl : k = n' := by omega
      rw [List.take_of_length_le (by rw [HL'.out]; exact Nat.le_refl _)] at hM
      obtain ⟨k0, f0, l0⟩ := hM.row .here
      obtain ⟨k4, f4, l4⟩ := hM.row (.there (.there (.there (.there .here))))
      go_wp2
      rw [HF.out]
      refine bodyPost_ret (v := .tuple #[.agg #[.int .i64 Wn, .int .i64 Hn, .slice a2 n c2, .slice (some ⟨g, 0, none⟩) n c3, .slice a4 n c4, .int .i64 0], .bool true]) (by simp [results, Try.results25, go_sem, k4]) rfl ⟨a2, n, c2, some ⟨g, 0, none⟩, n, c3, a4, n, c4, rfl, ?_⟩
      dsimp only
      have e0 : fireTo xs cells (List.replicate n 0) = fireL xs cells := by unfold fireL; rw [HL.out]
      rw [e0] at hM
      apply Mem.pick (is := [2, 1, 3])
      · (repeat' (first | with_reducible exact hM | with_reducible exact hMp | with_reducible apply Mem.drew | with_reducible apply Mem.drewN | with_reducible apply Mem.alloc | with_reducible apply Mem.set | with_reducible exact Sto.row | ((with_reducible refine Sto.rowEq2 ?_ ?_); omega; rfl) | ((with_reducible refine Sto.rowEq ?_); omega) | with_reducible apply Sto.int | with_reducible apply Sto.there | with_reducible assumption | (unfold I64; omega) | (with_reducible (have hMx := Mem.undrew hM; exact hMx)) | (with_reducible (have hMx := Mem.undrew hMp; exact hMx))))
      · decide
      · rfl
set_option maxRecDepth 100000 in
set_option maxHeartbeats 4000000 in
theorem specNewInc_any (W H : Int) (a : Option Addr) (n c : Nat) (xs : List Int) (a' : Option Addr) (n' c' : Nat) (cells : List Int) (w : World) (h : Ints w a n c xs) (h' : Ints w a' n' c' cells) :
    Calls Try.prog 21 #[.agg #[.int .i64 W, .int .i64 H, .slice a n c], .slice a' n' c'] w (IncRes w (newR W H xs cells)) := by
  have hn := h.cap
  have hc := h.room
  have HL := Lib.hid h.len
  have HL' := Lib.hid h'.len
  have hn' := h'.cap
  have hc' := h'.room
  have hM := Mem.start w
  cases hgs : (goodB 20 W H xs && setB n cells)
  · have HF := Lib.hid (show newR W H xs cells = ⟨IncI.zero, false⟩ by rw [newR, HL.out, hgs]; rfl)
    go_enter Try.func21, Try.ntmps21
    go_wp2_with fail
    apply Mem.at
    · (repeat' (first | with_reducible exact hM | with_reducible exact hMp | with_reducible apply Mem.drew | with_reducible apply Mem.drewN | with_reducible apply Mem.alloc | with_reducible apply Mem.set | with_reducible exact Sto.row | ((with_reducible refine Sto.rowEq2 ?_ ?_); omega; rfl) | ((with_reducible refine Sto.rowEq ?_); omega) | with_reducible apply Sto.int | with_reducible apply Sto.there | with_reducible assumption | (unfold I64; omega) | (with_reducible (have hMx := Mem.undrew hM; exact hMx)) | (with_reducible (have hMx := Mem.undrew hMp; exact hMx))))
    clear hM
    intro hM
    (try simp only [World.size_alloc, World.size_setCell, World.heap_drewN, heapDrew, Nat.add_assoc, Nat.reduceAdd, List.setIfInBounds_toArray, List.set_cons_zero, List.set_cons_succ, List.cons_append, List.nil_append] at hM)
    refine (l2Set_any W H a n c xs a' n' c' cells _ (h.ext hM.below) (h'.ext hM.below)).mono ?_
    rw [hgs]
    rintro e w1 ⟨rfl, hb⟩
    replace hM := hM.ext hb
    clear hb
    obtain ⟨k1, f1, l1⟩ := hM.row .here
    go_wp2
    rw [HF.out]
    refine bodyPost_ret (v := .tuple #[.agg #[.int .i64 0, .int .i64 0, .slice none 0 0, .slice none 0 0, .slice none 0 0, .int .i64 0], .bool false]) (by simp [results, Try.results21, go_sem, k1]) rfl ⟨none, 0, 0, none, 0, 0, none, 0, 0, rfl, ?_⟩
    apply Mem.nil3
    (repeat' (first | with_reducible exact hM | with_reducible exact hMp | with_reducible apply Mem.drew | with_reducible apply Mem.drewN | with_reducible apply Mem.alloc | with_reducible apply Mem.set | with_reducible exact Sto.row | ((with_reducible refine Sto.rowEq2 ?_ ?_); omega; rfl) | ((with_reducible refine Sto.rowEq ?_); omega) | with_reducible apply Sto.int | with_reducible apply Sto.there | with_reducible assumption | (unfold I64; omega) | (with_reducible (have hMx := Mem.undrew hM; exact hMx)) | (with_reducible (have hMx := Mem.undrew hMp; exact hMx))))
  have HGS := Lib.hid hgs
  rw [Bool.and_eq_true] at hgs
  obtain ⟨hg1, hs⟩ := hgs
  obtain ⟨Wn, Hn, rfl, rfl, a1, a2, b1, b2, hlen, h25, hall⟩ := goodB_true hg1
  have hn25 : n ≤ 25 := by rw [← HL.out]; exact h25
  have hnp : 0 < n := by rw [← HL.out, hlen]; exact Nat.mul_pos a1 b1
  clear h25 hlen hall
  have HF := Lib.hid (show newR Wn Hn xs cells = ⟨⟨Wn, Hn, xs, fireL xs cells, List.replicate n 0, 0⟩, true⟩ by rw [newR, HL.out, hs, hg1]; rfl)
  have HAF := Lib.hid (fun k (hk : k < cells.length) => set_fact hs hk)
  have HG := Lib.hid hg1
  have HS := Lib.hid hs
  clear hg1 hs
  obtain ⟨i0, hi, hz0, hz1, hz2⟩ := info_parts Try.info3
  go_enter Try.func21, Try.ntmps21
  go_wp2_with fail
  apply Mem.at
  · (repeat' (first | with_reducible exact hM | with_reducible exact hMp | with_reducible apply Mem.drew | with_reducible apply Mem.drewN | with_reducible apply Mem.alloc | with_reducible apply Mem.set | with_reducible exact Sto.row | ((with_reducible refine Sto.rowEq2 ?_ ?_); omega; rfl) | ((with_reducible refine Sto.rowEq ?_); omega) | with_reducible apply Sto.int | with_reducible apply Sto.there | with_reducible assumption | (unfold I64; omega) | (with_reducible (have hMx := Mem.undrew hM; exact hMx)) | (with_reducible (have hMx := Mem.undrew hMp; exact hMx))))
  clear hM
  intro hM
  (try simp only [World.size_alloc, World.size_setCell, World.heap_drewN, heapDrew, Nat.add_assoc, Nat.reduceAdd, List.setIfInBounds_toArray, List.set_cons_zero, List.set_cons_succ, List.cons_append, List.nil_append] at hM)
  refine (l2Set_any _ _ a n c xs a' n' c' cells _ (h.ext hM.below) (h'.ext hM.below)).mono ?_
  rw [HGS.out]
  rintro e w2 ⟨rfl, hb⟩
  replace hM := hM.ext hb
  clear hb
  have k0 := (hM.row (.there .here)).cell
  go_wp2_with fail
  clear k0
  refine AtT.startA hM hM 13 (by kernel_rfl) ?_
  clear hM
  intro wd hM
  have hS := hM
  refine AtT.taked (i := 0) (v := ?_) (some 13) rfl rfl (by kernel_rfl) (by kernel_rfl) (by kernel_rfl) (by kernel_rfl) (fun _ _ _ h => h) (Or.inl ⟨by kernel_rfl, ?_⟩) hS ?_
  rotate_left
  · (intro wS hSw; (try dsimp only at hSw); have kr0 := (Mem.row hSw (.there .here)).cell; go_simp; (try rw [if_neg (by omega)]); try with_reducible rfl)
  simp only [Act.put, List.setIfInBounds_toArray, List.set_cons_zero, List.set_cons_succ]
  refine AtT.taked (i := 3) (v := ?_) (some 16) rfl rfl (by kernel_rfl) (by kernel_rfl) (by kernel_rfl) (by kernel_rfl) (fun _ _ _ h => h) (Or.inl ⟨by kernel_rfl, ?_⟩) hS ?_
  rotate_left
  · (intro wS hSw; (try dsimp only at hSw); go_simp; (try rw [if_neg (by omega)]); try with_reducible rfl)
  simp only [Act.put, List.setIfInBounds_toArray, List.set_cons_zero, List.set_cons_succ]
  refine AtT.taked (i := 4) (v := ?_) (some 17) rfl rfl (by kernel_rfl) (by kernel_rfl) (by kernel_rfl) (by kernel_rfl) (fun _ _ _ h => h) (Or.inl ⟨by kernel_rfl, ?_⟩) hS ?_
  rotate_left
  · (intro wS hSw; (try dsimp only at hSw); have kr0 := (Mem.row hSw (.there .here)).cell; go_simp; (try rw [if_neg (by omega)]); try with_reducible rfl)
  simp only [Act.put, List.setIfInBounds_toArray, List.set_cons_zero, List.set_cons_succ]
  refine AtT.taked (i := 5) (v := ?_) (some 18) rfl rfl (by kernel_rfl) (by kernel_rfl) (by kernel_rfl) (by kernel_rfl) (fun _ _ _ h => h) (Or.inl ⟨by kernel_rfl, ?_⟩) hS ?_
  rotate_left
  · (intro wS hSw; (try dsimp only at hSw); go_simp; (try rw [if_neg (by omega)]); try with_reducible rfl)
  simp only [Act.put, List.setIfInBounds_toArray, List.set_cons_zero, List.set_cons_succ]
  refine AtT.taked (i := 7) (v := ?_) (some 20) rfl rfl (by kernel_rfl) (by kernel_rfl) (by kernel_rfl) (by kernel_rfl) (fun _ _ _ h => h) (Or.inl ⟨by kernel_rfl, ?_⟩) hS ?_
  rotate_left
  · (intro wS hSw; (try dsimp only at hSw); go_simp; (try rw [if_neg (by omega)]); try with_reducible rfl)
  simp only [Act.put, List.setIfInBounds_toArray, List.set_cons_zero, List.set_cons_succ]
  refine AtT.taked (i := 8) (v := ?_) (some 21) rfl rfl (by kernel_rfl) (by kernel_rfl) (by kernel_rfl) (by kernel_rfl) (fun _ _ _ h => h) (Or.inl ⟨by kernel_rfl, ?_⟩) hS ?_
  rotate_left
  · (intro wS hSw; (try dsimp only at hSw); have kr0 := (Mem.row hSw (.there .here)).cell; go_simp; (try rw [if_neg (by omega)]); try with_reducible rfl)
  simp only [Act.put, List.setIfInBounds_toArray, List.set_cons_zero, List.set_cons_succ]
  refine AtT.taked (i := 9) (v := ?_) (some 22) rfl rfl (by kernel_rfl) (by kernel_rfl) (by kernel_rfl) (by kernel_rfl) (fun _ _ _ h => h) (Or.inl ⟨by kernel_rfl, ?_⟩) hS ?_
  rotate_left
  · (intro wS hSw; (try dsimp only at hSw); go_simp; (try rw [if_neg (by omega)]); try with_reducible rfl)
  simp only [Act.put, List.setIfInBounds_toArray, List.set_cons_zero, List.set_cons_succ]
  refine AtT.makers (fun i pv => if i = 1 then REmpty else if i = 2 then RTerr Wn Hn n xs else if i = 6 then RInts n (List.replicate n 0) else if i = 10 then RInts n (List.replicate n 0) else if i = 12 then RRow 30 #[.int .i64 0, .int .i64 0, .slice none 0 0, .slice none 0 0, .slice none 0 0, .int .i64 0] else fun _ _ => False) 6 [1, 2, 6, 10, 11, 12] [11] (fun i => if i = 1 then some 14 else if i = 2 then some 15 else if i = 6 then some 19 else if i = 10 then some 23 else if i = 11 then some 24 else if i = 12 then some 6 else none) (fun i => if i = 2 then [1] else if i = 11 then [2, 6, 10] else []) rfl (by kernel_rfl) hM ⟨?_, ?_, ?_, ?_, ?_, ?_, trivial⟩ ?_
  · skip
    clear hM
    refine SpecAt.intro rfl ?_
    intro ρ hρ w2 G1 hM K Q hK
    clear hρ
    simp only [puts, Nat.reduceEqDiff, if_true, if_false, reduceIte, Act.put, List.setIfInBounds_toArray, List.set_cons_zero, List.set_cons_succ]
    simp only [puts, Nat.reduceEqDiff, if_true, if_false, reduceIte, Act.put, List.setIfInBounds_toArray, List.set_cons_zero, List.set_cons_succ, flat, List.flatMap_cons, List.flatMap_nil, List.nil_append, List.cons_append, List.append_nil] at hK
    simp only [flat, List.flatMap_cons, List.flatMap_nil, List.nil_append, List.cons_append, List.append_nil, Nat.reduceEqDiff, if_true, if_false, reduceIte] at hM
    go_simp
    exact hK.out _ _ _ ⟨_, rfl, rfl⟩ hM.empty
  · skip
    clear hM
    refine SpecAt.intro rfl ?_
    intro ρ hρ w2 G1 hM K Q hK
    have h1 : (REmpty) (ρ 1).1 (ρ 1).2 := hρ 1 (by decide)
    obtain ⟨b1, v1, E1⟩ := h1
    clear hρ
    simp only [puts, Nat.reduceEqDiff, if_true, if_false, reduceIte, Act.put, List.setIfInBounds_toArray, List.set_cons_zero, List.set_cons_succ, v1]
    simp only [puts, Nat.reduceEqDiff, if_true, if_false, reduceIte, Act.put, List.setIfInBounds_toArray, List.set_cons_zero, List.set_cons_succ, flat, List.flatMap_cons, List.flatMap_nil, List.nil_append, List.cons_append, List.append_nil, v1, E1] at hK
    simp only [flat, List.flatMap_cons, List.flatMap_nil, List.nil_append, List.cons_append, List.append_nil, E1, Nat.reduceEqDiff, if_true, if_false, reduceIte] at hM
    try clear v1
    go_simp
    refine (l2Clear_any Wn Hn a n c xs _ 0 0 [] _ (h.ext hM.below) (hM.ints .here).ints hnp hn25 rfl).mono ?_
    rintro e w3 ⟨a2, c2, rfl, hO, hb⟩
    rw [show clrL xs [] = xs from rfl] at hO
    exact hK.out _ _ _ ⟨_, _, rfl, rfl⟩ (hM.own hb hO)
  · skip
    clear hM
    refine SpecAt.intro rfl ?_
    intro ρ hρ w2 G1 hM K Q hK
    clear hρ
    simp only [puts, Nat.reduceEqDiff, if_true, if_false, reduceIte, Act.put, List.setIfInBounds_toArray, List.set_cons_zero, List.set_cons_succ]
    simp only [puts, Nat.reduceEqDiff, if_true, if_false, reduceIte, Act.put, List.setIfInBounds_toArray, List.set_cons_zero, List.set_cons_succ, flat, List.flatMap_cons, List.flatMap_nil, List.nil_append, List.cons_append, List.append_nil] at hK
    simp only [flat, List.flatMap_cons, List.flatMap_nil, List.nil_append, List.cons_append, List.append_nil, Nat.reduceEqDiff, if_true, if_false, reduceIte] at hM
    refine wp_makeI hM (some 19) rfl _ _ 22 rfl i0 Try.underlying22 hi hz0 hz1 hz2 n rfl rfl (by omega) (fun b w' hM => ?_)
    simp only [Act.put, List.setIfInBounds_toArray, List.set_cons_zero, List.set_cons_succ]
    exact hK.out _ _ _ ⟨_, _, rfl, rfl⟩ hM
  · skip
    clear hM
    refine SpecAt.intro rfl ?_
    intro ρ hρ w2 G1 hM K Q hK
    clear hρ
    simp only [puts, Nat.reduceEqDiff, if_true, if_false, reduceIte, Act.put, List.setIfInBounds_toArray, List.set_cons_zero, List.set_cons_succ]
    simp only [puts, Nat.reduceEqDiff, if_true, if_false, reduceIte, Act.put, List.setIfInBounds_toArray, List.set_cons_zero, List.set_cons_succ, flat, List.flatMap_cons, List.flatMap_nil, List.nil_append, List.cons_append, List.append_nil] at hK
    simp only [flat, List.flatMap_cons, List.flatMap_nil, List.nil_append, List.cons_append, List.append_nil, Nat.reduceEqDiff, if_true, if_false, reduceIte] at hM
    refine wp_makeI hM (some 23) rfl _ _ 22 rfl i0 Try.underlying22 hi hz0 hz1 hz2 n rfl rfl (by omega) (fun b w' hM => ?_)
    simp only [Act.put, List.setIfInBounds_toArray, List.set_cons_zero, List.set_cons_succ]
    exact hK.out _ _ _ ⟨_, _, rfl, rfl⟩ hM
  · skip
    clear hM
    refine SpecAt.pure rfl rfl rfl ?_
    intro ρ hρ
    have h2 : (RTerr Wn Hn n xs) (ρ 2).1 (ρ 2).2 := hρ 2 (by decide)
    obtain ⟨a2, c2, v2, E2⟩ := h2
    have h6 : (RInts n (List.replicate n 0)) (ρ 6).1 (ρ 6).2 := hρ 6 (by decide)
    obtain ⟨a3, c3, v6, E6⟩ := h6
    have h10 : (RInts n (List.replicate n 0)) (ρ 10).1 (ρ 10).2 := hρ 10 (by decide)
    obtain ⟨a4, c4, v10, E10⟩ := h10
    refine ⟨?_, fun wS => ?_⟩
    rotate_left
    · (simp only [puts, Nat.reduceEqDiff, if_true, if_false, reduceIte, Act.put, List.setIfInBounds_toArray, List.set_cons_zero, List.set_cons_succ, v2, v6, v10]; go_simp; (try rw [if_neg (by omega)]); try with_reducible rfl)
  · skip
    clear hM
    refine SpecAt.intro rfl ?_
    intro ρ hρ w2 G1 hM K Q hK
    clear hρ
    simp only [puts, Nat.reduceEqDiff, if_true, if_false, reduceIte, Act.put, List.setIfInBounds_toArray, List.set_cons_zero, List.set_cons_succ]
    simp only [puts, Nat.reduceEqDiff, if_true, if_false, reduceIte, Act.put, List.setIfInBounds_toArray, List.set_cons_zero, List.set_cons_succ, flat, List.flatMap_cons, List.flatMap_nil, List.nil_append, List.cons_append, List.append_nil] at hK
    simp only [flat, List.flatMap_cons, List.flatMap_nil, List.nil_append, List.cons_append, List.append_nil, Nat.reduceEqDiff, if_true, if_false, reduceIte] at hM
    go_simp
    exact hK.out _ _ _ ⟨_, rfl, rfl⟩ (hM.alloc _ _)
  clear hM hS
  intro ρ hρ wm hM
  have hS := hM.sub (List.sublist_append_right _ _)
  have h1 : (REmpty) (ρ 1).1 (ρ 1).2 := hρ 1 (by decide)
  obtain ⟨b1, v1, E1⟩ := h1
  have h2 : (RTerr Wn Hn n xs) (ρ 2).1 (ρ 2).2 := hρ 2 (by decide)
  obtain ⟨a2, c2, v2, E2⟩ := h2
  have h6 : (RInts n (List.replicate n 0)) (ρ 6).1 (ρ 6).2 := hρ 6 (by decide)
  obtain ⟨a3, c3, v6, E6⟩ := h6
  have h10 : (RInts n (List.replicate n 0)) (ρ 10).1 (ρ 10).2 := hρ 10 (by decide)
  obtain ⟨a4, c4, v10, E10⟩ := h10
  have h11 := combo_pure (hρ 11 (by decide)) rfl rfl
  obtain ⟨E11, h11⟩ := h11
  refine pure_known (v' := ?_) h11 wm ?_ ?_
  rotate_left
  · (simp only [puts, Nat.reduceEqDiff, if_true, if_false, reduceIte, Act.put, List.setIfInBounds_toArray, List.set_cons_zero, List.set_cons_succ, v2, v6, v10]; go_simp; (try rw [if_neg (by omega)]); try with_reducible rfl)
  intro v11
  have h12 : (RRow 30 #[.int .i64 0, .int .i64 0, .slice none 0 0, .slice none 0 0, .slice none 0 0, .int .i64 0]) (ρ 12).1 (ρ 12).2 := hρ 12 (by decide)
  obtain ⟨b5, v12, E12⟩ := h12
  clear hρ
  simp only [sets, puts, Nat.reduceEqDiff, if_true, if_false, reduceIte, Act.put, List.setIfInBounds_toArray, List.set_cons_zero, List.set_cons_succ, v1, v2, v6, v10, v11, v12]
  simp only [flat, List.flatMap_cons, List.flatMap_nil, List.nil_append, List.cons_append, List.append_nil, E1, E2, E6, E10, E11, E12] at hM
  clear v1 E1 v2 E2 v6 E6 v10 E10 v11 E11 v12 E12
  refine AtT.last (by kernel_rfl) rfl (by kernel_rfl) ?_
  intro K hK
  clear hS
  have kk4 := (hM.row (.there (.there (.there (.there .here))))).cell
  have ff4 := (hM.row (.there (.there (.there (.there .here))))).free
  have ll4 := (hM.row (.there (.there (.there (.there .here))))).lt
  have kk6 := (hM.row (.there (.there (.there (.there (.there (.there .here))))))).cell
  have ff6 := (hM.row (.there (.there (.there (.there (.there (.there .here))))))).free
  have ll6 := (hM.row (.there (.there (.there (.there (.there (.there .here))))))).lt
  go_simp
  clear kk4 ff4 ll4 kk6 ff6 ll6
  refine hK.out _ _ ?_
  clear hK K
  obtain ⟨g, rfl, -, -, -, -⟩ := (hM.ints (.there (.there .here))).head hnp
  go_wp2
  go_loopw [7] (fun i wr => ∃ k : Nat, k ≤ n' ∧ i = .int .i64 k ∧ Mem w.heap.size w wr [rowE b5 30 #[.int .i64 Wn, .int .i64 Hn, .slice a2 n c2, .slice (some ⟨g, 0, none⟩) n c3, .slice a4 n c4, .int .i64 0], intE (some ⟨g, 0, none⟩) n c3 (fireTo xs (cells.take k) (List.replicate n 0)), intE a2 n c2 xs, intE a4 n c4 (List.replicate n 0), rowE (w.heap.size + 1) 30 #[.int .i64 0, .int .i64 0, .slice none 0 0, .slice none 0 0, .slice none 0 0, .int .i64 0], rowE w.heap.size 28 #[.int .i64 Wn, .int .i64 Hn, .slice a n c]]) (fun i _ => n' - (intOf i).toNat)
  case atStart =>
    refine ⟨0, Nat.zero_le _, rfl, ?_⟩
    apply Mem.pick (is := [4, 2, 1, 3, 5, 6])
    · (repeat' (first | with_reducible exact hM | with_reducible exact hMp | with_reducible apply Mem.drew | with_reducible apply Mem.drewN | with_reducible apply Mem.alloc | with_reducible apply Mem.set | with_reducible exact Sto.row | ((with_reducible refine Sto.rowEq2 ?_ ?_); omega; rfl) | ((with_reducible refine Sto.rowEq ?_); omega) | with_reducible apply Sto.int | with_reducible apply Sto.there | with_reducible assumption | (unfold I64; omega) | (with_reducible (have hMx := Mem.undrew hM; exact hMx)) | (with_reducible (have hMx := Mem.undrew hMp; exact hMx))))
    · decide
    · rfl
  case round =>
    clear hM
    obtain ⟨k, hk, rfl, hM⟩ := hrel
    by_cases hlt : k < n'
    · obtain ⟨b, off, rfl, hbb, hcell⟩ := (h'.ext hM.below).at' _ hlt
      have hck := hcell k hlt
      clear hcell hbb
      have hkc : k < cells.length := by rw [HL'.out]; exact hlt
      obtain ⟨m, hm, hmn⟩ := HAF.out k hkc
      have HST := Lib.hid (fireTo_succ (xs := xs) (acc := List.replicate n 0) hkc)
      clear hkc
      rw [hm] at hck
      have HM := Lib.hid hm; clear hm
      obtain ⟨bx, offx, rfl, hbx, hcx⟩ := (h.ext hM.below).at' _ hmn
      clear hcx hbx
      obtain ⟨x, hx⟩ : ∃ x, xs.getD m 0 = x := ⟨_, rfl⟩
      have HX := Lib.hid hx; clear hx
      have i0 : (0 : Int) ≤ (k : Int) := by omega
      have i1 : (k : Int) < (n' : Int) := by omega
      have m0 : (0 : Int) ≤ (m : Int) := by omega
      have m1 : (m : Int) < (n : Int) := by omega
      go_wp2
      refine AtT.startA hM hM 15 (by kernel_rfl) ?_
      clear hM
      intro wd hM
      have hS := hM
      refine AtT.taked (i := 0) (v := ?_) (some 31) rfl rfl (by kernel_rfl) (by kernel_rfl) (by kernel_rfl) (by kernel_rfl) (fun _ _ _ h => h) (Or.inl ⟨by kernel_rfl, ?_⟩) hS ?_
      rotate_left
      · (intro wS hSw; (try dsimp only at hSw); go_simp; (try rw [if_neg (by omega)]); try with_reducible rfl)
      simp only [Act.put, List.setIfInBounds_toArray, List.set_cons_zero, List.set_cons_succ]
      refine AtT.taked (i := 1) (v := ?_) (some 32) rfl rfl (by kernel_rfl) (by kernel_rfl) (by kernel_rfl) (by kernel_rfl) (fun _ _ _ h => h) (Or.inl ⟨by kernel_rfl, ?_⟩) hS ?_
      rotate_left
      · (intro wS hSw; (try dsimp only at hSw); have kr0 := (Mem.row hSw .here).cell; have kr1 := (Mem.row hSw (.there (.there (.there (.there (.there .here)))))).cell; have hcm := (h.ext hSw.below).get hmn; rw [HX.out] at hcm; have hck2 := (h'.ext hSw.below).get hlt; rw [HM.out] at hck2; go_simp; (try rw [if_neg (by omega)]); try with_reducible rfl)
      simp only [Act.put, List.setIfInBounds_toArray, List.set_cons_zero, List.set_cons_succ]
      refine AtT.taked (i := 2) (v := ?_) (some 33) rfl rfl (by kernel_rfl) (by kernel_rfl) (by kernel_rfl) (by kernel_rfl) (fun _ _ _ h => h) (Or.inl ⟨by kernel_rfl, ?_⟩) hS ?_
      rotate_left
      · (intro wS hSw; (try dsimp only at hSw); go_simp; (try rw [if_neg (by omega)]); try with_reducible rfl)
      simp only [Act.put, List.setIfInBounds_toArray, List.set_cons_zero, List.set_cons_succ]
      refine AtT.taked (i := 3) (v := ?_) (some 34) rfl rfl (by kernel_rfl) (by kernel_rfl) (by kernel_rfl) (by kernel_rfl) (fun _ _ _ h => h) (Or.inl ⟨by kernel_rfl, ?_⟩) hS ?_
      rotate_left
      · (intro wS hSw; (try dsimp only at hSw); go_simp; (try rw [if_neg (by omega)]); try with_reducible rfl)
      simp only [Act.put, List.setIfInBounds_toArray, List.set_cons_zero, List.set_cons_succ]
      refine AtT.taked (i := 4) (v := ?_) (some 35) rfl rfl (by kernel_rfl) (by kernel_rfl) (by kernel_rfl) (by kernel_rfl) (fun _ _ _ h => h) (Or.inl ⟨by kernel_rfl, ?_⟩) hS ?_
      rotate_left
      · (intro wS hSw; (try dsimp only at hSw); have kr0 := (Mem.row hSw .here).cell; have kr1 := (Mem.row hSw (.there (.there (.there (.there (.there .here)))))).cell; have hcm := (h.ext hSw.below).get hmn; rw [HX.out] at hcm; have hck2 := (h'.ext hSw.below).get hlt; rw [HM.out] at hck2; go_simp; (try rw [if_neg (by omega)]); try with_reducible rfl)
      simp only [Act.put, List.setIfInBounds_toArray, List.set_cons_zero, List.set_cons_succ]
      refine AtT.taked (i := 5) (v := ?_) (some 36) rfl rfl (by kernel_rfl) (by kernel_rfl) (by kernel_rfl) (by kernel_rfl) (fun _ _ _ h => h) (Or.inl ⟨by kernel_rfl, ?_⟩) hS ?_
      rotate_left
      · (intro wS hSw; (try dsimp only at hSw); have kr0 := (Mem.row hSw .here).cell; have kr1 := (Mem.row hSw (.there (.there (.there (.there (.there .here)))))).cell; have hcm := (h.ext hSw.below).get hmn; rw [HX.out] at hcm; have hck2 := (h'.ext hSw.below).get hlt; rw [HM.out] at hck2; go_simp; (try rw [if_neg (by omega)]); try with_reducible rfl)
      simp only [Act.put, List.setIfInBounds_toArray, List.set_cons_zero, List.set_cons_succ]
      refine AtT.taked (i := 6) (v := ?_) (some 37) rfl rfl (by kernel_rfl) (by kernel_rfl) (by kernel_rfl) (by kernel_rfl) (fun _ _ _ h => h) (Or.inl ⟨by kernel_rfl, ?_⟩) hS ?_
      rotate_left
      · (intro wS hSw; (try dsimp only at hSw); go_simp; (try rw [if_neg (by omega)]); try with_reducible rfl)
      simp only [Act.put, List.setIfInBounds_toArray, List.set_cons_zero, List.set_cons_succ]
      refine AtT.taked (i := 7) (v := ?_) (some 38) rfl rfl (by kernel_rfl) (by kernel_rfl) (by kernel_rfl) (by kernel_rfl) (fun _ _ _ h => h) (Or.inl ⟨by kernel_rfl, ?_⟩) hS ?_
      rotate_left
      · (intro wS hSw; (try dsimp only at hSw); have kr0 := (Mem.row hSw .here).cell; have kr1 := (Mem.row hSw (.there (.there (.there (.there (.there .here)))))).cell; have hcm := (h.ext hSw.below).get hmn; rw [HX.out] at hcm; have hck2 := (h'.ext hSw.below).get hlt; rw [HM.out] at hck2; go_simp; (try rw [if_neg (by omega)]); try with_reducible rfl)
      simp only [Act.put, List.setIfInBounds_toArray, List.set_cons_zero, List.set_cons_succ]
      refine AtT.taked (i := 8) (v := ?_) (some 39) rfl rfl (by kernel_rfl) (by kernel_rfl) (by kernel_rfl) (by kernel_rfl) (fun _ _ _ h => h) (Or.inl ⟨by kernel_rfl, ?_⟩) hS ?_
      rotate_left
      · (intro wS hSw; (try dsimp only at hSw); go_simp; (try rw [if_neg (by omega)]); try with_reducible rfl)
      simp only [Act.put, List.setIfInBounds_toArray, List.set_cons_zero, List.set_cons_succ]
      refine AtT.taked (i := 9) (v := ?_) (some 40) rfl rfl (by kernel_rfl) (by kernel_rfl) (by kernel_rfl) (by kernel_rfl) (fun _ _ _ h => h) (Or.inl ⟨by kernel_rfl, ?_⟩) hS ?_
      rotate_left
      · (intro wS hSw; (try dsimp only at hSw); go_simp; (try rw [if_neg (by omega)]); try with_reducible rfl)
      simp only [Act.put, List.setIfInBounds_toArray, List.set_cons_zero, List.set_cons_succ]
      refine AtT.taked (i := 10) (v := ?_) (some 41) rfl rfl (by kernel_rfl) (by kernel_rfl) (by kernel_rfl) (by kernel_rfl) (fun _ _ _ h => h) (Or.inl ⟨by kernel_rfl, ?_⟩) hS ?_
      rotate_left
      · (intro wS hSw; (try dsimp only at hSw); have kr0 := (Mem.row hSw .here).cell; have kr1 := (Mem.row hSw (.there (.there (.there (.there (.there .here)))))).cell; have hcm := (h.ext hSw.below).get hmn; rw [HX.out] at hcm; have hck2 := (h'.ext hSw.below).get hlt; rw [HM.out] at hck2; go_simp; (try rw [if_neg (by omega)]); try with_reducible rfl)
      simp only [Act.put, List.setIfInBounds_toArray, List.set_cons_zero, List.set_cons_succ]
      refine AtT.taked (i := 11) (v := ?_) (some 42) rfl rfl (by kernel_rfl) (by kernel_rfl) (by kernel_rfl) (by kernel_rfl) (fun _ _ _ h => h) (Or.inl ⟨by kernel_rfl, ?_⟩) hS ?_
      rotate_left
      · (intro wS hSw; (try dsimp only at hSw); have kr0 := (Mem.row hSw .here).cell; have kr1 := (Mem.row hSw (.there (.there (.there (.there (.there .here)))))).cell; have hcm := (h.ext hSw.below).get hmn; rw [HX.out] at hcm; have hck2 := (h'.ext hSw.below).get hlt; rw [HM.out] at hck2; go_simp; (try rw [if_neg (by omega)]); try with_reducible rfl)
      simp only [Act.put, List.setIfInBounds_toArray, List.set_cons_zero, List.set_cons_succ]
      refine AtT.taked (i := 12) (v := ?_) (some 43) rfl rfl (by kernel_rfl) (by kernel_rfl) (by kernel_rfl) (by kernel_rfl) (fun _ _ _ h => h) (Or.inl ⟨by kernel_rfl, ?_⟩) hS ?_
      rotate_left
      · (intro wS hSw; (try dsimp only at hSw); have kr0 := (Mem.row hSw .here).cell; have kr1 := (Mem.row hSw (.there (.there (.there (.there (.there .here)))))).cell; have hcm := (h.ext hSw.below).get hmn; rw [HX.out] at hcm; have hck2 := (h'.ext hSw.below).get hlt; rw [HM.out] at hck2; go_simp; (try rw [if_neg (by omega)]); try with_reducible rfl)
      simp only [Act.put, List.setIfInBounds_toArray, List.set_cons_zero, List.set_cons_succ]
      refine AtT.taked (i := 13) (v := ?_) (some 44) rfl rfl (by kernel_rfl) (by kernel_rfl) (by kernel_rfl) (by kernel_rfl) (fun _ _ _ h => h) (Or.inl ⟨by kernel_rfl, ?_⟩) hS ?_
      rotate_left
      · (intro wS hSw; (try dsimp only at hSw); have kr0 := (Mem.row hSw .here).cell; have kr1 := (Mem.row hSw (.there (.there (.there (.there (.there .here)))))).cell; have hcm := (h.ext hSw.below).get hmn; rw [HX.out] at hcm; have hck2 := (h'.ext hSw.below).get hlt; rw [HM.out] at hck2; go_simp; (try rw [if_neg (by omega)]); try with_reducible rfl)
      simp only [Act.put, List.setIfInBounds_toArray, List.set_cons_zero, List.set_cons_succ]
      refine AtT.taked (i := 14) (v := ?_) (some 45) rfl rfl (by kernel_rfl) (by kernel_rfl) (by kernel_rfl) (by kernel_rfl) (fun _ _ _ h => h) (Or.inl ⟨by kernel_rfl, ?_⟩) hS ?_
      rotate_left
      · (intro wS hSw; (try dsimp only at hSw); have kr0 := (Mem.row hSw .here).cell; have kr1 := (Mem.row hSw (.there (.there (.there (.there (.there .here)))))).cell; have hcm := (h.ext hSw.below).get hmn; rw [HX.out] at hcm; have hck2 := (h'.ext hSw.below).get hlt; rw [HM.out] at hck2; go_simp; (try rw [if_neg (by omega)]); try with_reducible rfl)
      simp only [Act.put, List.setIfInBounds_toArray, List.set_cons_zero, List.set_cons_succ]
      refine AtT.last (by kernel_rfl) rfl (by kernel_rfl) ?_
      intro K hK
      clear hS
      have kk0 := (hM.row .here).cell
      have ff0 := (hM.row .here).free
      have ll0 := (hM.row .here).lt
      have kk5 := (hM.row (.there (.there (.there (.there (.there .here)))))).cell
      have ff5 := (hM.row (.there (.there (.there (.there (.there .here)))))).free
      have ll5 := (hM.row (.there (.there (.there (.there (.there .here)))))).lt
      have hfk := (hM.ints (.there .here)).freeAt m
      have hdk := (hM.ints (.there .here)).cellAt hmn
      go_simp
      clear kk0 ff0 ll0 kk5 ff5 ll5
      refine hK.out _ _ ?_
      clear hK K
      go_wp2
      go_roundw
      case rel =>
        refine ⟨k + 1, by omega, by go_num, ?_⟩
        have e1 := HST.out
        rw [HM.out, Int.toNat_natCast, HX.out] at e1
        rw [e1]
        have hxi : I64 x := by rw [← HX.out]; exact h.wf _ (getD_mem (by rw [HL.out]; exact hmn))
        (repeat' (first | with_reducible exact hM | with_reducible exact hMp | with_reducible apply Mem.drew | with_reducible apply Mem.drewN | with_reducible apply Mem.alloc | with_reducible apply Mem.set | with_reducible exact Sto.row | ((with_reducible refine Sto.rowEq2 ?_ ?_); omega; rfl) | ((with_reducible refine Sto.rowEq ?_); omega) | with_reducible apply Sto.int | with_reducible apply Sto.there | with_reducible assumption | (unfold I64; omega) | (with_reducible (have hMx := Mem.undrew hM; exact hMx)) | (with_reducible (have hMx := Mem.undrew hMp; exact hMx))))
      case measure => simp [intOf]; omega
    · obtain rfl : k = n' := by omega
      rw [List.take_of_length_le (by rw [HL'.out]; exact Nat.le_refl _)] at hM
      obtain ⟨k0, f0, l0⟩ := hM.row .here
      obtain ⟨k4, f4, l4⟩ := hM.row (.there (.there (.there (.there .here))))
      go_wp2
      rw [HF.out]
      refine bodyPost_ret (v := .tuple #[.agg #[.int .i64 Wn, .int .i64 Hn, .slice a2 n c2, .slice (some ⟨g, 0, none⟩) n c3, .slice a4 n c4, .int .i64 0], .bool true]) (by simp [results, Try.results21, go_sem, k4]) rfl ⟨a2, n, c2, some ⟨g, 0, none⟩, n, c3, a4, n, c4, rfl, ?_⟩
      dsimp only
      have e0 : fireTo xs cells (List.replicate n 0) = fireL xs cells := by unfold fireL; rw [HL.out]
      rw [e0] at hM
      apply Mem.pick (is := [2, 1, 3])
      · (repeat' (first | with_reducible exact hM | with_reducible exact hMp | with_reducible apply Mem.drew | with_reducible apply Mem.drewN | with_reducible apply Mem.alloc | with_reducible apply Mem.set | with_reducible exact Sto.row | ((with_reducible refine Sto.rowEq2 ?_ ?_); omega; rfl) | ((with_reducible refine Sto.rowEq ?_); omega) | with_reducible apply Sto.int | with_reducible apply Sto.there | with_reducible assumption | (unfold I64; omega) | (with_reducible (have hMx := Mem.undrew hM; exact hMx)) | (with_reducible (have hMx := Mem.undrew hMp; exact hMx))))
      · decide
      · rfl
end Go.Proofs.Ytojfbcgfeojdfaa
