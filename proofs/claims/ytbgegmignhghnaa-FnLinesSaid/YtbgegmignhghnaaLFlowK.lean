/-
  The program's BestLine: the search over sets.
-/
import Derived.Test.YtbgegmignhghnaaLFlowX
import Derived.Test.YtbgegmignhghnaaLAppF
import Derived.Test.YtbgegmignhghnaaLSaved
/-
  The program's BestLine: the search over sets.
-/
namespace Go.Proofs.Ytbgegmignhghnaa
set_option linter.unusedSimpArgs false
set_option linter.unusedVariables false
open Go.RowKit

/-- the first set in order, out of a list, that answers -/
def extI (P : List Int → Bool) : Nat → List Int → List Int → Option (List Int)
  | 0, b, _ => if P b then some b else none
  | _ + 1, _, [] => none
  | k + 1, b, x :: l => match extI P k (b ++ [x]) l with
    | some r => some r
    | none => extI P (k + 1) b l
theorem extI_congr {P Q : List Int → Bool} : ∀ (l : List Int) (k : Nat) (b : List Int), (∀ b', b'.Sublist (b ++ l) → P b' = Q b') → extI P k b l = extI Q k b l
  | l, 0, b, h => by simp only [extI]; rw [h b (List.sublist_append_left _ _)]
  | [], k + 1, b, _ => rfl
  | x :: l, k + 1, b, h => by
    simp only [extI]
    rw [extI_congr l k (b ++ [x]) (fun b' hb => h b' (by rw [List.append_assoc] at hb; exact hb)), extI_congr l (k + 1) b (fun b' hb => h b' (hb.trans (List.Sublist.append_left (List.sublist_cons_self _ _) _)))]
def freeL (n : Nat) (xs ss ts : List Int) (f : Nat) : List Nat := (List.range n).filter fun (x : Nat) => decide (f ≤ x) && freeN xs ss ts x
theorem freeL_cons {n : Nat} {xs ss ts : List Int} {f y : Nat} {ys : List Nat} (h : freeL n xs ss ts f = y :: ys) : freeL n xs ss ts (y + 1) = ys := by
  unfold freeL at h ⊢
  obtain ⟨l1, l2, e, h1, h2, h3⟩ := List.filter_eq_cons_iff.1 h
  have hp := List.pairwise_lt_range (n := n)
  rw [e] at hp ⊢
  obtain ⟨p1, p2, p3⟩ := List.pairwise_append.1 hp
  obtain ⟨p4, p5⟩ := List.pairwise_cons.1 p2
  have hfy : f ≤ y := by simp at h2; exact h2.1
  rw [List.filter_append]
  have e1 : l1.filter (fun (x : Nat) => decide (y + 1 ≤ x) && freeN xs ss ts x) = [] := by
    rw [List.filter_eq_nil_iff]
    intro x hx
    have := p3 x hx y (by simp)
    simp; omega
  rw [e1, List.nil_append, List.filter_cons, if_neg (by rw [decide_eq_false (by omega : ¬ y + 1 ≤ y)]; simp), ← h3]
  refine List.filter_congr (fun x hx => ?_)
  have := p4 x hx
  rw [show decide (y + 1 ≤ x) = true by simp; omega, show decide (f ≤ x) = true by simp; omega]
theorem extI_extL {W n : Nat} {xs ss ts : List Int} : ∀ (k : Nat) (b : List Int) (f : Nat), extI (lineB W n xs ss ts) k b ((freeL n xs ss ts f).map Int.ofNat) = extL W n xs ss ts k b f
  | 0, b, f => by rw [extI, extL]
  | k + 1, b, f => by
    have key : ∀ (L : List Nat) (f : Nat), freeL n xs ss ts f = L → extI (lineB W n xs ss ts) (k + 1) b (L.map Int.ofNat) = L.findSome? fun (x : Nat) => extL W n xs ss ts k (b ++ [(x : Int)]) (x + 1) := by
      intro L
      induction L with
      | nil => intro f _; rfl
      | cons y ys ih =>
        intro f hf
        have h1 := freeL_cons hf
        have h2 := extI_extL (W := W) (n := n) (xs := xs) (ss := ss) (ts := ts) k (b ++ [(y : Int)]) (y + 1)
        rw [h1] at h2
        rw [List.map_cons, List.findSome?_cons, ← h2, show Int.ofNat y = (y : Int) from rfl]
        simp only [extI]
        rw [ih (y + 1) h1]
        cases extI (lineB W n xs ss ts) k (b ++ [(y : Int)]) (ys.map Int.ofNat) <;> rfl
    exact key _ f rfl
theorem freeL_zero {n : Nat} {xs ss ts : List Int} : (freeL n xs ss ts 0).map Int.ofNat = cellsN n (freeN xs ss ts) := by
  unfold freeL cellsN
  rw [List.filter_congr (fun x _ => by simp : ∀ x ∈ List.range n, (decide (0 ≤ x) && freeN xs ss ts x) = freeN xs ss ts x)]
theorem setB_sub {n : Nat} {l l' : List Int} (h : setB n l = true) (hs : l'.Sublist l) : setB n l' = true := by
  obtain ⟨h1, h2⟩ := setB_iff.1 h
  exact setB_iff.2 ⟨h1.sublist hs, fun x hx => h2 x (hs.subset hx)⟩
/-- among the sets of free cells it is enough to see whether one holds -/
theorem extI_free {W n : Nat} {xs ss ts : List Int} (k : Nat) : extI (holdB W n xs ss ts) k [] (cellsN n (freeN xs ss ts)) = extL W n xs ss ts k [] 0 := by
  rw [← extI_extL, freeL_zero]
  refine extI_congr _ k [] (fun b hb => ?_)
  rw [List.nil_append] at hb
  unfold lineB
  rw [show b.all (fun c => hasI (cellsN n (freeN xs ss ts)) c) = true from List.all_eq_true.2 (fun x hx => hasI_iff.2 (hb.subset hx)), Bool.true_and]
theorem extI_drop {P : List Int → Bool} {k : Nat} {b l : List Int} {j : Nat} (hj : j < l.length) : extI P (k + 1) b (l.drop j) = match extI P k (b ++ [l.getD j 0]) (l.drop (j + 1)) with
    | some r => some r
    | none => extI P (k + 1) b (l.drop (j + 1)) := by
  have e : l.drop j = l.getD j 0 :: l.drop (j + 1) := by
    rw [List.drop_eq_getElem_cons hj]
    simp [List.getD, hj]
  rw [e]
  rfl
theorem Mem.packIn {B : Nat} {w0 w : World} {R : List Ent} {e s b q1 q2 q3 q4 q5 q6 q7 q8 : Ent} (h : Mem B w0 w [e, s, b, q1, q2, q3, q4, q5, q6, q7, q8, packE R]) : Mem B w0 w [b, q1, q2, q3, q4, q5, q6, q7, q8, packE (e :: R)] := by
  have h1 : Mem B w0 w [b, q1, q2, q3, q4, q5, q6, q7, q8, e, packE R] := h.pick (is := [2, 3, 4, 5, 6, 7, 8, 9, 10, 0, 11]) (by decide) rfl
  exact Mem.packAt (G := e :: R) (Y := []) [_, _, _, _, _, _, _, _, _] (Mem.unpackAt [_, _, _, _, _, _, _, _, _, _] (Y := []) h1)
set_option maxRecDepth 100000 in
set_option maxHeartbeats 4000000 in
theorem best1_any (W Hn : Nat) (a : Option Addr) (n c : Nat) (xs : List Int) (a1 : Option Addr) (n1 c1 : Nat) (ss : List Int) (a2 : Option Addr) (n2 c2 : Nat) (ts : List Int) (am : Option Addr) (nm cm : Nat) (may : List Int) (qb qs qy ql qe qt qss qas size : Nat) {w0 : World} (h : Ints w0 a n c xs) (h1 : Ints w0 a1 n1 c1 ss) (h2 : Ints w0 a2 n2 c2 ts) (hnp : 0 < n) (hn25 : n ≤ 25) (hW : 1 ≤ W ∧ W ≤ 5) (hs : setB n ss = true) (R : List Ent) (bb : Value) (sa : Option Addr) (sn sc : Nat) (begun : List Int) (w : World) (hset : setB n begun = true)
    (hM : Mem w0.heap.size w0 w [intE sa sn sc begun, rowE qb 24 #[bb], rowE qs 3 #[.int .i64 (size : Nat)], rowE qy 56 #[.func (.func 35) #[] #[.pointer (some ⟨qt, 0, none⟩), .pointer (some ⟨qss, 0, none⟩), .pointer (some ⟨qas, 0, none⟩), .pointer (some ⟨qb, 0, none⟩)]], rowE ql 24 #[.slice am nm cm], rowE qe 74 #[.func (.func 72) #[] #[.pointer (some ⟨qs, 0, none⟩), .pointer (some ⟨qy, 0, none⟩), .pointer (some ⟨ql, 0, none⟩), .pointer (some ⟨qe, 0, none⟩)]], intE am nm cm may, rowE qt 26 #[.int .i64 W, .int .i64 Hn, .slice a n c], rowE qss 24 #[.slice a1 n1 c1], rowE qas 24 #[.slice a2 n2 c2], packE R]) :
    Calls Try.prog 35 #[.slice sa sn sc, .pointer (some ⟨qt, 0, none⟩), .pointer (some ⟨qss, 0, none⟩), .pointer (some ⟨qas, 0, none⟩), .pointer (some ⟨qb, 0, none⟩)] w fun e w' =>
      (holdB W n xs ss ts begun = false ∧ e = .returned (.bool true) ∧ Mem w0.heap.size w0 w' [rowE qb 24 #[bb], rowE qs 3 #[.int .i64 (size : Nat)], rowE qy 56 #[.func (.func 35) #[] #[.pointer (some ⟨qt, 0, none⟩), .pointer (some ⟨qss, 0, none⟩), .pointer (some ⟨qas, 0, none⟩), .pointer (some ⟨qb, 0, none⟩)]], rowE ql 24 #[.slice am nm cm], rowE qe 74 #[.func (.func 72) #[] #[.pointer (some ⟨qs, 0, none⟩), .pointer (some ⟨qy, 0, none⟩), .pointer (some ⟨ql, 0, none⟩), .pointer (some ⟨qe, 0, none⟩)]], intE am nm cm may, rowE qt 26 #[.int .i64 W, .int .i64 Hn, .slice a n c], rowE qss 24 #[.slice a1 n1 c1], rowE qas 24 #[.slice a2 n2 c2], packE R]) ∨
      (holdB W n xs ss ts begun = true ∧ e = .returned (.bool false) ∧ ∃ a' m c', Mem w0.heap.size w0 w' [rowE qb 24 #[.slice a' m c'], rowE qs 3 #[.int .i64 (size : Nat)], rowE qy 56 #[.func (.func 35) #[] #[.pointer (some ⟨qt, 0, none⟩), .pointer (some ⟨qss, 0, none⟩), .pointer (some ⟨qas, 0, none⟩), .pointer (some ⟨qb, 0, none⟩)]], rowE ql 24 #[.slice am nm cm], rowE qe 74 #[.func (.func 72) #[] #[.pointer (some ⟨qs, 0, none⟩), .pointer (some ⟨qy, 0, none⟩), .pointer (some ⟨ql, 0, none⟩), .pointer (some ⟨qe, 0, none⟩)]], intE am nm cm may, rowE qt 26 #[.int .i64 W, .int .i64 Hn, .slice a n c], rowE qss 24 #[.slice a1 n1 c1], rowE qas 24 #[.slice a2 n2 c2], packE (intE a' m c' begun :: R)]) := by
  obtain ⟨q, hq⟩ : ∃ q, holdB W n xs ss ts begun = q := ⟨_, rfl⟩
  have HQ := Lib.hid hq; have HS := Lib.hid hs; have HSET := Lib.hid hset
  clear hq hs hset
  go_enter Try.func35, Try.ntmps35
  obtain ⟨k7, f7, l7⟩ := hM.row (.there (.there (.there (.there (.there (.there (.there .here)))))))
  obtain ⟨k8, f8, l8⟩ := hM.row (.there (.there (.there (.there (.there (.there (.there (.there .here))))))))
  obtain ⟨k9, f9, l9⟩ := hM.row (.there (.there (.there (.there (.there (.there (.there (.there (.there .here)))))))))
  go_wp2_with fail
  clear k7 f7 l7 k8 f8 l8 k9 f9 l9
  apply Mem.atA
  · (repeat' (first | with_reducible exact hM | with_reducible exact hMp | with_reducible apply Mem.drew | with_reducible apply Mem.drewN | with_reducible apply Mem.alloc | with_reducible apply Mem.set | with_reducible exact Sto.row | ((with_reducible refine Sto.rowEq2 ?_ ?_); omega; rfl) | ((with_reducible refine Sto.rowEq ?_); omega) | with_reducible apply Sto.int | with_reducible apply Sto.there | with_reducible assumption | (unfold I64; omega) | (with_reducible (have hMx := Mem.undrew hM; exact hMx)) | (with_reducible (have hMx := Mem.undrew hMp; exact hMx))))
  clear hM
  intro wst hM
  (try simp only [World.size_alloc, World.size_setCell, World.heap_drewN, heapDrew, Nat.add_assoc, Nat.reduceAdd, List.setIfInBounds_toArray, List.set_cons_zero, List.set_cons_succ, List.cons_append, List.nil_append] at hM)
  refine (holds_any W Hn a n c xs a1 n1 c1 ss a2 n2 c2 ts sa sn sc begun _ (h.ext hM.below) (h1.ext hM.below) (h2.ext hM.below) (hM.intsR .here) hnp hn25 hW HS.out HSET.out).mono ?_
  rw [HQ.out]
  rintro e w3 ⟨rfl, hb⟩
  replace hM := hM.ext hb
  clear hb
  cases q
  · go_wp2
    go_ret
    exact .inl ⟨HQ.out, rfl, hM.tail⟩
  · skip
    go_wp2_with fail
    apply Mem.atA
    · (repeat' (first | with_reducible exact hM | with_reducible exact hMp | with_reducible apply Mem.drew | with_reducible apply Mem.drewN | with_reducible apply Mem.alloc | with_reducible apply Mem.set | with_reducible exact Sto.row | ((with_reducible refine Sto.rowEq2 ?_ ?_); omega; rfl) | ((with_reducible refine Sto.rowEq ?_); omega) | with_reducible apply Sto.int | with_reducible apply Sto.there | with_reducible assumption | (unfold I64; omega) | (with_reducible (have hMx := Mem.undrew hM; exact hMx)) | (with_reducible (have hMx := Mem.undrew hMp; exact hMx))))
    clear hM
    intro wst hM
    (try simp only [World.size_alloc, World.size_setCell, World.heap_drewN, heapDrew, Nat.add_assoc, Nat.reduceAdd, List.setIfInBounds_toArray, List.set_cons_zero, List.set_cons_succ, List.cons_append, List.nil_append] at hM)
    refine (copyOf_any sa sn sc begun _ (hM.intsR .here)).mono ?_
    rintro e w4 ⟨a4, c4, rfl, hO, hb⟩
    replace hM := hM.own hb hO
    clear hb hO
    obtain ⟨k2, f2, l2⟩ := hM.row (.there (.there .here))
    go_wp2
    go_ret
    refine .inr ⟨HQ.out, rfl, a4, sn, c4, ?_⟩
    apply Mem.packIn
    (repeat' (first | with_reducible exact hM | with_reducible exact hMp | with_reducible apply Mem.drew | with_reducible apply Mem.drewN | with_reducible apply Mem.alloc | with_reducible apply Mem.set | with_reducible exact Sto.row | ((with_reducible refine Sto.rowEq2 ?_ ?_); omega; rfl) | ((with_reducible refine Sto.rowEq ?_); omega) | with_reducible apply Sto.int | with_reducible apply Sto.there | with_reducible assumption | (unfold I64; omega) | (with_reducible (have hMx := Mem.undrew hM; exact hMx)) | (with_reducible (have hMx := Mem.undrew hMp; exact hMx))))
theorem Ints.fit {w : World} {a : Option Addr} {n c : Nat} {xs : List Int} (h : Ints w a n c xs) : Ints w a n n xs :=
  ⟨h.len, Nat.le_refl _, by have := h.room; unfold maxLen; omega, fun e => by have := h.nil e; have := h.cap; omega, h.room, h.wf, h.at'⟩
def ExtR (bb bb' : Value) (X : List Ent) : Option (List Int) → Prop
  | none => bb' = bb ∧ X = []
  | some line => ∃ a' m c', bb' = .slice a' m c' ∧ X = [intE a' m c' line]
def ExtP (B : Nat) (w0 : World) (G0 : Value → List Ent → List Ent) (bb : Value) (R : List Ent) (r : Option (List Int)) (e : Ending) (w' : World) : Prop :=
  ∃ bb' X, e = .returned (.bool r.isNone) ∧ ExtR bb bb' X r ∧ Mem B w0 w' (G0 bb' (X ++ R))
section
variable {B : Nat} {w0 w : World} {R : List Ent} {e s b q1 q2 q3 q4 q5 q6 q7 q8 : Ent}
theorem Mem.packOut (h : Mem B w0 w [b, q1, q2, q3, q4, q5, q6, q7, q8, packE (s :: R)]) : Mem B w0 w [s, b, q1, q2, q3, q4, q5, q6, q7, q8, packE R] := by
  have h1 : Mem B w0 w ([b, q1, q2, q3, q4, q5, q6, q7, q8] ++ ((s :: R) ++ [])) := Mem.unpackAt [b, q1, q2, q3, q4, q5, q6, q7, q8] h
  have h2 : Mem B w0 w [b, q1, q2, q3, q4, q5, q6, q7, q8, s, packE R] := Mem.packAt (G := R) (Y := []) [_, _, _, _, _, _, _, _, _, _] h1
  exact h2.pick (is := [9, 0, 1, 2, 3, 4, 5, 6, 7, 8, 10]) (by decide) rfl
theorem Mem.packDrop {X : List Ent} (h : Mem B w0 w [b, q1, q2, q3, q4, q5, q6, q7, q8, packE (X ++ s :: R)]) : Mem B w0 w [b, q1, q2, q3, q4, q5, q6, q7, q8, packE (X ++ R)] := by
  have h1 : Mem B w0 w ([b, q1, q2, q3, q4, q5, q6, q7, q8] ++ ((X ++ s :: R) ++ [])) := Mem.unpackAt [b, q1, q2, q3, q4, q5, q6, q7, q8] h
  refine Mem.packAt (G := X ++ R) (Y := []) [b, q1, q2, q3, q4, q5, q6, q7, q8] (h1.sub ?_)
  refine List.Sublist.append_left (List.Sublist.append_right ?_ _) _
  exact List.Sublist.append_left (List.sublist_cons_self _ _) _
theorem Mem.packSet (h : Mem B w0 w [e, b, q1, q2, q3, q4, q5, q6, q7, q8, s, packE R]) : Mem B w0 w [e, b, q1, q2, q3, q4, q5, q6, q7, q8, packE (s :: R)] :=
  Mem.packAt (G := s :: R) (Y := []) [_, _, _, _, _, _, _, _, _, _] (Mem.unpackAt [_, _, _, _, _, _, _, _, _, _, _] (Y := []) h)
theorem Mem.dummy3 (h : Mem B w0 w [b, q1, q2, q3, q4, q5, q6, q7, q8, packE R]) : Mem B w0 w [packE [], packE [], packE [], packE R, b, q1, q2, q3, q4, q5, q6, q7, q8] := by
  have h1 : Mem B w0 w [packE R, b, q1, q2, q3, q4, q5, q6, q7, q8] := h.pick (is := [9, 0, 1, 2, 3, 4, 5, 6, 7, 8]) (by decide) rfl
  exact Mem.packAt (G := []) [] (Mem.packAt (G := []) [] (Mem.packAt (G := []) [] h1))
end
end Go.Proofs.Ytbgegmignhghnaa
