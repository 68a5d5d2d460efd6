/-
  TrimLine.
-/
import Derived.Test.YtbgegmignhghnaaLSaved
/-
  TrimLine.
-/
namespace Go.Proofs.Ytbgegmignhghnaa
set_option linter.unusedSimpArgs false
set_option linter.unusedVariables false
open Go.RowKit

def neI (c x : Int) : Bool := x != c
noncomputable def trimS (W n : Nat) (xs ss ts : List Int) (out : List Int) (c : Int) : List Int := if lineB W n xs ss ts (out.filter (neI c)) then out.filter (neI c) else out
noncomputable def trimTo (W n : Nat) (xs ss ts line cs : List Int) : List Int := cs.foldl (trimS W n xs ss ts) line
theorem trimTo_succ {W n : Nat} {xs ss ts line : List Int} {k : Nat} (hk : k < line.length) : trimTo W n xs ss ts line (line.take (k + 1)) = trimS W n xs ss ts (trimTo W n xs ss ts line (line.take k)) (line.getD k 0) := by
  unfold trimTo
  rw [take_succ' hk, List.foldl_append]
  rfl
theorem setB_trim {W n : Nat} {xs ss ts line : List Int} (h : setB n line = true) (cs : List Int) : setB n (trimTo W n xs ss ts line cs) = true := by
  unfold trimTo
  induction cs generalizing line with
  | nil => exact h
  | cons c cs ih =>
    rw [List.foldl_cons]
    refine ih ?_
    unfold trimS
    split
    · exact setB_filter _ h
    · exact h

set_option maxRecDepth 100000 in
set_option maxHeartbeats 400000 in
theorem trim1_any (x y : Int) (b : Nat) (w : World) (hr : Row w b #[.int .i64 y]) :
    Calls Try.prog 80 #[.int .i64 x, .pointer (some ⟨b, 0, none⟩)] w fun e w' => e = .returned (.bool (neI y x)) ∧ Below w.heap.size w w' := by
  have k1 := hr.cell
  go_enter Try.func80, Try.ntmps80
  go_wp2
  go_ret
  exact ⟨rfl, Below.refl _ _⟩

set_option maxRecDepth 100000 in
set_option maxHeartbeats 2000000 in
theorem trim_any (W Hn : Nat) (a : Option Addr) (n c : Nat) (xs : List Int) (a1 : Option Addr) (n1 c1 : Nat) (ss : List Int) (a2 : Option Addr) (n2 c2 : Nat) (ts : List Int) (a3 : Option Addr) (n3 c3 : Nat) (line : List Int) (w : World) (h : Ints w a n c xs) (h1 : Ints w a1 n1 c1 ss) (h2 : Ints w a2 n2 c2 ts) (h3 : Ints w a3 n3 c3 line)
    (hnp : 0 < n) (hn25 : n ≤ 25) (hW : 1 ≤ W ∧ W ≤ 5) (hs : setB n ss = true) (hl : setB n line = true) (_hxs : ∀ x ∈ xs, 0 ≤ x) :
    Calls Try.prog 41 #[.agg #[.int .i64 W, .int .i64 Hn, .slice a n c], .slice a1 n1 c1, .slice a2 n2 c2, .slice a3 n3 c3] w fun e w' => ∃ a' m c', e = .returned (.slice a' m c') ∧ Mem w.heap.size w w' [intE a' m c' (trimTo W n xs ss ts line line)] := by
  have hM := Mem.start w
  have hmf : ∀ (fn : Fn) (first cap : Array Value) (w : World), (Instr.makeFunc fn first cap).run Try.prog w = .ok (.func fn first cap) w := fun _ _ _ _ => rfl
  have HL3 := Lib.hid h3.len
  have hrm := h3.room
  have HS := Lib.hid hs
  have HST := Lib.hid (fun cs => setB_trim (W := W) (xs := xs) (ss := ss) (ts := ts) hl cs)
  clear hs hl
  go_enter Try.func41, Try.ntmps41
  go_wp2_with fail
  apply Mem.at
  · (repeat' (first | with_reducible exact hM | with_reducible exact hMp | with_reducible apply Mem.drew | with_reducible apply Mem.drewN | with_reducible apply Mem.alloc | with_reducible apply Mem.set | with_reducible exact Sto.row | ((with_reducible refine Sto.rowEq2 ?_ ?_); omega; rfl) | ((with_reducible refine Sto.rowEq ?_); omega) | with_reducible apply Sto.int | with_reducible apply Sto.there | with_reducible assumption | (unfold I64; omega) | (with_reducible (have hMx := Mem.undrew hM; exact hMx)) | (with_reducible (have hMx := Mem.undrew hMp; exact hMx))))
  clear hM
  intro hM
  (try simp only [World.size_alloc, World.size_setCell, World.heap_drewN, heapDrew, Nat.add_assoc, Nat.reduceAdd, List.setIfInBounds_toArray, List.set_cons_zero, List.set_cons_succ, List.cons_append, List.nil_append] at hM)
  refine (copyOf_any a3 n3 c3 line _ (h3.ext hM.below)).mono ?_
  rintro e w1 ⟨a4, c4, rfl, hO, hb⟩
  replace hM := hM.own hb hO
  clear hb hO
  go_wp2_with fail
  go_loopw [9, 17] (fun s9 s17 wr => ∃ (k : Nat) (a' : Option Addr) (m c' : Nat), k ≤ n3 ∧ s17 = .int .i64 k ∧ s9 = .slice a' m c' ∧ Mem w.heap.size w wr [intE a' m c' (trimTo W n xs ss ts line (line.take k)), rowE w.heap.size 26 #[.int .i64 W, .int .i64 Hn, .slice a n c]]) (fun _ s17 _ => n3 - (intOf s17).toNat)
  case atStart => exact ⟨0, a4, n3, c4, Nat.zero_le _, rfl, rfl, hM⟩
  case round =>
    clear hM
    obtain ⟨k, a', m, c', hk, rfl, rfl, hM⟩ := hrel
    by_cases hlt : k < n3
    · obtain ⟨b, off, rfl, -, -⟩ := h3.at' _ hlt
      have hkl : k < line.length := by rw [HL3.out]; exact hlt
      have hck := (h3.ext hM.below).get hlt
      have hsu := trimTo_succ (W := W) (n := n) (xs := xs) (ss := ss) (ts := ts) hkl
      obtain ⟨x, hx⟩ : ∃ x, line.getD k 0 = x := ⟨_, rfl⟩
      have hxw := h3.wf _ (getD_mem hkl)
      rw [hx] at hck hsu hxw
      obtain ⟨os, hos⟩ : ∃ os, trimTo W n xs ss ts line (line.take k) = os := ⟨_, rfl⟩
      have hso := HST.out (line.take k)
      rw [hos] at hM hsu hso
      have HSO := Lib.hid (setB_filter (neI x) hso)
      have HSU := Lib.hid hsu
      have HXW := Lib.hid hxw
      clear hx hos hkl hso hsu hxw
      go_wp2_with fail
      apply Mem.at
      · (repeat' (first | with_reducible exact hM | with_reducible exact hMp | with_reducible apply Mem.drew | with_reducible apply Mem.drewN | with_reducible apply Mem.alloc | with_reducible apply Mem.set | with_reducible exact Sto.row | ((with_reducible refine Sto.rowEq2 ?_ ?_); omega; rfl) | ((with_reducible refine Sto.rowEq ?_); omega) | with_reducible apply Sto.int | with_reducible apply Sto.there | with_reducible assumption | (unfold I64; omega) | (with_reducible (have hMx := Mem.undrew hM; exact hMx)) | (with_reducible (have hMx := Mem.undrew hMp; exact hMx))))
      clear hM
      intro hM
      (try simp only [World.size_alloc, World.size_setCell, World.heap_drewN, heapDrew, Nat.add_assoc, Nat.reduceAdd, List.setIfInBounds_toArray, List.set_cons_zero, List.set_cons_succ, List.cons_append, List.nil_append] at hM)
      refine (filterI_any _ _ _ (neI x) _ _ _ os _ (hM.ints (.there .here)).ints (enters Try.func80 (by kernel_rfl) rfl) (fun y hy w' hb => by
        have hM' := hM.ext hb
        exact trim1_any y x _ w' (hM'.row .here))).mono ?_
      rintro e w2 ⟨a5, m5, c5, rfl, hm⟩
      replace hM := hM.join hm
      clear hm hck
      (try simp only [World.size_alloc, World.size_setCell, World.heap_drewN, heapDrew, Nat.add_assoc, Nat.reduceAdd, List.setIfInBounds_toArray, List.set_cons_zero, List.set_cons_succ, List.cons_append, List.nil_append] at hM)
      obtain ⟨k3, f3, l3⟩ := hM.row (.there (.there (.there .here)))
      go_wp2_with fail
      clear k3 f3 l3
      apply Mem.at
      · (repeat' (first | with_reducible exact hM | with_reducible exact hMp | with_reducible apply Mem.drew | with_reducible apply Mem.drewN | with_reducible apply Mem.alloc | with_reducible apply Mem.set | with_reducible exact Sto.row | ((with_reducible refine Sto.rowEq2 ?_ ?_); omega; rfl) | ((with_reducible refine Sto.rowEq ?_); omega) | with_reducible apply Sto.int | with_reducible apply Sto.there | with_reducible assumption | (unfold I64; omega) | (with_reducible (have hMx := Mem.undrew hM; exact hMx)) | (with_reducible (have hMx := Mem.undrew hMp; exact hMx))))
      clear hM
      intro hM
      (try simp only [World.size_alloc, World.size_setCell, World.heap_drewN, heapDrew, Nat.add_assoc, Nat.reduceAdd, List.setIfInBounds_toArray, List.set_cons_zero, List.set_cons_succ, List.cons_append, List.nil_append] at hM)
      refine (isLine_any W Hn a n c xs a1 n1 c1 ss a2 n2 c2 ts a5 m5 c5 _ _ (h.ext hM.below) (h1.ext hM.below) (h2.ext hM.below) (hM.ints .here).ints hnp hn25 hW HS.out HSO.out).mono ?_
      rintro e w3 ⟨rfl, hb⟩
      replace hM := hM.ext hb
      clear hb
      cases hlb : lineB W n xs ss ts (os.filter (neI x))
      · go_wp2
        go_roundw
        case rel =>
          refine ⟨k + 1, a', m, c', by omega, by go_num, rfl, ?_⟩
          rw [HSU.out, trimS, hlb]
          exact hM.pick (is := [2, 3]) (by decide) rfl
        case measure => simp [intOf]; omega
      · go_wp2
        go_roundw
        case rel =>
          refine ⟨k + 1, a5, m5, c5, by omega, by go_num, rfl, ?_⟩
          rw [HSU.out, trimS, hlb]
          exact hM.pick (is := [0, 3]) (by decide) rfl
        case measure => simp [intOf]; omega
    · obtain rfl : k = n3 := by omega
      rw [List.take_of_length_le (by rw [HL3.out]; exact Nat.le_refl _)] at hM
      go_wp2
      go_ret
      exact ⟨a', m, c', rfl, hM.first⟩

set_option maxRecDepth 100000 in
set_option maxHeartbeats 2000000 in
theorem l9Trim_any (W Hn : Nat) (a : Option Addr) (n c : Nat) (xs : List Int) (a1 : Option Addr) (n1 c1 : Nat) (ss : List Int) (a2 : Option Addr) (n2 c2 : Nat) (ts : List Int) (a3 : Option Addr) (n3 c3 : Nat) (line : List Int) (w : World) (h : Ints w a n c xs) (h1 : Ints w a1 n1 c1 ss) (h2 : Ints w a2 n2 c2 ts) (h3 : Ints w a3 n3 c3 line)
    (hnp : 0 < n) (hn25 : n ≤ 25) (hW : 1 ≤ W ∧ W ≤ 5) (hs : setB n ss = true) (hl : setB n line = true) (hxs : ∀ x ∈ xs, 0 ≤ x) :
    Calls Try.prog 51 #[.agg #[.int .i64 W, .int .i64 Hn, .slice a n c], .slice a1 n1 c1, .slice a2 n2 c2, .slice a3 n3 c3] w fun e w' => ∃ a' m c', e = .returned (.slice a' m c') ∧ Mem w.heap.size w w' [intE a' m c' (trimTo W n xs ss ts line line)] := by
  have hM := Mem.start w
  have HL3 := Lib.hid h3.len
  have hrm := h3.room
  have HXS := Lib.hid hxs
  have HS := Lib.hid hs
  have HST := Lib.hid (fun cs => setB_trim (W := W) (xs := xs) (ss := ss) (ts := ts) hl cs)
  clear hs hl hxs
  go_enter Try.func51, Try.ntmps51
  go_wp2_with fail
  apply Mem.at
  · (repeat' (first | with_reducible exact hM | with_reducible exact hMp | with_reducible apply Mem.drew | with_reducible apply Mem.drewN | with_reducible apply Mem.alloc | with_reducible apply Mem.set | with_reducible exact Sto.row | ((with_reducible refine Sto.rowEq2 ?_ ?_); omega; rfl) | ((with_reducible refine Sto.rowEq ?_); omega) | with_reducible apply Sto.int | with_reducible apply Sto.there | with_reducible assumption | (unfold I64; omega) | (with_reducible (have hMx := Mem.undrew hM; exact hMx)) | (with_reducible (have hMx := Mem.undrew hMp; exact hMx))))
  clear hM
  intro hM
  (try simp only [World.size_alloc, World.size_setCell, World.heap_drewN, heapDrew, Nat.add_assoc, Nat.reduceAdd, List.setIfInBounds_toArray, List.set_cons_zero, List.set_cons_succ, List.cons_append, List.nil_append] at hM)
  refine (l1Own_any a3 n3 c3 line _ (h3.ext hM.below)).mono ?_
  rintro e w1 ⟨a4, c4, rfl, hO, hb⟩
  replace hM := hM.own hb hO
  clear hb hO
  go_wp2_with fail
  go_loopw [9, 10] (fun s9 s17 wr => ∃ (k : Nat) (a' : Option Addr) (m c' : Nat), k ≤ n3 ∧ s17 = .int .i64 k ∧ s9 = .slice a' m c' ∧ Mem w.heap.size w wr [intE a' m c' (trimTo W n xs ss ts line (line.take k)), rowE w.heap.size 26 #[.int .i64 W, .int .i64 Hn, .slice a n c]]) (fun _ s17 _ => n3 - (intOf s17).toNat)
  case atStart => exact ⟨0, a4, n3, c4, Nat.zero_le _, rfl, rfl, hM⟩
  case round =>
    clear hM
    obtain ⟨k, a', m, c', hk, rfl, rfl, hM⟩ := hrel
    by_cases hlt : k < n3
    · obtain ⟨b, off, rfl, -, -⟩ := h3.at' _ hlt
      have hkl : k < line.length := by rw [HL3.out]; exact hlt
      have hsu := trimTo_succ (W := W) (n := n) (xs := xs) (ss := ss) (ts := ts) hkl
      obtain ⟨x, hx⟩ : ∃ x, line.getD k 0 = x := ⟨_, rfl⟩
      have hxw := h3.wf _ (getD_mem hkl)
      rw [hx] at hsu hxw
      obtain ⟨os, hos⟩ : ∃ os, trimTo W n xs ss ts line (line.take k) = os := ⟨_, rfl⟩
      have hso := HST.out (line.take k)
      rw [hos] at hM hsu hso
      have HSO := Lib.hid (setB_filter (neI x) hso)
      have HSU := Lib.hid hsu
      have HXW := Lib.hid hxw
      have HX := Lib.hid hx
      have hmr := (hM.ints .here).room
      have hml := (hM.ints .here).len
      have HML := Lib.hid hml
      clear hx hos hkl hso hsu hxw hml
      have i0 : (0 : Int) ≤ (k : Int) := by omega
      have i1 : (k : Int) < (n3 : Int) := by omega
      go_wp2_with fail
      apply Mem.atWp
      · (repeat' (first | with_reducible exact hM | with_reducible exact hMp | with_reducible apply Mem.drew | with_reducible apply Mem.drewN | with_reducible apply Mem.alloc | with_reducible apply Mem.set | with_reducible exact Sto.row | ((with_reducible refine Sto.rowEq2 ?_ ?_); omega; rfl) | ((with_reducible refine Sto.rowEq ?_); omega) | with_reducible apply Sto.int | with_reducible apply Sto.there | with_reducible assumption | (unfold I64; omega) | (with_reducible (have hMx := Mem.undrew hM; exact hMx)) | (with_reducible (have hMx := Mem.undrew hMp; exact hMx))))
      clear hM
      intro hM
      replace hM := hM.toInts (xs := []) .here rfl (by simp) (by simp)
      go_loopw [11, 12] (fun s11 s12 wq => ∃ (j : Nat) (a5 : Option Addr) (m5 c5 : Nat), j ≤ m ∧ s12 = .int .i64 j ∧ s11 = .slice a5 m5 c5 ∧ Mem w.heap.size w wq [intE a5 m5 c5 ((os.take j).filter (neI x)), intE a' m c' os, rowE w.heap.size 26 #[.int .i64 W, .int .i64 Hn, .slice a n c]]) (fun _ s12 _ => m - (intOf s12).toNat)
      case atStart => exact ⟨0, _, 0, _, Nat.zero_le _, rfl, rfl, hM⟩
      case round =>
        clear hM
        obtain ⟨j, a5, m5, c5, hj, rfl, rfl, hM⟩ := hrel
        by_cases hjt : j < m
        · obtain ⟨g', rfl, -⟩ := (hM.ints (.there .here)).head (by omega)
          have hjl : j < os.length := by rw [HML.out]; exact hjt
          have hts := take_succ' hjl
          have hyw := (hM.ints (.there .here)).wf _ (getD_mem hjl)
          obtain ⟨y, hy⟩ : ∃ y, os.getD j 0 = y := ⟨_, rfl⟩
          rw [hy] at hts hyw
          have HY := Lib.hid hy
          have HTS := Lib.hid (show (os.take (j + 1)).filter (neI x) = (os.take j).filter (neI x) ++ if neI x y then [y] else [] by
            rw [hts, List.filter_append]
            cases hne : neI x y <;> simp [hne])
          have HYW := Lib.hid hyw
          have hm5 := (hM.ints .here).len
          have hfl : ((os.take j).filter (neI x)).length ≤ j := Nat.le_trans (List.length_filter_le _ _) (List.length_take_le _ _)
          have hm5b : m5 ≤ j := by omega
          clear hy hts hyw hjl hm5 hfl
          have j0 : (0 : Int) ≤ (j : Int) := by omega
          have j1 : (j : Int) < (m : Int) := by omega
          go_wp2_with fail
          apply Mem.atWp
          · (repeat' (first | with_reducible exact hM | with_reducible exact hMp | with_reducible apply Mem.drew | with_reducible apply Mem.drewN | with_reducible apply Mem.alloc | with_reducible apply Mem.set | with_reducible exact Sto.row | ((with_reducible refine Sto.rowEq2 ?_ ?_); omega; rfl) | ((with_reducible refine Sto.rowEq ?_); omega) | with_reducible apply Sto.int | with_reducible apply Sto.there | with_reducible assumption | (unfold I64; omega) | (with_reducible (have hMx := Mem.undrew hM; exact hMx)) | (with_reducible (have hMx := Mem.undrew hMp; exact hMx))))
          clear hM
          intro hM
          have hne0 : neI x y = (y != x) := rfl
          refine AtT.startA hM hM 8 (by kernel_rfl) ?_
          clear hM
          intro wd hM
          have hS := hM
          refine AtT.taked (i := 0) (v := ?_) (some 28) rfl rfl (by kernel_rfl) (by kernel_rfl) (by kernel_rfl) (by kernel_rfl) (fun _ _ _ h => h) (Or.inl ⟨by kernel_rfl, ?_⟩) hS ?_
          rotate_left
          · (intro wS hSw; (try dsimp only at hSw); go_simp; (try rw [if_neg (by omega)]); try with_reducible rfl)
          simp only [Act.put, List.setIfInBounds_toArray, List.set_cons_zero, List.set_cons_succ]
          refine AtT.taked (i := 1) (v := ?_) (some 29) rfl rfl (by kernel_rfl) (by kernel_rfl) (by kernel_rfl) (by kernel_rfl) (fun _ _ _ h => h) (Or.inl ⟨by kernel_rfl, ?_⟩) hS ?_
          rotate_left
          · (intro wS hSw; (try dsimp only at hSw); go_simp; (try rw [if_neg (by omega)]); try with_reducible rfl)
          simp only [Act.put, List.setIfInBounds_toArray, List.set_cons_zero, List.set_cons_succ]
          refine AtT.taked (i := 2) (v := ?_) (some 30) rfl rfl (by kernel_rfl) (by kernel_rfl) (by kernel_rfl) (by kernel_rfl) (fun _ _ _ h => h) (Or.inl ⟨by kernel_rfl, ?_⟩) hS ?_
          rotate_left
          · (intro wS hSw; (try dsimp only at hSw); have kr0 := (Mem.row hSw (.there (.there .here))).cell; have hco := (hSw.ints (.there .here)).cellAt hjt; rw [HY.out] at hco; have hcl := (h3.ext hSw.below).get hlt; rw [HX.out] at hcl; go_simp; (try rw [if_neg (by omega)]); try with_reducible rfl)
          simp only [Act.put, List.setIfInBounds_toArray, List.set_cons_zero, List.set_cons_succ]
          refine AtT.taked (i := 3) (v := ?_) (some 31) rfl rfl (by kernel_rfl) (by kernel_rfl) (by kernel_rfl) (by kernel_rfl) (fun _ _ _ h => h) (Or.inl ⟨by kernel_rfl, ?_⟩) hS ?_
          rotate_left
          · (intro wS hSw; (try dsimp only at hSw); have kr0 := (Mem.row hSw (.there (.there .here))).cell; have hco := (hSw.ints (.there .here)).cellAt hjt; rw [HY.out] at hco; have hcl := (h3.ext hSw.below).get hlt; rw [HX.out] at hcl; go_simp; (try rw [if_neg (by omega)]); try with_reducible rfl)
          simp only [Act.put, List.setIfInBounds_toArray, List.set_cons_zero, List.set_cons_succ]
          refine AtT.taked (i := 4) (v := ?_) (some 32) rfl rfl (by kernel_rfl) (by kernel_rfl) (by kernel_rfl) (by kernel_rfl) (fun _ _ _ h => h) (Or.inl ⟨by kernel_rfl, ?_⟩) hS ?_
          rotate_left
          · (intro wS hSw; (try dsimp only at hSw); go_simp; (try rw [if_neg (by omega)]); try with_reducible rfl)
          simp only [Act.put, List.setIfInBounds_toArray, List.set_cons_zero, List.set_cons_succ]
          refine AtT.taked (i := 5) (v := ?_) (some 33) rfl rfl (by kernel_rfl) (by kernel_rfl) (by kernel_rfl) (by kernel_rfl) (fun _ _ _ h => h) (Or.inl ⟨by kernel_rfl, ?_⟩) hS ?_
          rotate_left
          · (intro wS hSw; (try dsimp only at hSw); go_simp; (try rw [if_neg (by omega)]); try with_reducible rfl)
          simp only [Act.put, List.setIfInBounds_toArray, List.set_cons_zero, List.set_cons_succ]
          refine AtT.taked (i := 6) (v := ?_) (some 34) rfl rfl (by kernel_rfl) (by kernel_rfl) (by kernel_rfl) (by kernel_rfl) (fun _ _ _ h => h) (Or.inl ⟨by kernel_rfl, ?_⟩) hS ?_
          rotate_left
          · (intro wS hSw; (try dsimp only at hSw); have kr0 := (Mem.row hSw (.there (.there .here))).cell; have hco := (hSw.ints (.there .here)).cellAt hjt; rw [HY.out] at hco; have hcl := (h3.ext hSw.below).get hlt; rw [HX.out] at hcl; go_simp; (try rw [if_neg (by omega)]); try with_reducible rfl)
          simp only [Act.put, List.setIfInBounds_toArray, List.set_cons_zero, List.set_cons_succ]
          refine AtT.taked (i := 7) (v := ?_) (some 35) rfl rfl (by kernel_rfl) (by kernel_rfl) (by kernel_rfl) (by kernel_rfl) (fun _ _ _ h => h) (Or.inl ⟨by kernel_rfl, ?_⟩) hS ?_
          rotate_left
          · (intro wS hSw; (try dsimp only at hSw); have kr0 := (Mem.row hSw (.there (.there .here))).cell; have hco := (hSw.ints (.there .here)).cellAt hjt; rw [HY.out] at hco; have hcl := (h3.ext hSw.below).get hlt; rw [HX.out] at hcl; go_simp; (try rw [if_neg (by omega)]); try with_reducible rfl)
          simp only [Act.put, List.setIfInBounds_toArray, List.set_cons_zero, List.set_cons_succ]
          refine AtT.last (by kernel_rfl) rfl (by kernel_rfl) ?_
          intro K hK
          clear hS
          go_simp
          refine hK.out _ _ ?_
          clear hK K
          cases hyx : (y != x)
          · rw [hyx] at hne0
            have HNE := Lib.hid hne0; clear hne0
            go_wp2
            go_roundw
            case rel =>
              refine ⟨j + 1, a5, m5, c5, by omega, by go_num, rfl, ?_⟩
              rw [HTS.out, HNE.out]
              simp only [Bool.false_eq_true, if_false, List.append_nil]
              (repeat' (first | with_reducible exact hM | with_reducible exact hMp | with_reducible apply Mem.drew | with_reducible apply Mem.drewN | with_reducible apply Mem.alloc | with_reducible apply Mem.set | with_reducible exact Sto.row | ((with_reducible refine Sto.rowEq2 ?_ ?_); omega; rfl) | ((with_reducible refine Sto.rowEq ?_); omega) | with_reducible apply Sto.int | with_reducible apply Sto.there | with_reducible assumption | (unfold I64; omega) | (with_reducible (have hMx := Mem.undrew hM; exact hMx)) | (with_reducible (have hMx := Mem.undrew hMp; exact hMx))))
            case measure => simp [intOf]; omega
          · rw [hyx] at hne0
            have HNE := Lib.hid hne0; clear hne0
            have hco := (hM.ints (.there .here)).cellAt hjt
            rw [HY.out] at hco
            go_wp2_with (at_builtin; apply Mem.atL; (focus ((repeat' (first | with_reducible exact hM | with_reducible exact hMp | with_reducible apply Mem.drew | with_reducible apply Mem.drewN | with_reducible apply Mem.alloc | with_reducible apply Mem.set | with_reducible exact Sto.row | ((with_reducible refine Sto.rowEq2 ?_ ?_); omega; rfl) | ((with_reducible refine Sto.rowEq ?_); omega) | with_reducible apply Sto.int | with_reducible apply Sto.there | with_reducible assumption | (unfold I64; omega) | (with_reducible (have hMx := Mem.undrew hM; exact hMx)) | (with_reducible (have hMx := Mem.undrew hMp; exact hMx)))); done)); clear hM hco; intro hM; (try simp only [World.size_alloc, World.size_setCell, World.heap_drewN, heapDrew, Nat.add_assoc, Nat.reduceAdd, List.setIfInBounds_toArray, List.set_cons_zero, List.set_cons_succ, List.cons_append, List.nil_append] at hM); refine wpList_pushI hM (fun _ => .here) HYW.out (by omega) rfl _ _ _ Try.underlying24 rfl rfl rfl ?_)
            intro a6 c6 w6 hM
            go_wp2
            go_roundw
            case rel =>
              refine ⟨j + 1, a6, m5 + 1, c6, by omega, by go_num, rfl, ?_⟩
              rw [HTS.out, HNE.out]
              exact hM
            case measure => simp [intOf]; omega
        · obtain rfl : j = m := by omega
          rw [List.take_of_length_le (by rw [HML.out]; exact Nat.le_refl _)] at hM
          obtain ⟨k2, f2, l2⟩ := hM.row (.there (.there .here))
          go_wp2_with fail
          clear k2 f2 l2
          apply Mem.at
          · (repeat' (first | with_reducible exact hM | with_reducible exact hMp | with_reducible apply Mem.drew | with_reducible apply Mem.drewN | with_reducible apply Mem.alloc | with_reducible apply Mem.set | with_reducible exact Sto.row | ((with_reducible refine Sto.rowEq2 ?_ ?_); omega; rfl) | ((with_reducible refine Sto.rowEq ?_); omega) | with_reducible apply Sto.int | with_reducible apply Sto.there | with_reducible assumption | (unfold I64; omega) | (with_reducible (have hMx := Mem.undrew hM; exact hMx)) | (with_reducible (have hMx := Mem.undrew hMp; exact hMx))))
          clear hM
          intro hM
          (try simp only [World.size_alloc, World.size_setCell, World.heap_drewN, heapDrew, Nat.add_assoc, Nat.reduceAdd, List.setIfInBounds_toArray, List.set_cons_zero, List.set_cons_succ, List.cons_append, List.nil_append] at hM)
          refine (l9Line_any W Hn a n c xs a1 n1 c1 ss a2 n2 c2 ts a5 m5 c5 _ _ (h.ext hM.below) (h1.ext hM.below) (h2.ext hM.below) (hM.ints .here).ints hnp hn25 hW HS.out HSO.out HXS.out).mono ?_
          rintro e w3 ⟨rfl, hb⟩
          replace hM := hM.ext hb
          clear hb
          cases hlb : lineB W n xs ss ts (os.filter (neI x))
          · go_wp2
            go_roundw
            case rel =>
              refine ⟨k + 1, a', j, c', by omega, by go_num, rfl, ?_⟩
              rw [HSU.out, trimS, hlb]
              exact hM.pick (is := [1, 2]) (by decide) rfl
            case measure => simp [intOf]; omega
          · go_wp2
            go_roundw
            case rel =>
              refine ⟨k + 1, a5, m5, c5, by omega, by go_num, rfl, ?_⟩
              rw [HSU.out, trimS, hlb]
              exact hM.pick (is := [0, 2]) (by decide) rfl
            case measure => simp [intOf]; omega
    · obtain rfl : k = n3 := by omega
      rw [List.take_of_length_le (by rw [HL3.out]; exact Nat.le_refl _)] at hM
      go_wp2
      go_ret
      exact ⟨a', m, c', rfl, hM.first⟩

noncomputable def trimR (W H : Int) (xs ss ts line : List Int) : LB := if caseB W H xs xs.length ss ts && (setB xs.length line && lineB W.toNat xs.length xs ss ts line) then ⟨trimTo W.toNat xs.length xs ss ts line line, true⟩ else ⟨[], false⟩

set_option maxRecDepth 100000 in
set_option maxHeartbeats 2000000 in
theorem implTrim_any (W H : Int) (a : Option Addr) (n c : Nat) (xs : List Int) (a1 : Option Addr) (n1 c1 : Nat) (ss : List Int) (a2 : Option Addr) (n2 c2 : Nat) (ts : List Int) (a3 : Option Addr) (n3 c3 : Nat) (line : List Int) (w : World) (h : Ints w a n c xs) (h1 : Ints w a1 n1 c1 ss) (h2 : Ints w a2 n2 c2 ts) (h3 : Ints w a3 n3 c3 line) :
    Calls Try.prog 15 #[.agg #[.int .i64 W, .int .i64 H, .slice a n c], .slice a1 n1 c1, .slice a2 n2 c2, .slice a3 n3 c3] w (LRes w (trimR W H xs ss ts line)) := by
  have hM := Mem.start w
  have HL := Lib.hid h.len
  cases hc : caseB W H xs n ss ts
  · have HF := Lib.hid (show trimR W H xs ss ts line = ⟨[], false⟩ by rw [trimR, h.len, hc]; rfl)
    go_enter Try.func15, Try.ntmps15
    go_wp2_with fail
    apply Mem.at
    · (repeat' (first | with_reducible exact hM | with_reducible exact hMp | with_reducible apply Mem.drew | with_reducible apply Mem.drewN | with_reducible apply Mem.alloc | with_reducible apply Mem.set | with_reducible exact Sto.row | ((with_reducible refine Sto.rowEq2 ?_ ?_); omega; rfl) | ((with_reducible refine Sto.rowEq ?_); omega) | with_reducible apply Sto.int | with_reducible apply Sto.there | with_reducible assumption | (unfold I64; omega) | (with_reducible (have hMx := Mem.undrew hM; exact hMx)) | (with_reducible (have hMx := Mem.undrew hMp; exact hMx))))
    clear hM
    intro hM
    (try simp only [World.size_alloc, World.size_setCell, World.heap_drewN, heapDrew, Nat.add_assoc, Nat.reduceAdd, List.setIfInBounds_toArray, List.set_cons_zero, List.set_cons_succ, List.cons_append, List.nil_append] at hM)
    refine (isCase_any W H a n c xs a1 n1 c1 ss a2 n2 c2 ts _ (h.ext hM.below) (h1.ext hM.below) (h2.ext hM.below)).mono ?_
    rw [hc]
    rintro e w1 ⟨rfl, hb⟩
    replace hM := hM.ext hb
    clear hb
    go_wp2
    go_ret2
    rw [HF.out]
    first
      | exact ⟨none, 0, 0, rfl, hM.nilInts⟩
      | exact ⟨_, 0, 0, rfl, hM.empty.first⟩
  obtain ⟨hg, hs1, hs2, -⟩ := caseB_true hc
  obtain ⟨Wn, Hn, rfl, rfl, p1, p2, p3, p4, hlen, h25, hall⟩ := goodB_true hg
  have hn25 : n ≤ 25 := by rw [← HL.out]; exact h25
  have hnp : 0 < n := by rw [← HL.out, hlen]; exact Nat.mul_pos p1 p3
  have HP := Lib.hid (show ∀ x ∈ xs, 0 ≤ x from fun x hx => (hall x hx).1)
  have HC := Lib.hid hc
  have HG := Lib.hid hg
  have HS1 := Lib.hid hs1
  clear h25 hlen hall hg hs1 hs2
  cases hs : setB n line
  · have HF := Lib.hid (show trimR Wn Hn xs ss ts line = ⟨[], false⟩ by rw [trimR, h.len, hs, Bool.false_and, Bool.and_false]; rfl)
    clear hc
    go_enter Try.func15, Try.ntmps15
    go_wp2_with fail
    apply Mem.at
    · (repeat' (first | with_reducible exact hM | with_reducible exact hMp | with_reducible apply Mem.drew | with_reducible apply Mem.drewN | with_reducible apply Mem.alloc | with_reducible apply Mem.set | with_reducible exact Sto.row | ((with_reducible refine Sto.rowEq2 ?_ ?_); omega; rfl) | ((with_reducible refine Sto.rowEq ?_); omega) | with_reducible apply Sto.int | with_reducible apply Sto.there | with_reducible assumption | (unfold I64; omega) | (with_reducible (have hMx := Mem.undrew hM; exact hMx)) | (with_reducible (have hMx := Mem.undrew hMp; exact hMx))))
    clear hM
    intro hM
    (try simp only [World.size_alloc, World.size_setCell, World.heap_drewN, heapDrew, Nat.add_assoc, Nat.reduceAdd, List.setIfInBounds_toArray, List.set_cons_zero, List.set_cons_succ, List.cons_append, List.nil_append] at hM)
    refine (isCase_any Wn Hn a n c xs a1 n1 c1 ss a2 n2 c2 ts _ (h.ext hM.below) (h1.ext hM.below) (h2.ext hM.below)).mono ?_
    rw [HC.out]
    rintro e w1 ⟨rfl, hb⟩
    replace hM := hM.ext hb
    clear hb
    obtain ⟨k0, f0, l0⟩ := hM.row .here
    go_wp2_with fail
    clear k0 f0 l0
    apply Mem.at
    · (repeat' (first | with_reducible exact hM | with_reducible exact hMp | with_reducible apply Mem.drew | with_reducible apply Mem.drewN | with_reducible apply Mem.alloc | with_reducible apply Mem.set | with_reducible exact Sto.row | ((with_reducible refine Sto.rowEq2 ?_ ?_); omega; rfl) | ((with_reducible refine Sto.rowEq ?_); omega) | with_reducible apply Sto.int | with_reducible apply Sto.there | with_reducible assumption | (unfold I64; omega) | (with_reducible (have hMx := Mem.undrew hM; exact hMx)) | (with_reducible (have hMx := Mem.undrew hMp; exact hMx))))
    clear hM
    intro hM
    (try simp only [World.size_alloc, World.size_setCell, World.heap_drewN, heapDrew, Nat.add_assoc, Nat.reduceAdd, List.setIfInBounds_toArray, List.set_cons_zero, List.set_cons_succ, List.cons_append, List.nil_append] at hM)
    refine (isSetX_any _ _ a n c xs a3 n3 c3 line _ (h.ext hM.below) (h3.ext hM.below) hn25 HG.out).mono ?_
    rw [hs]
    rintro e w2 ⟨rfl, hb⟩
    replace hM := hM.ext hb
    clear hb
    go_wp2
    go_ret2
    rw [HF.out]
    first
      | exact ⟨none, 0, 0, rfl, hM.nilInts⟩
      | exact ⟨_, 0, 0, rfl, hM.empty.first⟩
  obtain ⟨q, hq⟩ : ∃ q, lineB Wn n xs ss ts line = q := ⟨_, rfl⟩
  have HF := Lib.hid (show trimR Wn Hn xs ss ts line = if q then ⟨trimTo Wn n xs ss ts line line, true⟩ else ⟨[], false⟩ by rw [trimR, h.len, hs, hc, Int.toNat_natCast, hq]; rfl)
  have HS := Lib.hid hs
  have HQ := Lib.hid hq
  clear hc hs hq
  go_enter Try.func15, Try.ntmps15
  go_wp2_with fail
  apply Mem.at
  · (repeat' (first | with_reducible exact hM | with_reducible exact hMp | with_reducible apply Mem.drew | with_reducible apply Mem.drewN | with_reducible apply Mem.alloc | with_reducible apply Mem.set | with_reducible exact Sto.row | ((with_reducible refine Sto.rowEq2 ?_ ?_); omega; rfl) | ((with_reducible refine Sto.rowEq ?_); omega) | with_reducible apply Sto.int | with_reducible apply Sto.there | with_reducible assumption | (unfold I64; omega) | (with_reducible (have hMx := Mem.undrew hM; exact hMx)) | (with_reducible (have hMx := Mem.undrew hMp; exact hMx))))
  clear hM
  intro hM
  (try simp only [World.size_alloc, World.size_setCell, World.heap_drewN, heapDrew, Nat.add_assoc, Nat.reduceAdd, List.setIfInBounds_toArray, List.set_cons_zero, List.set_cons_succ, List.cons_append, List.nil_append] at hM)
  refine (isCase_any Wn Hn a n c xs a1 n1 c1 ss a2 n2 c2 ts _ (h.ext hM.below) (h1.ext hM.below) (h2.ext hM.below)).mono ?_
  rw [HC.out]
  rintro e w1 ⟨rfl, hb⟩
  replace hM := hM.ext hb
  clear hb
  obtain ⟨k0, f0, l0⟩ := hM.row .here
  go_wp2_with fail
  clear k0 f0 l0
  apply Mem.at
  · (repeat' (first | with_reducible exact hM | with_reducible exact hMp | with_reducible apply Mem.drew | with_reducible apply Mem.drewN | with_reducible apply Mem.alloc | with_reducible apply Mem.set | with_reducible exact Sto.row | ((with_reducible refine Sto.rowEq2 ?_ ?_); omega; rfl) | ((with_reducible refine Sto.rowEq ?_); omega) | with_reducible apply Sto.int | with_reducible apply Sto.there | with_reducible assumption | (unfold I64; omega) | (with_reducible (have hMx := Mem.undrew hM; exact hMx)) | (with_reducible (have hMx := Mem.undrew hMp; exact hMx))))
  clear hM
  intro hM
  (try simp only [World.size_alloc, World.size_setCell, World.heap_drewN, heapDrew, Nat.add_assoc, Nat.reduceAdd, List.setIfInBounds_toArray, List.set_cons_zero, List.set_cons_succ, List.cons_append, List.nil_append] at hM)
  refine (isSetX_any _ _ a n c xs a3 n3 c3 line _ (h.ext hM.below) (h3.ext hM.below) hn25 HG.out).mono ?_
  rw [HS.out]
  rintro e w2 ⟨rfl, hb⟩
  replace hM := hM.ext hb
  clear hb
  obtain ⟨k0, f0, l0⟩ := hM.row .here
  go_wp2_with fail
  clear k0 f0 l0
  apply Mem.at
  · (repeat' (first | with_reducible exact hM | with_reducible exact hMp | with_reducible apply Mem.drew | with_reducible apply Mem.drewN | with_reducible apply Mem.alloc | with_reducible apply Mem.set | with_reducible exact Sto.row | ((with_reducible refine Sto.rowEq2 ?_ ?_); omega; rfl) | ((with_reducible refine Sto.rowEq ?_); omega) | with_reducible apply Sto.int | with_reducible apply Sto.there | with_reducible assumption | (unfold I64; omega) | (with_reducible (have hMx := Mem.undrew hM; exact hMx)) | (with_reducible (have hMx := Mem.undrew hMp; exact hMx))))
  clear hM
  intro hM
  (try simp only [World.size_alloc, World.size_setCell, World.heap_drewN, heapDrew, Nat.add_assoc, Nat.reduceAdd, List.setIfInBounds_toArray, List.set_cons_zero, List.set_cons_succ, List.cons_append, List.nil_append] at hM)
  refine (isLineX_any Wn Hn a n c xs a1 n1 c1 ss a2 n2 c2 ts a3 n3 c3 line _ (h.ext hM.below) (h1.ext hM.below) (h2.ext hM.below) (h3.ext hM.below) hnp hn25 ⟨p1, p2⟩ HS1.out HS.out HP.out).mono ?_
  rw [HQ.out]
  rintro e w3 ⟨rfl, hb⟩
  replace hM := hM.ext hb
  clear hb
  cases q
  · go_wp2
    go_ret2
    rw [HF.out]
    first
      | exact ⟨none, 0, 0, rfl, hM.nilInts⟩
      | exact ⟨_, 0, 0, rfl, hM.empty.first⟩
  obtain ⟨k0, f0, l0⟩ := hM.row .here
  go_wp2_with fail
  clear k0 f0 l0
  apply Mem.at
  · (repeat' (first | with_reducible exact hM | with_reducible exact hMp | with_reducible apply Mem.drew | with_reducible apply Mem.drewN | with_reducible apply Mem.alloc | with_reducible apply Mem.set | with_reducible exact Sto.row | ((with_reducible refine Sto.rowEq2 ?_ ?_); omega; rfl) | ((with_reducible refine Sto.rowEq ?_); omega) | with_reducible apply Sto.int | with_reducible apply Sto.there | with_reducible assumption | (unfold I64; omega) | (with_reducible (have hMx := Mem.undrew hM; exact hMx)) | (with_reducible (have hMx := Mem.undrew hMp; exact hMx))))
  clear hM
  intro hM
  (try simp only [World.size_alloc, World.size_setCell, World.heap_drewN, heapDrew, Nat.add_assoc, Nat.reduceAdd, List.setIfInBounds_toArray, List.set_cons_zero, List.set_cons_succ, List.cons_append, List.nil_append] at hM)
  refine (trim_any Wn Hn a n c xs a1 n1 c1 ss a2 n2 c2 ts a3 n3 c3 line _ (h.ext hM.below) (h1.ext hM.below) (h2.ext hM.below) (h3.ext hM.below) hnp hn25 ⟨p1, p2⟩ HS1.out HS.out HP.out).mono ?_
  rintro e w4 ⟨a5, m5, c5, rfl, hm⟩
  replace hM := hM.join hm
  clear hm
  go_wp2
  go_ret2
  rw [HF.out]
  exact ⟨a5, m5, c5, rfl, hM.first⟩
end Go.Proofs.Ytbgegmignhghnaa
