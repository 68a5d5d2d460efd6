/-
  SavedCells.
-/
import Derived.Test.YtkohfegajcmdbaaLSets
/-
  SavedCells.
-/
namespace Go.Proofs.Ytkohfegajcmdbaa
set_option linter.unusedSimpArgs false
set_option linter.unusedVariables false
open Go.RowKit

structure LB where
  l : List Int
  ok : Bool
def savedP (rs line : List Int) (c : Int) : Bool := !hasI rs c && !hasI line c
noncomputable def savedR (W H : Int) (xs ss line : List Int) : LB := if caseB W H xs xs.length ss line then ⟨(reachL W.toNat xs.length xs (fun k => hasI ss k)).filter (savedP (reachL W.toNat xs.length (clrL xs line) (fun k => hasI ss k)) line), true⟩ else ⟨[], false⟩
/-- a list and whether there is one: new memory -/
def LRes (w : World) (r : LB) (e : Ending) (w' : World) : Prop := ∃ a m c, e = .returned (.tuple #[.slice a m c, .bool r.ok]) ∧ Mem w.heap.size w w' [intE a m c r.l]

set_option maxRecDepth 100000 in
set_option maxHeartbeats 400000 in
theorem saved1_any (a : Option Addr) (n c : Nat) (ss : List Int) (x : Int) (b : Nat) (w : World) (h : Ints w a n c ss) (hr : Row w b #[.slice a n c]) :
    Calls Try.prog 118 #[.int .i64 x, .pointer (some ⟨b, 0, none⟩)] w fun e w' => e = .returned (.bool (!hasI ss x)) ∧ Below w.heap.size w w' := by
  have k1 := hr.cell
  go_enter Try.func118, Try.ntmps118
  go_wp2_with fail
  refine (has_any a n c ss x _ h).mono ?_
  rintro e w1 ⟨rfl, rfl⟩
  go_wp2
  go_ret
  exact ⟨rfl, Below.refl _ _⟩

set_option maxRecDepth 100000 in
set_option maxHeartbeats 400000 in
theorem saved2_any (a : Option Addr) (n c : Nat) (rs : List Int) (a2 : Option Addr) (n2 c2 : Nat) (line : List Int) (x : Int) (b b2 : Nat) (w : World) (h : Ints w a n c rs) (h2 : Ints w a2 n2 c2 line) (hr : Row w b #[.slice a n c]) (hr2 : Row w b2 #[.slice a2 n2 c2]) :
    Calls Try.prog 121 #[.int .i64 x, .pointer (some ⟨b, 0, none⟩), .pointer (some ⟨b2, 0, none⟩)] w fun e w' => e = .returned (.bool (savedP rs line x)) ∧ Below w.heap.size w w' := by
  obtain ⟨y, hy⟩ : ∃ y, hasI rs x = y := ⟨_, rfl⟩
  have HF := Lib.hid (show savedP rs line x = (!y && !hasI line x) by rw [savedP, hy])
  have HY := Lib.hid hy
  clear hy
  have k1 := hr.cell
  have k2 := hr2.cell
  go_enter Try.func121, Try.ntmps121
  go_wp2_with fail
  refine (has_any a n c rs x _ h).mono ?_
  rw [HY.out]
  rintro e w1 ⟨rfl, rfl⟩
  cases y
  · go_wp2_with fail
    refine (has_any a2 n2 c2 line x _ h2).mono ?_
    rintro e w1 ⟨rfl, rfl⟩
    go_wp2
    go_ret
    exact ⟨rb (by rw [HF.out]; rfl), Below.refl _ _⟩
  · go_wp2
    go_ret
    exact ⟨rb (by rw [HF.out]; rfl), Below.refl _ _⟩

/-- new numbers, however many -/
def RList (xs : List Int) (v : Value) (E : List Ent) : Prop := ∃ a m c, v = .slice a m c ∧ E = [intE a m c xs]

set_option maxRecDepth 100000 in
set_option maxHeartbeats 4000000 in
theorem implSaved_any (W H : Int) (a : Option Addr) (n c : Nat) (xs : List Int) (a1 : Option Addr) (n1 c1 : Nat) (ss : List Int) (a2 : Option Addr) (n2 c2 : Nat) (line : List Int) (w : World) (h : Ints w a n c xs) (h1 : Ints w a1 n1 c1 ss) (h2 : Ints w a2 n2 c2 line) :
    Calls Try.prog 59 #[.agg #[.int .i64 W, .int .i64 H, .slice a n c], .slice a1 n1 c1, .slice a2 n2 c2] w (LRes w (savedR W H xs ss line)) := by
  have hM := Mem.start w
  have hmf : ∀ (fn : Fn) (first cap : Array Value) (w : World), (Instr.makeFunc fn first cap).run Try.prog w = .ok (.func fn first cap) w := fun _ _ _ _ => rfl
  have HL := Lib.hid h.len
  obtain ⟨r, hr⟩ : ∃ r, (goodB 20 W H xs && (setB n ss && setB n line)) = r := ⟨_, rfl⟩
  have hcs : caseB W H xs n ss line = (r && line.all fun c => !hasI ss c) := by rw [caseB, hr, all_comm]
  have HR := Lib.hid hr
  cases r
  · have HF := Lib.hid (show savedR W H xs ss line = ⟨[], false⟩ by rw [savedR, h.len, hcs]; rfl)
    clear hr hcs
    go_enter Try.func59, Try.ntmps59
    go_wp2_with fail
    apply Mem.at
    · (repeat' (first | with_reducible exact hM | with_reducible exact hMp | with_reducible apply Mem.drew | with_reducible apply Mem.drewN | with_reducible apply Mem.alloc | with_reducible apply Mem.set | with_reducible exact Sto.row | ((with_reducible refine Sto.rowEq2 ?_ ?_); omega; rfl) | ((with_reducible refine Sto.rowEq ?_); omega) | with_reducible apply Sto.int | with_reducible apply Sto.there | with_reducible assumption | (unfold I64; omega) | (with_reducible (have hMx := Mem.undrew hM; exact hMx)) | (with_reducible (have hMx := Mem.undrew hMp; exact hMx))))
    clear hM
    intro hM
    (try simp only [World.size_alloc, World.size_setCell, World.heap_drewN, heapDrew, Nat.add_assoc, Nat.reduceAdd, List.setIfInBounds_toArray, List.set_cons_zero, List.set_cons_succ, List.cons_append, List.nil_append] at hM)
    refine (isRegion2_any W H a n c xs a1 n1 c1 ss a2 n2 c2 line _ _ (h.ext hM.below) (h1.ext hM.below) (h2.ext hM.below) (hM.row .here)).mono ?_
    rw [HR.out]
    rintro e w1 ⟨rfl, hb⟩
    replace hM := hM.ext hb
    clear hb
    go_wp2
    go_ret2
    exact ⟨none, 0, 0, by rw [HF.out]; rfl, by rw [HF.out]; exact hM.nilInts⟩
  rw [Bool.and_eq_true, Bool.and_eq_true] at hr
  obtain ⟨hg, hs1, hs2⟩ := hr
  obtain ⟨Wn, Hn, rfl, rfl, p1, p2, p3, p4, hlen, h25, hall⟩ := goodB_true hg
  have hn25 : n ≤ 25 := by rw [← HL.out]; exact h25
  have hnp : 0 < n := by rw [← HL.out, hlen]; exact Nat.mul_pos p1 p3
  have HS1 := Lib.hid hs1
  have HS2 := Lib.hid hs2
  clear h25 hlen hall hg hs1 hs2
  obtain ⟨q, hq⟩ : ∃ q, (line.all fun c => !hasI ss c) = q := ⟨_, rfl⟩
  rw [hq, Bool.true_and] at hcs
  have HQ := Lib.hid hq
  clear hq
  obtain ⟨rs, hrs⟩ : ∃ rs, reachL Wn n (clrL xs line) (fun k => hasI ss k) = rs := ⟨_, rfl⟩
  obtain ⟨bs, hbs⟩ : ∃ rs, reachL Wn n xs (fun k => hasI ss k) = rs := ⟨_, rfl⟩
  have HF := Lib.hid (show savedR Wn Hn xs ss line = if q then ⟨bs.filter (savedP rs line), true⟩ else ⟨[], false⟩ by rw [savedR, h.len, hcs, Int.toNat_natCast, hrs, hbs])
  have HRS := Lib.hid hrs; have HBS := Lib.hid hbs
  clear hrs hbs hcs
  go_enter Try.func59, Try.ntmps59
  go_wp2_with fail
  apply Mem.at
  · (repeat' (first | with_reducible exact hM | with_reducible exact hMp | with_reducible apply Mem.drew | with_reducible apply Mem.drewN | with_reducible apply Mem.alloc | with_reducible apply Mem.set | with_reducible exact Sto.row | ((with_reducible refine Sto.rowEq2 ?_ ?_); omega; rfl) | ((with_reducible refine Sto.rowEq ?_); omega) | with_reducible apply Sto.int | with_reducible apply Sto.there | with_reducible assumption | (unfold I64; omega) | (with_reducible (have hMx := Mem.undrew hM; exact hMx)) | (with_reducible (have hMx := Mem.undrew hMp; exact hMx))))
  clear hM
  intro hM
  (try simp only [World.size_alloc, World.size_setCell, World.heap_drewN, heapDrew, Nat.add_assoc, Nat.reduceAdd, List.setIfInBounds_toArray, List.set_cons_zero, List.set_cons_succ, List.cons_append, List.nil_append] at hM)
  refine (isRegion2_any _ _ a n c xs a1 n1 c1 ss a2 n2 c2 line _ _ (h.ext hM.below) (h1.ext hM.below) (h2.ext hM.below) (hM.row .here)).mono ?_
  rw [HR.out]
  rintro e w1 ⟨rfl, hb⟩
  replace hM := hM.ext hb
  clear hb
  obtain ⟨k1, f1, l1⟩ := hM.row (.there .here)
  obtain ⟨k2, f2, l2⟩ := hM.row (.there (.there .here))
  go_wp2_with fail
  clear k1 f1 l1 k2 f2 l2
  apply Mem.at
  · (repeat' (first | with_reducible exact hM | with_reducible exact hMp | with_reducible apply Mem.drew | with_reducible apply Mem.drewN | with_reducible apply Mem.alloc | with_reducible apply Mem.set | with_reducible exact Sto.row | ((with_reducible refine Sto.rowEq2 ?_ ?_); omega; rfl) | ((with_reducible refine Sto.rowEq ?_); omega) | with_reducible apply Sto.int | with_reducible apply Sto.there | with_reducible assumption | (unfold I64; omega) | (with_reducible (have hMx := Mem.undrew hM; exact hMx)) | (with_reducible (have hMx := Mem.undrew hMp; exact hMx))))
  clear hM
  intro hM
  (try simp only [World.size_alloc, World.size_setCell, World.heap_drewN, heapDrew, Nat.add_assoc, Nat.reduceAdd, List.setIfInBounds_toArray, List.set_cons_zero, List.set_cons_succ, List.cons_append, List.nil_append] at hM)
  refine (all_any _ _ (fun c => !hasI ss c) a2 n2 c2 line _ (h2.ext hM.below) (enters Try.func118 (by kernel_rfl) rfl) (fun x hx w' hb => by
    have hM' := hM.ext hb
    exact saved1_any a1 n1 c1 ss x _ w' (h1.ext hM'.below) (hM'.row (.there (.there .here))))).mono ?_
  rw [HQ.out]
  rintro e w2 ⟨rfl, hb⟩
  replace hM := hM.ext hb
  clear hb
  cases q
  · go_wp2
    go_ret2
    exact ⟨none, 0, 0, by rw [HF.out]; rfl, by rw [HF.out]; exact hM.nilInts⟩
  go_wp2_with fail
  apply Mem.atWp
  · (repeat' (first | with_reducible exact hM | with_reducible exact hMp | with_reducible apply Mem.drew | with_reducible apply Mem.drewN | with_reducible apply Mem.alloc | with_reducible apply Mem.set | with_reducible exact Sto.row | ((with_reducible refine Sto.rowEq2 ?_ ?_); omega; rfl) | ((with_reducible refine Sto.rowEq ?_); omega) | with_reducible apply Sto.int | with_reducible apply Sto.there | with_reducible assumption | (unfold I64; omega) | (with_reducible (have hMx := Mem.undrew hM; exact hMx)) | (with_reducible (have hMx := Mem.undrew hMp; exact hMx))))
  clear hM
  intro hM
  refine AtT.startA hM hM 6 (by kernel_rfl) ?_
  clear hM
  intro wd hM
  have hS := hM
  refine AtT.taked (i := 0) (v := ?_) (some 21) rfl rfl (by kernel_rfl) (by kernel_rfl) (by kernel_rfl) (by kernel_rfl) (fun _ _ _ h => h) (Or.inl ⟨by kernel_rfl, ?_⟩) hS ?_
  rotate_left
  · (intro wS hSw; (try dsimp only at hSw); have kr0 := (Mem.row hSw (.there .here)).cell; have kr1 := (Mem.row hSw (.there (.there .here))).cell; have kr2 := (Mem.row hSw (.there (.there (.there .here)))).cell; go_simp; (try rw [if_neg (by omega)]); try with_reducible rfl)
  simp only [Act.put, List.setIfInBounds_toArray, List.set_cons_zero, List.set_cons_succ]
  refine AtT.taked (i := 1) (v := ?_) (some 22) rfl rfl (by kernel_rfl) (by kernel_rfl) (by kernel_rfl) (by kernel_rfl) (fun _ _ _ h => h) (Or.inl ⟨by kernel_rfl, ?_⟩) hS ?_
  rotate_left
  · (intro wS hSw; (try dsimp only at hSw); have kr0 := (Mem.row hSw (.there .here)).cell; have kr1 := (Mem.row hSw (.there (.there .here))).cell; have kr2 := (Mem.row hSw (.there (.there (.there .here)))).cell; go_simp; (try rw [if_neg (by omega)]); try with_reducible rfl)
  simp only [Act.put, List.setIfInBounds_toArray, List.set_cons_zero, List.set_cons_succ]
  refine AtT.taked (i := 3) (v := ?_) (some 24) rfl rfl (by kernel_rfl) (by kernel_rfl) (by kernel_rfl) (by kernel_rfl) (fun _ _ _ h => h) (Or.inl ⟨by kernel_rfl, ?_⟩) hS ?_
  rotate_left
  · (intro wS hSw; (try dsimp only at hSw); have kr0 := (Mem.row hSw (.there .here)).cell; have kr1 := (Mem.row hSw (.there (.there .here))).cell; have kr2 := (Mem.row hSw (.there (.there (.there .here)))).cell; go_simp; (try rw [if_neg (by omega)]); try with_reducible rfl)
  simp only [Act.put, List.setIfInBounds_toArray, List.set_cons_zero, List.set_cons_succ]
  refine AtT.makers (fun i pv => if i = 2 then RTerr Wn Hn n (clrL xs line) else if i = 4 then RList rs else if i = 5 then RRow 24 #[.slice none 0 0] else fun _ _ => False) 3 [2, 4, 5] [] (fun i => if i = 2 then some 23 else if i = 4 then some 25 else if i = 5 then some 8 else none) (fun i => if i = 4 then [2] else []) rfl (by kernel_rfl) hM ⟨?_, ?_, ?_, trivial⟩ ?_
  · skip
    clear hM
    refine SpecAt.intro rfl ?_
    intro ρ hρ w2 G1 hM K Q hK
    clear hρ
    simp only [puts, Nat.reduceEqDiff, if_true, if_false, reduceIte, Act.put, List.setIfInBounds_toArray, List.set_cons_zero, List.set_cons_succ]
    simp only [puts, Nat.reduceEqDiff, if_true, if_false, reduceIte, Act.put, List.setIfInBounds_toArray, List.set_cons_zero, List.set_cons_succ, flat, List.flatMap_cons, List.flatMap_nil, List.nil_append, List.cons_append, List.append_nil] at hK
    simp only [flat, List.flatMap_cons, List.flatMap_nil, List.nil_append, List.cons_append, List.append_nil, Nat.reduceEqDiff, if_true, if_false, reduceIte] at hM
    go_simp
    refine (cleared_any Wn Hn a n c xs a2 n2 c2 line _ (h.ext hM.below) (h2.ext hM.below) hnp hn25 HS2.out).mono ?_
    rintro e w3 ⟨a3, c3, rfl, hO, hb⟩
    exact hK.out _ _ _ ⟨_, _, rfl, rfl⟩ (hM.own hb hO)
  · skip
    clear hM
    refine SpecAt.intro rfl ?_
    intro ρ hρ w2 G1 hM K Q hK
    have h2 : (RTerr Wn Hn n (clrL xs line)) (ρ 2).1 (ρ 2).2 := hρ 2 (by decide)
    obtain ⟨a3, c3, v2, E2⟩ := h2
    clear hρ
    simp only [puts, Nat.reduceEqDiff, if_true, if_false, reduceIte, Act.put, List.setIfInBounds_toArray, List.set_cons_zero, List.set_cons_succ, v2]
    simp only [puts, Nat.reduceEqDiff, if_true, if_false, reduceIte, Act.put, List.setIfInBounds_toArray, List.set_cons_zero, List.set_cons_succ, flat, List.flatMap_cons, List.flatMap_nil, List.nil_append, List.cons_append, List.append_nil, v2, E2] at hK
    simp only [flat, List.flatMap_cons, List.flatMap_nil, List.nil_append, List.cons_append, List.append_nil, E2, Nat.reduceEqDiff, if_true, if_false, reduceIte] at hM
    try clear v2
    go_simp
    refine (reachable_any Wn Hn a3 n c3 (clrL xs line) a1 n1 c1 ss _ (hM.ints .here).ints (h1.ext hM.below) hn25 ⟨p1, p2⟩ HS1.out).mono ?_
    rw [HRS.out]
    rintro e w3 ⟨a4, m4, c4, rfl, hm⟩
    exact hK.out _ _ _ ⟨_, _, _, rfl, rfl⟩ (hM.join hm)
  · skip
    clear hM
    refine SpecAt.intro rfl ?_
    intro ρ hρ w2 G1 hM K Q hK
    clear hρ
    simp only [puts, Nat.reduceEqDiff, if_true, if_false, reduceIte, Act.put, List.setIfInBounds_toArray, List.set_cons_zero, List.set_cons_succ]
    simp only [puts, Nat.reduceEqDiff, if_true, if_false, reduceIte, Act.put, List.setIfInBounds_toArray, List.set_cons_zero, List.set_cons_succ, flat, List.flatMap_cons, List.flatMap_nil, List.nil_append, List.cons_append, List.append_nil] at hK
    simp only [flat, List.flatMap_cons, List.flatMap_nil, List.nil_append, List.cons_append, List.append_nil, Nat.reduceEqDiff, if_true, if_false, reduceIte] at hM
    go_simp
    exact hK.out _ _ _ ⟨_, rfl, rfl⟩ (hM.alloc _ _)
  clear hM hS
  intro ρ hρ wm hM
  have hS := hM.sub (List.sublist_append_right _ _)
  have h2 : (RTerr Wn Hn n (clrL xs line)) (ρ 2).1 (ρ 2).2 := hρ 2 (by decide)
  obtain ⟨a3, c3, v2, E2⟩ := h2
  have h4 : (RList rs) (ρ 4).1 (ρ 4).2 := hρ 4 (by decide)
  obtain ⟨a4, m4, c4, v4, E4⟩ := h4
  have h5 : (RRow 24 #[.slice none 0 0]) (ρ 5).1 (ρ 5).2 := hρ 5 (by decide)
  obtain ⟨b5, v5, E5⟩ := h5
  clear hρ
  simp only [sets, puts, Nat.reduceEqDiff, if_true, if_false, reduceIte, Act.put, List.setIfInBounds_toArray, List.set_cons_zero, List.set_cons_succ, v2, v4, v5]
  simp only [flat, List.flatMap_cons, List.flatMap_nil, List.nil_append, List.cons_append, List.append_nil, E2, E4, E5] at hM
  clear v2 E2 v4 E4 v5 E5
  refine AtT.last (by kernel_rfl) rfl (by kernel_rfl) ?_
  intro K hK
  clear hS
  have kk2 := (hM.row (.there (.there .here))).cell
  have ff2 := (hM.row (.there (.there .here))).free
  have ll2 := (hM.row (.there (.there .here))).lt
  have kk4 := (hM.row (.there (.there (.there (.there .here))))).cell
  have ff4 := (hM.row (.there (.there (.there (.there .here))))).free
  have ll4 := (hM.row (.there (.there (.there (.there .here))))).lt
  have kk5 := (hM.row (.there (.there (.there (.there (.there .here)))))).cell
  have ff5 := (hM.row (.there (.there (.there (.there (.there .here)))))).free
  have ll5 := (hM.row (.there (.there (.there (.there (.there .here)))))).lt
  have kk6 := (hM.row (.there (.there (.there (.there (.there (.there .here))))))).cell
  have ff6 := (hM.row (.there (.there (.there (.there (.there (.there .here))))))).free
  have ll6 := (hM.row (.there (.there (.there (.there (.there (.there .here))))))).lt
  go_simp
  clear kk2 ff2 ll2 kk4 ff4 ll4 kk5 ff5 ll5 kk6 ff6 ll6
  refine hK.out _ _ ?_
  clear hK K
  apply Mem.atEx
  · (repeat' (first | with_reducible exact hM | with_reducible exact hMp | with_reducible apply Mem.drew | with_reducible apply Mem.drewN | with_reducible apply Mem.alloc | with_reducible apply Mem.set | with_reducible exact Sto.row | ((with_reducible refine Sto.rowEq2 ?_ ?_); omega; rfl) | ((with_reducible refine Sto.rowEq ?_); omega) | with_reducible apply Sto.int | with_reducible apply Sto.there | with_reducible assumption | (unfold I64; omega) | (with_reducible (have hMx := Mem.undrew hM; exact hMx)) | (with_reducible (have hMx := Mem.undrew hMp; exact hMx))))
  clear hM
  intro wst hM
  (try simp only [World.size_alloc, World.size_setCell, World.heap_drewN, heapDrew, Nat.add_assoc, Nat.reduceAdd, List.setIfInBounds_toArray, List.set_cons_zero, List.set_cons_succ, List.cons_append, List.nil_append] at hM)
  obtain ⟨k5, f5, l5⟩ := hM.row (.there (.there (.there (.there (.there .here)))))
  obtain ⟨k6, f6, l6⟩ := hM.row (.there (.there (.there (.there (.there (.there .here))))))
  go_wp2_with fail
  clear k5 f5 l5 k6 f6 l6
  apply Mem.atA
  · (repeat' (first | with_reducible exact hM | with_reducible exact hMp | with_reducible apply Mem.drew | with_reducible apply Mem.drewN | with_reducible apply Mem.alloc | with_reducible apply Mem.set | with_reducible exact Sto.row | ((with_reducible refine Sto.rowEq2 ?_ ?_); omega; rfl) | ((with_reducible refine Sto.rowEq ?_); omega) | with_reducible apply Sto.int | with_reducible apply Sto.there | with_reducible assumption | (unfold I64; omega) | (with_reducible (have hMx := Mem.undrew hM; exact hMx)) | (with_reducible (have hMx := Mem.undrew hMp; exact hMx))))
  clear hM
  intro wst hM
  (try simp only [World.size_alloc, World.size_setCell, World.heap_drewN, heapDrew, Nat.add_assoc, Nat.reduceAdd, List.setIfInBounds_toArray, List.set_cons_zero, List.set_cons_succ, List.cons_append, List.nil_append] at hM)
  apply Calls.mono
  · (apply reachable_any Wn Hn a n c xs a1 n1 c1 ss) <;> (first | (show (_ : Prop); with_reducible assumption) | (apply Hid.out; with_reducible assumption) | (apply Mem.intsR hM; (repeat' (first | with_reducible exact In.here | with_reducible apply In.there)); done) | (apply Ints.ext (hb := hM.below); with_reducible assumption) | (apply Rd.ext (hb := hM.below); with_reducible assumption) | (apply Mem.row hM; (repeat' (first | with_reducible exact In.here | with_reducible apply In.there)); done) | (apply Row.ext (hb := hM.below); with_reducible assumption) | exact ⟨by omega, by omega⟩ | omega | (trace_state; fail))
  rw [HBS.out]
  rintro e wc1 ⟨a6, m6, c6, rfl, hm⟩
  replace hM := hM.join hm
  clear hm
  (try simp only [World.size_alloc, World.size_setCell, World.heap_drewN, heapDrew, Nat.add_assoc, Nat.reduceAdd, List.setIfInBounds_toArray, List.set_cons_zero, List.set_cons_succ, List.cons_append, List.nil_append] at hM)
  go_wp2_with fail
  apply Mem.atA
  · (repeat' (first | with_reducible exact hM | with_reducible exact hMp | with_reducible apply Mem.drew | with_reducible apply Mem.drewN | with_reducible apply Mem.alloc | with_reducible apply Mem.set | with_reducible exact Sto.row | ((with_reducible refine Sto.rowEq2 ?_ ?_); omega; rfl) | ((with_reducible refine Sto.rowEq ?_); omega) | with_reducible apply Sto.int | with_reducible apply Sto.there | with_reducible assumption | (unfold I64; omega) | (with_reducible (have hMx := Mem.undrew hM; exact hMx)) | (with_reducible (have hMx := Mem.undrew hMp; exact hMx))))
  clear hM
  intro wst hM
  (try simp only [World.size_alloc, World.size_setCell, World.heap_drewN, heapDrew, Nat.add_assoc, Nat.reduceAdd, List.setIfInBounds_toArray, List.set_cons_zero, List.set_cons_succ, List.cons_append, List.nil_append] at hM)
  (first | refine (filterI_any _ _ _ (savedP rs line) _ _ _ bs _ (hM.ints .here).ints (enters Try.func121 (by kernel_rfl) rfl) (fun x hx w' hb => by
      have hM' := hM.ext hb
      exact saved2_any a4 m4 c4 rs a2 n2 c2 line x _ _ w' (hM'.ints (.there (.there .here))).ints (h2.ext hM'.below) (hM'.row (.there (.there (.there .here)))) (hM'.row (.there (.there (.there (.there (.there .here)))))))).mono ?_)
  rintro e wc2 ⟨a7, m7, c7, rfl, hm⟩
  replace hM := hM.join hm
  clear hm
  (try simp only [World.size_alloc, World.size_setCell, World.heap_drewN, heapDrew, Nat.add_assoc, Nat.reduceAdd, List.setIfInBounds_toArray, List.set_cons_zero, List.set_cons_succ, List.cons_append, List.nil_append] at hM)
  go_wp2
  go_ret2
  exact ⟨a7, m7, c7, by rw [HF.out]; rfl, by rw [HF.out]; exact hM.first⟩

set_option maxRecDepth 100000 in
set_option maxHeartbeats 4000000 in
theorem specSaved_any (W H : Int) (a : Option Addr) (n c : Nat) (xs : List Int) (a1 : Option Addr) (n1 c1 : Nat) (ss : List Int) (a2 : Option Addr) (n2 c2 : Nat) (line : List Int) (w : World) (h : Ints w a n c xs) (h1 : Ints w a1 n1 c1 ss) (h2 : Ints w a2 n2 c2 line) :
    Calls Try.prog 60 #[.agg #[.int .i64 W, .int .i64 H, .slice a n c], .slice a1 n1 c1, .slice a2 n2 c2] w (LRes w (savedR W H xs ss line)) := by
  have hM := Mem.start w
  have HL := Lib.hid h.len
  obtain ⟨q1, hq1⟩ : ∃ q, (goodB 20 W H xs && setB n ss) = q := ⟨_, rfl⟩
  obtain ⟨q2, hq2⟩ : ∃ q, (goodB 20 W H xs && setB n line) = q := ⟨_, rfl⟩
  have hcs : caseB W H xs n ss line = (q1 && q2 && !(ss.any fun x => hasI line x)) := by
    rw [← hq1, ← hq2, caseB]
    have e : ss.all (fun c => !hasI line c) = !(ss.any fun x => hasI line x) := by
      induction ss with
      | nil => rfl
      | cons s ss ih => simp only [List.all_cons, List.any_cons, Bool.not_or]; rw [List.not_any_eq_all_not]
    rw [e]
    cases goodB 20 W H xs <;> cases setB n ss <;> cases setB n line <;> rfl
  have HQ1 := Lib.hid hq1; have HQ2 := Lib.hid hq2
  cases q1
  · have HF := Lib.hid (show savedR W H xs ss line = ⟨[], false⟩ by rw [savedR, h.len, hcs]; rfl)
    clear hq1 hq2 hcs
    go_enter Try.func60, Try.ntmps60
    go_wp2_with fail
    apply Mem.atA
    · (repeat' (first | with_reducible exact hM | with_reducible exact hMp | with_reducible apply Mem.drew | with_reducible apply Mem.drewN | with_reducible apply Mem.alloc | with_reducible apply Mem.set | with_reducible exact Sto.row | ((with_reducible refine Sto.rowEq2 ?_ ?_); omega; rfl) | ((with_reducible refine Sto.rowEq ?_); omega) | with_reducible apply Sto.int | with_reducible apply Sto.there | with_reducible assumption | (unfold I64; omega) | (with_reducible (have hMx := Mem.undrew hM; exact hMx)) | (with_reducible (have hMx := Mem.undrew hMp; exact hMx))))
    clear hM
    intro wst hM
    (try simp only [World.size_alloc, World.size_setCell, World.heap_drewN, heapDrew, Nat.add_assoc, Nat.reduceAdd, List.setIfInBounds_toArray, List.set_cons_zero, List.set_cons_succ, List.cons_append, List.nil_append] at hM)
    apply Calls.mono
    · (apply l2Set_any W H a n c xs a1 n1 c1 ss) <;> (first | (show (_ : Prop); with_reducible assumption) | (apply Hid.out; with_reducible assumption) | (apply Mem.intsR hM; (repeat' (first | with_reducible exact In.here | with_reducible apply In.there)); done) | (apply Ints.ext (hb := hM.below); with_reducible assumption) | (apply Rd.ext (hb := hM.below); with_reducible assumption) | (apply Mem.row hM; (repeat' (first | with_reducible exact In.here | with_reducible apply In.there)); done) | (apply Row.ext (hb := hM.below); with_reducible assumption) | exact ⟨by omega, by omega⟩ | omega | (trace_state; fail))
    rw [HQ1.out]
    rintro e wc3 ⟨rfl, hb⟩
    replace hM := hM.ext hb
    clear hb
    replace hM := hM.toInts (xs := []) .here rfl (by simp) (by simp)
    go_wp2
    go_ret2
    rw [HF.out]
    exact ⟨_, 0, 0, rfl, hM.first⟩
  cases q2
  · have HF := Lib.hid (show savedR W H xs ss line = ⟨[], false⟩ by rw [savedR, h.len, hcs]; rfl)
    clear hq1 hq2 hcs
    go_enter Try.func60, Try.ntmps60
    go_wp2_with fail
    apply Mem.atA
    · (repeat' (first | with_reducible exact hM | with_reducible exact hMp | with_reducible apply Mem.drew | with_reducible apply Mem.drewN | with_reducible apply Mem.alloc | with_reducible apply Mem.set | with_reducible exact Sto.row | ((with_reducible refine Sto.rowEq2 ?_ ?_); omega; rfl) | ((with_reducible refine Sto.rowEq ?_); omega) | with_reducible apply Sto.int | with_reducible apply Sto.there | with_reducible assumption | (unfold I64; omega) | (with_reducible (have hMx := Mem.undrew hM; exact hMx)) | (with_reducible (have hMx := Mem.undrew hMp; exact hMx))))
    clear hM
    intro wst hM
    (try simp only [World.size_alloc, World.size_setCell, World.heap_drewN, heapDrew, Nat.add_assoc, Nat.reduceAdd, List.setIfInBounds_toArray, List.set_cons_zero, List.set_cons_succ, List.cons_append, List.nil_append] at hM)
    apply Calls.mono
    · (apply l2Set_any W H a n c xs a1 n1 c1 ss) <;> (first | (show (_ : Prop); with_reducible assumption) | (apply Hid.out; with_reducible assumption) | (apply Mem.intsR hM; (repeat' (first | with_reducible exact In.here | with_reducible apply In.there)); done) | (apply Ints.ext (hb := hM.below); with_reducible assumption) | (apply Rd.ext (hb := hM.below); with_reducible assumption) | (apply Mem.row hM; (repeat' (first | with_reducible exact In.here | with_reducible apply In.there)); done) | (apply Row.ext (hb := hM.below); with_reducible assumption) | exact ⟨by omega, by omega⟩ | omega | (trace_state; fail))
    rw [HQ1.out]
    rintro e wc4 ⟨rfl, hb⟩
    replace hM := hM.ext hb
    clear hb
    replace hM := hM.toInts (xs := []) .here rfl (by simp) (by simp)
    obtain ⟨k1, f1, l1⟩ := hM.row (.there .here)
    go_wp2_with fail
    clear k1 f1 l1
    apply Mem.atA
    · (repeat' (first | with_reducible exact hM | with_reducible exact hMp | with_reducible apply Mem.drew | with_reducible apply Mem.drewN | with_reducible apply Mem.alloc | with_reducible apply Mem.set | with_reducible exact Sto.row | ((with_reducible refine Sto.rowEq2 ?_ ?_); omega; rfl) | ((with_reducible refine Sto.rowEq ?_); omega) | with_reducible apply Sto.int | with_reducible apply Sto.there | with_reducible assumption | (unfold I64; omega) | (with_reducible (have hMx := Mem.undrew hM; exact hMx)) | (with_reducible (have hMx := Mem.undrew hMp; exact hMx))))
    clear hM
    intro wst hM
    (try simp only [World.size_alloc, World.size_setCell, World.heap_drewN, heapDrew, Nat.add_assoc, Nat.reduceAdd, List.setIfInBounds_toArray, List.set_cons_zero, List.set_cons_succ, List.cons_append, List.nil_append] at hM)
    apply Calls.mono
    · (apply l2Set_any W H a n c xs a2 n2 c2 line) <;> (first | (show (_ : Prop); with_reducible assumption) | (apply Hid.out; with_reducible assumption) | (apply Mem.intsR hM; (repeat' (first | with_reducible exact In.here | with_reducible apply In.there)); done) | (apply Ints.ext (hb := hM.below); with_reducible assumption) | (apply Rd.ext (hb := hM.below); with_reducible assumption) | (apply Mem.row hM; (repeat' (first | with_reducible exact In.here | with_reducible apply In.there)); done) | (apply Row.ext (hb := hM.below); with_reducible assumption) | exact ⟨by omega, by omega⟩ | omega | (trace_state; fail))
    rw [HQ2.out]
    rintro e wc5 ⟨rfl, hb⟩
    replace hM := hM.ext hb
    clear hb
    go_wp2
    go_ret2
    rw [HF.out]
    exact ⟨_, 0, 0, rfl, hM.first⟩
  rw [Bool.and_eq_true] at hq1 hq2
  obtain ⟨hg, hs1⟩ := hq1
  obtain ⟨-, hs2⟩ := hq2
  obtain ⟨Wn, Hn, rfl, rfl, p1, p2, p3, p4, hlen, h25, hall⟩ := goodB_true hg
  have hn25 : n ≤ 25 := by rw [← HL.out]; exact h25
  have hnp : 0 < n := by rw [← HL.out, hlen]; exact Nat.mul_pos p1 p3
  have hpx : ∀ x ∈ xs, 0 ≤ x := fun x hx => (hall x hx).1
  have HP := Lib.hid hpx
  have HPC := Lib.hid (show ∀ x ∈ clrL xs line, 0 ≤ x from fun x hx => by
    rcases clrL_mem x hx with rfl | h
    · exact Int.le_refl _
    · exact hpx x h)
  have HS1 := Lib.hid hs1
  have HS2 := Lib.hid hs2
  clear h25 hlen hall hg hs1 hs2 hpx
  obtain ⟨q, hq⟩ : ∃ q, (ss.any fun x => hasI line x) = q := ⟨_, rfl⟩
  rw [hq, Bool.true_and, Bool.true_and] at hcs
  have HQ := Lib.hid hq
  clear hq
  obtain ⟨rs, hrs⟩ : ∃ rs, reachL Wn n (clrL xs line) (fun k => hasI ss k) = rs := ⟨_, rfl⟩
  obtain ⟨bs, hbs⟩ : ∃ rs, reachL Wn n xs (fun k => hasI ss k) = rs := ⟨_, rfl⟩
  have HF := Lib.hid (show savedR Wn Hn xs ss line = if q then ⟨[], false⟩ else ⟨bs.filter (savedP rs line), true⟩ by rw [savedR, h.len, hcs, Int.toNat_natCast, hrs, hbs]; cases q <;> rfl)
  have hbl : bs.length ≤ 25 := by rw [← hbs]; exact Nat.le_trans (cellsN_length _ _) hn25
  have hbw : ∀ x ∈ bs, I64 x := by
    intro x hx
    rw [← hbs] at hx
    obtain ⟨c, rfl, hc, -⟩ := cellsN_mem.1 hx
    exact i64_nat (by omega)
  have HBW := Lib.hid hbw
  have HRS := Lib.hid (show cellsN n (reachB n (nearN Wn) (brn (clrL xs line)) fun k => hasI ss k) = rs from hrs)
  have HBS := Lib.hid (show cellsN n (reachB n (nearN Wn) (brn xs) fun k => hasI ss k) = bs from hbs)
  clear hrs hbs hcs hbw
  go_enter Try.func60, Try.ntmps60
  go_wp2_with fail
  apply Mem.atA
  · (repeat' (first | with_reducible exact hM | with_reducible exact hMp | with_reducible apply Mem.drew | with_reducible apply Mem.drewN | with_reducible apply Mem.alloc | with_reducible apply Mem.set | with_reducible exact Sto.row | ((with_reducible refine Sto.rowEq2 ?_ ?_); omega; rfl) | ((with_reducible refine Sto.rowEq ?_); omega) | with_reducible apply Sto.int | with_reducible apply Sto.there | with_reducible assumption | (unfold I64; omega) | (with_reducible (have hMx := Mem.undrew hM; exact hMx)) | (with_reducible (have hMx := Mem.undrew hMp; exact hMx))))
  clear hM
  intro wst hM
  (try simp only [World.size_alloc, World.size_setCell, World.heap_drewN, heapDrew, Nat.add_assoc, Nat.reduceAdd, List.setIfInBounds_toArray, List.set_cons_zero, List.set_cons_succ, List.cons_append, List.nil_append] at hM)
  apply Calls.mono
  · (apply l2Set_any Wn Hn a n c xs a1 n1 c1 ss) <;> (first | (show (_ : Prop); with_reducible assumption) | (apply Hid.out; with_reducible assumption) | (apply Mem.intsR hM; (repeat' (first | with_reducible exact In.here | with_reducible apply In.there)); done) | (apply Ints.ext (hb := hM.below); with_reducible assumption) | (apply Rd.ext (hb := hM.below); with_reducible assumption) | (apply Mem.row hM; (repeat' (first | with_reducible exact In.here | with_reducible apply In.there)); done) | (apply Row.ext (hb := hM.below); with_reducible assumption) | exact ⟨by omega, by omega⟩ | omega | (trace_state; fail))
  rw [HQ1.out]
  rintro e wc6 ⟨rfl, hb⟩
  replace hM := hM.ext hb
  clear hb
  replace hM := hM.toInts (xs := []) .here rfl (by simp) (by simp)
  obtain ⟨k1, f1, l1⟩ := hM.row (.there .here)
  go_wp2_with fail
  clear k1 f1 l1
  apply Mem.atA
  · (repeat' (first | with_reducible exact hM | with_reducible exact hMp | with_reducible apply Mem.drew | with_reducible apply Mem.drewN | with_reducible apply Mem.alloc | with_reducible apply Mem.set | with_reducible exact Sto.row | ((with_reducible refine Sto.rowEq2 ?_ ?_); omega; rfl) | ((with_reducible refine Sto.rowEq ?_); omega) | with_reducible apply Sto.int | with_reducible apply Sto.there | with_reducible assumption | (unfold I64; omega) | (with_reducible (have hMx := Mem.undrew hM; exact hMx)) | (with_reducible (have hMx := Mem.undrew hMp; exact hMx))))
  clear hM
  intro wst hM
  (try simp only [World.size_alloc, World.size_setCell, World.heap_drewN, heapDrew, Nat.add_assoc, Nat.reduceAdd, List.setIfInBounds_toArray, List.set_cons_zero, List.set_cons_succ, List.cons_append, List.nil_append] at hM)
  apply Calls.mono
  · (apply l2Set_any Wn Hn a n c xs a2 n2 c2 line) <;> (first | (show (_ : Prop); with_reducible assumption) | (apply Hid.out; with_reducible assumption) | (apply Mem.intsR hM; (repeat' (first | with_reducible exact In.here | with_reducible apply In.there)); done) | (apply Ints.ext (hb := hM.below); with_reducible assumption) | (apply Rd.ext (hb := hM.below); with_reducible assumption) | (apply Mem.row hM; (repeat' (first | with_reducible exact In.here | with_reducible apply In.there)); done) | (apply Row.ext (hb := hM.below); with_reducible assumption) | exact ⟨by omega, by omega⟩ | omega | (trace_state; fail))
  rw [HQ2.out]
  rintro e wc7 ⟨rfl, hb⟩
  replace hM := hM.ext hb
  clear hb
  go_wp2_with fail
  apply Mem.atA
  · (repeat' (first | with_reducible exact hM | with_reducible exact hMp | with_reducible apply Mem.drew | with_reducible apply Mem.drewN | with_reducible apply Mem.alloc | with_reducible apply Mem.set | with_reducible exact Sto.row | ((with_reducible refine Sto.rowEq2 ?_ ?_); omega; rfl) | ((with_reducible refine Sto.rowEq ?_); omega) | with_reducible apply Sto.int | with_reducible apply Sto.there | with_reducible assumption | (unfold I64; omega) | (with_reducible (have hMx := Mem.undrew hM; exact hMx)) | (with_reducible (have hMx := Mem.undrew hMp; exact hMx))))
  clear hM
  intro wst hM
  (try simp only [World.size_alloc, World.size_setCell, World.heap_drewN, heapDrew, Nat.add_assoc, Nat.reduceAdd, List.setIfInBounds_toArray, List.set_cons_zero, List.set_cons_succ, List.cons_append, List.nil_append] at hM)
  apply Calls.mono
  · (apply l9Meet_any a1 n1 c1 ss a2 n2 c2 line) <;> (first | (show (_ : Prop); with_reducible assumption) | (apply Hid.out; with_reducible assumption) | (apply Mem.intsR hM; (repeat' (first | with_reducible exact In.here | with_reducible apply In.there)); done) | (apply Ints.ext (hb := hM.below); with_reducible assumption) | (apply Rd.ext (hb := hM.below); with_reducible assumption) | (apply Mem.row hM; (repeat' (first | with_reducible exact In.here | with_reducible apply In.there)); done) | (apply Row.ext (hb := hM.below); with_reducible assumption) | exact ⟨by omega, by omega⟩ | omega | (trace_state; fail))
  rw [HQ.out]
  rintro e wc8 ⟨rfl, rfl⟩
  cases q
  rotate_left
  · go_wp2
    go_ret2
    rw [HF.out]
    exact ⟨_, 0, 0, rfl, hM.first⟩
  go_wp2_with fail
  apply Mem.atWp
  · (repeat' (first | with_reducible exact hM | with_reducible exact hMp | with_reducible apply Mem.drew | with_reducible apply Mem.drewN | with_reducible apply Mem.alloc | with_reducible apply Mem.set | with_reducible exact Sto.row | ((with_reducible refine Sto.rowEq2 ?_ ?_); omega; rfl) | ((with_reducible refine Sto.rowEq ?_); omega) | with_reducible apply Sto.int | with_reducible apply Sto.there | with_reducible assumption | (unfold I64; omega) | (with_reducible (have hMx := Mem.undrew hM; exact hMx)) | (with_reducible (have hMx := Mem.undrew hMp; exact hMx))))
  clear hM
  intro hM
  refine AtT.startA hM hM 9 (by kernel_rfl) ?_
  clear hM
  intro wd hM
  have hS := hM
  refine AtT.taked (i := 0) (v := ?_) (some 30) rfl rfl (by kernel_rfl) (by kernel_rfl) (by kernel_rfl) (by kernel_rfl) (fun _ _ _ h => h) (Or.inl ⟨by kernel_rfl, ?_⟩) hS ?_
  rotate_left
  · (intro wS hSw; (try dsimp only at hSw); have kr0 := (Mem.row hSw (.there .here)).cell; go_simp; (try rw [if_neg (by omega)]); try with_reducible rfl)
  simp only [Act.put, List.setIfInBounds_toArray, List.set_cons_zero, List.set_cons_succ]
  refine AtT.taked (i := 1) (v := ?_) (some 31) rfl rfl (by kernel_rfl) (by kernel_rfl) (by kernel_rfl) (by kernel_rfl) (fun _ _ _ h => h) (Or.inl ⟨by kernel_rfl, ?_⟩) hS ?_
  rotate_left
  · (intro wS hSw; (try dsimp only at hSw); go_simp; (try rw [if_neg (by omega)]); try with_reducible rfl)
  simp only [Act.put, List.setIfInBounds_toArray, List.set_cons_zero, List.set_cons_succ]
  refine AtT.taked (i := 3) (v := ?_) (some 33) rfl rfl (by kernel_rfl) (by kernel_rfl) (by kernel_rfl) (by kernel_rfl) (fun _ _ _ h => h) (Or.inl ⟨by kernel_rfl, ?_⟩) hS ?_
  rotate_left
  · (intro wS hSw; (try dsimp only at hSw); have kr0 := (Mem.row hSw (.there .here)).cell; go_simp; (try rw [if_neg (by omega)]); try with_reducible rfl)
  simp only [Act.put, List.setIfInBounds_toArray, List.set_cons_zero, List.set_cons_succ]
  refine AtT.taked (i := 4) (v := ?_) (some 34) rfl rfl (by kernel_rfl) (by kernel_rfl) (by kernel_rfl) (by kernel_rfl) (fun _ _ _ h => h) (Or.inl ⟨by kernel_rfl, ?_⟩) hS ?_
  rotate_left
  · (intro wS hSw; (try dsimp only at hSw); go_simp; (try rw [if_neg (by omega)]); try with_reducible rfl)
  simp only [Act.put, List.setIfInBounds_toArray, List.set_cons_zero, List.set_cons_succ]
  refine AtT.taked (i := 6) (v := ?_) (some 36) rfl rfl (by kernel_rfl) (by kernel_rfl) (by kernel_rfl) (by kernel_rfl) (fun _ _ _ h => h) (Or.inl ⟨by kernel_rfl, ?_⟩) hS ?_
  rotate_left
  · (intro wS hSw; (try dsimp only at hSw); go_simp; (try rw [if_neg (by omega)]); try with_reducible rfl)
  simp only [Act.put, List.setIfInBounds_toArray, List.set_cons_zero, List.set_cons_succ]
  refine AtT.makers (fun i pv => if i = 2 then RList bs else if i = 5 then RTerr Wn Hn n (clrL xs line) else if i = 7 then RList rs else fun _ _ => False) 3 [2, 5, 7] [] (fun i => if i = 2 then some 32 else if i = 5 then some 35 else if i = 7 then some 37 else none) (fun i => if i = 7 then [5] else []) rfl (by kernel_rfl) hM ⟨?_, ?_, ?_, trivial⟩ ?_
  · skip
    clear hM
    refine SpecAt.intro rfl ?_
    intro ρ hρ w2 G1 hM K Q hK
    clear hρ
    simp only [puts, Nat.reduceEqDiff, if_true, if_false, reduceIte, Act.put, List.setIfInBounds_toArray, List.set_cons_zero, List.set_cons_succ]
    simp only [puts, Nat.reduceEqDiff, if_true, if_false, reduceIte, Act.put, List.setIfInBounds_toArray, List.set_cons_zero, List.set_cons_succ, flat, List.flatMap_cons, List.flatMap_nil, List.nil_append, List.cons_append, List.append_nil] at hK
    simp only [flat, List.flatMap_cons, List.flatMap_nil, List.nil_append, List.cons_append, List.append_nil, Nat.reduceEqDiff, if_true, if_false, reduceIte] at hM
    go_simp
    refine (l2Reach_any Wn Hn a n c xs a1 n1 c1 ss _ (h.ext hM.below) (h1.ext hM.below) hn25 ⟨p1, p2⟩ HS1.out HP.out).mono ?_
    rw [HBS.out]
    rintro e w3 ⟨a3, m3, c3, rfl, hm⟩
    exact hK.out _ _ _ ⟨_, _, _, rfl, rfl⟩ (hM.join hm)
  · skip
    clear hM
    refine SpecAt.intro rfl ?_
    intro ρ hρ w2 G1 hM K Q hK
    clear hρ
    simp only [puts, Nat.reduceEqDiff, if_true, if_false, reduceIte, Act.put, List.setIfInBounds_toArray, List.set_cons_zero, List.set_cons_succ]
    simp only [puts, Nat.reduceEqDiff, if_true, if_false, reduceIte, Act.put, List.setIfInBounds_toArray, List.set_cons_zero, List.set_cons_succ, flat, List.flatMap_cons, List.flatMap_nil, List.nil_append, List.cons_append, List.append_nil] at hK
    simp only [flat, List.flatMap_cons, List.flatMap_nil, List.nil_append, List.cons_append, List.append_nil, Nat.reduceEqDiff, if_true, if_false, reduceIte] at hM
    go_simp
    refine (l2Clear_any Wn Hn a n c xs a2 n2 c2 line _ (h.ext hM.below) (h2.ext hM.below) hnp hn25 HS2.out).mono ?_
    rintro e w3 ⟨a4, c4, rfl, hO, hb⟩
    exact hK.out _ _ _ ⟨_, _, rfl, rfl⟩ (hM.own hb hO)
  · skip
    clear hM
    refine SpecAt.intro rfl ?_
    intro ρ hρ w2 G1 hM K Q hK
    have h5 : (RTerr Wn Hn n (clrL xs line)) (ρ 5).1 (ρ 5).2 := hρ 5 (by decide)
    obtain ⟨a4, c4, v5, E5⟩ := h5
    clear hρ
    simp only [puts, Nat.reduceEqDiff, if_true, if_false, reduceIte, Act.put, List.setIfInBounds_toArray, List.set_cons_zero, List.set_cons_succ, v5]
    simp only [puts, Nat.reduceEqDiff, if_true, if_false, reduceIte, Act.put, List.setIfInBounds_toArray, List.set_cons_zero, List.set_cons_succ, flat, List.flatMap_cons, List.flatMap_nil, List.nil_append, List.cons_append, List.append_nil, v5, E5] at hK
    simp only [flat, List.flatMap_cons, List.flatMap_nil, List.nil_append, List.cons_append, List.append_nil, E5, Nat.reduceEqDiff, if_true, if_false, reduceIte] at hM
    try clear v5
    go_simp
    refine (l2Reach_any Wn Hn a4 n c4 (clrL xs line) a1 n1 c1 ss _ (hM.ints .here).ints (h1.ext hM.below) hn25 ⟨p1, p2⟩ HS1.out HPC.out).mono ?_
    rw [HRS.out]
    rintro e w3 ⟨a5, m5, c5, rfl, hm⟩
    exact hK.out _ _ _ ⟨_, _, _, rfl, rfl⟩ (hM.join hm)
  clear hM hS
  intro ρ hρ wm hM
  have hS := hM.sub (List.sublist_append_right _ _)
  have h2 : (RList bs) (ρ 2).1 (ρ 2).2 := hρ 2 (by decide)
  obtain ⟨a3, m3, c3, v2, E2⟩ := h2
  have h5 : (RTerr Wn Hn n (clrL xs line)) (ρ 5).1 (ρ 5).2 := hρ 5 (by decide)
  obtain ⟨a4, c4, v5, E5⟩ := h5
  have h7 : (RList rs) (ρ 7).1 (ρ 7).2 := hρ 7 (by decide)
  obtain ⟨a5, m5, c5, v7, E7⟩ := h7
  clear hρ
  simp only [sets, puts, Nat.reduceEqDiff, if_true, if_false, reduceIte, Act.put, List.setIfInBounds_toArray, List.set_cons_zero, List.set_cons_succ, v2, v5, v7]
  simp only [flat, List.flatMap_cons, List.flatMap_nil, List.nil_append, List.cons_append, List.append_nil, E2, E5, E7] at hM
  clear v2 E2 v5 E5 v7 E7
  refine AtT.taked (i := 8) (v := ?_) (some 9) rfl rfl (by kernel_rfl) (by kernel_rfl) (by kernel_rfl) (by kernel_rfl) (fun _ _ _ h => h) (Or.inl ⟨by kernel_rfl, ?_⟩) hS ?_
  rotate_left
  · (intro wS hSw; (try dsimp only at hSw); go_simp; (try rw [if_neg (by omega)]); try with_reducible rfl)
  simp only [Act.put, List.setIfInBounds_toArray, List.set_cons_zero, List.set_cons_succ]
  refine AtT.last (by kernel_rfl) rfl (by kernel_rfl) ?_
  intro K hK
  clear hS
  go_simp
  refine hK.out _ _ ?_
  clear hK K
  have hml := (hM.ints .here).len
  have HML := Lib.hid hml
  have hm25 : m3 ≤ 25 := by omega
  clear hml
  go_wp2_with fail
  go_loopw [8, 11] (fun s8 s11 wr => ∃ (k : Nat) (a' : Option Addr) (m c' : Nat), k ≤ m3 ∧ s11 = .int .i64 k ∧ s8 = .slice a' m c' ∧ Mem w.heap.size w wr [intE a' m c' ((bs.take k).filter (savedP rs line)), intE a3 m3 c3 bs, intE a5 m5 c5 rs, rowE w.heap.size 26 #[.int .i64 Wn, .int .i64 Hn, .slice a n c]]) (fun _ s11 _ => m3 - (intOf s11).toNat)
  case atStart =>
    refine ⟨0, _, 0, _, Nat.zero_le _, rfl, rfl, ?_⟩
    exact hM.pick (is := [3, 0, 2, 4]) (by decide) rfl
  case round =>
    clear hM
    obtain ⟨k, a', m, c', hk, rfl, rfl, hM⟩ := hrel
    by_cases hlt : k < m3
    · obtain ⟨g, rfl, -⟩ := (hM.ints (.there .here)).head (by omega)
      have hkl : k < bs.length := by rw [HML.out]; exact hlt
      have hts := take_succ' hkl
      have hxw := HBW.out _ (getD_mem hkl)
      have hck := (hM.ints (.there .here)).cellAt hlt
      obtain ⟨x, hx⟩ : ∃ x, bs.getD k 0 = x := ⟨_, rfl⟩
      rw [hx] at hts hxw hck
      obtain ⟨y1, hy1⟩ : ∃ y, hasI rs x = y := ⟨_, rfl⟩
      obtain ⟨y2, hy2⟩ : ∃ y, hasI line x = y := ⟨_, rfl⟩
      have HTS := Lib.hid (show (bs.take (k + 1)).filter (savedP rs line) = (bs.take k).filter (savedP rs line) ++ if !y1 && !y2 then [x] else [] by
        rw [hts, List.filter_append, ← hy1, ← hy2]
        show _ ++ List.filter (savedP rs line) [x] = _ ++ if savedP rs line x then [x] else []
        cases hne : savedP rs line x <;> simp [hne])
      have HXW := Lib.hid hxw
      have HY1 := Lib.hid hy1; have HY2 := Lib.hid hy2
      have hm5 := (hM.ints .here).len
      have hfl : ((bs.take k).filter (savedP rs line)).length ≤ k := Nat.le_trans (List.length_filter_le _ _) (List.length_take_le _ _)
      have hm5b : m ≤ k := by omega
      clear hx hts hxw hkl hm5 hfl hy1 hy2
      go_wp2_with fail
      apply Mem.atA
      · (repeat' (first | with_reducible exact hM | with_reducible exact hMp | with_reducible apply Mem.drew | with_reducible apply Mem.drewN | with_reducible apply Mem.alloc | with_reducible apply Mem.set | with_reducible exact Sto.row | ((with_reducible refine Sto.rowEq2 ?_ ?_); omega; rfl) | ((with_reducible refine Sto.rowEq ?_); omega) | with_reducible apply Sto.int | with_reducible apply Sto.there | with_reducible assumption | (unfold I64; omega) | (with_reducible (have hMx := Mem.undrew hM; exact hMx)) | (with_reducible (have hMx := Mem.undrew hMp; exact hMx))))
      clear hM
      intro wst hM
      (try simp only [World.size_alloc, World.size_setCell, World.heap_drewN, heapDrew, Nat.add_assoc, Nat.reduceAdd, List.setIfInBounds_toArray, List.set_cons_zero, List.set_cons_succ, List.cons_append, List.nil_append] at hM)
      apply Calls.mono
      · (apply l1Has_any) <;> (first | (show (_ : Prop); with_reducible assumption) | (apply Hid.out; with_reducible assumption) | (apply Mem.intsR hM; (repeat' (first | with_reducible exact In.here | with_reducible apply In.there)); done) | (apply Ints.ext (hb := hM.below); with_reducible assumption) | (apply Rd.ext (hb := hM.below); with_reducible assumption) | (apply Mem.row hM; (repeat' (first | with_reducible exact In.here | with_reducible apply In.there)); done) | (apply Row.ext (hb := hM.below); with_reducible assumption) | exact ⟨by omega, by omega⟩ | omega | (trace_state; fail))
      rw [HY1.out]
      rintro e wc9 ⟨rfl, rfl⟩
      cases y1
      rotate_left
      · go_wp2
        go_roundw
        case rel =>
          refine ⟨k + 1, a', m, c', by omega, by go_num, rfl, ?_⟩
          rw [HTS.out]
          simp only [Bool.not_true, Bool.false_and, Bool.false_eq_true, if_false, List.append_nil]
          (repeat' (first | with_reducible exact hM | with_reducible exact hMp | with_reducible apply Mem.drew | with_reducible apply Mem.drewN | with_reducible apply Mem.alloc | with_reducible apply Mem.set | with_reducible exact Sto.row | ((with_reducible refine Sto.rowEq2 ?_ ?_); omega; rfl) | ((with_reducible refine Sto.rowEq ?_); omega) | with_reducible apply Sto.int | with_reducible apply Sto.there | with_reducible assumption | (unfold I64; omega) | (with_reducible (have hMx := Mem.undrew hM; exact hMx)) | (with_reducible (have hMx := Mem.undrew hMp; exact hMx))))
        case measure => simp [intOf]; omega
      go_wp2_with fail
      apply Mem.atA
      · (repeat' (first | with_reducible exact hM | with_reducible exact hMp | with_reducible apply Mem.drew | with_reducible apply Mem.drewN | with_reducible apply Mem.alloc | with_reducible apply Mem.set | with_reducible exact Sto.row | ((with_reducible refine Sto.rowEq2 ?_ ?_); omega; rfl) | ((with_reducible refine Sto.rowEq ?_); omega) | with_reducible apply Sto.int | with_reducible apply Sto.there | with_reducible assumption | (unfold I64; omega) | (with_reducible (have hMx := Mem.undrew hM; exact hMx)) | (with_reducible (have hMx := Mem.undrew hMp; exact hMx))))
      clear hM
      intro wst hM
      (try simp only [World.size_alloc, World.size_setCell, World.heap_drewN, heapDrew, Nat.add_assoc, Nat.reduceAdd, List.setIfInBounds_toArray, List.set_cons_zero, List.set_cons_succ, List.cons_append, List.nil_append] at hM)
      apply Calls.mono
      · (apply l1Has_any) <;> (first | (show (_ : Prop); with_reducible assumption) | (apply Hid.out; with_reducible assumption) | (apply Mem.intsR hM; (repeat' (first | with_reducible exact In.here | with_reducible apply In.there)); done) | (apply Ints.ext (hb := hM.below); with_reducible assumption) | (apply Rd.ext (hb := hM.below); with_reducible assumption) | (apply Mem.row hM; (repeat' (first | with_reducible exact In.here | with_reducible apply In.there)); done) | (apply Row.ext (hb := hM.below); with_reducible assumption) | exact ⟨by omega, by omega⟩ | omega | (trace_state; fail))
      rw [HY2.out]
      rintro e wc10 ⟨rfl, rfl⟩
      cases y2
      rotate_left
      · go_wp2
        go_roundw
        case rel =>
          refine ⟨k + 1, a', m, c', by omega, by go_num, rfl, ?_⟩
          rw [HTS.out]
          simp only [Bool.not_true, Bool.and_false, Bool.false_eq_true, if_false, List.append_nil]
          (repeat' (first | with_reducible exact hM | with_reducible exact hMp | with_reducible apply Mem.drew | with_reducible apply Mem.drewN | with_reducible apply Mem.alloc | with_reducible apply Mem.set | with_reducible exact Sto.row | ((with_reducible refine Sto.rowEq2 ?_ ?_); omega; rfl) | ((with_reducible refine Sto.rowEq ?_); omega) | with_reducible apply Sto.int | with_reducible apply Sto.there | with_reducible assumption | (unfold I64; omega) | (with_reducible (have hMx := Mem.undrew hM; exact hMx)) | (with_reducible (have hMx := Mem.undrew hMp; exact hMx))))
        case measure => simp [intOf]; omega
      go_wp2_with (at_builtin; apply Mem.atL; (focus ((repeat' (first | with_reducible exact hM | with_reducible exact hMp | with_reducible apply Mem.drew | with_reducible apply Mem.drewN | with_reducible apply Mem.alloc | with_reducible apply Mem.set | with_reducible exact Sto.row | ((with_reducible refine Sto.rowEq2 ?_ ?_); omega; rfl) | ((with_reducible refine Sto.rowEq ?_); omega) | with_reducible apply Sto.int | with_reducible apply Sto.there | with_reducible assumption | (unfold I64; omega) | (with_reducible (have hMx := Mem.undrew hM; exact hMx)) | (with_reducible (have hMx := Mem.undrew hMp; exact hMx)))); done)); clear hM hck; intro hM; (try simp only [World.size_alloc, World.size_setCell, World.heap_drewN, heapDrew, Nat.add_assoc, Nat.reduceAdd, List.setIfInBounds_toArray, List.set_cons_zero, List.set_cons_succ, List.cons_append, List.nil_append] at hM); refine wpList_pushI hM (fun _ => .here) HXW.out (by omega) rfl _ _ _ Try.underlying24 rfl rfl rfl ?_)
      intro a6 c6 w6 hM
      go_wp2
      go_roundw
      case rel =>
        refine ⟨k + 1, a6, m + 1, c6, by omega, by go_num, rfl, ?_⟩
        rw [HTS.out]
        exact hM
      case measure => simp [intOf]; omega
    · obtain rfl : k = m3 := by omega
      rw [List.take_of_length_le (by rw [HML.out]; exact Nat.le_refl _)] at hM
      go_wp2
      go_ret2
      rw [HF.out]
      exact ⟨a', m, c', rfl, hM.first⟩
end Go.Proofs.Ytkohfegajcmdbaa
