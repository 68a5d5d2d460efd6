/-
  The reference's l9Caps: the net of a terrain.
-/
import Derived.Test.YtojfbcgfeojdfaaGreatKFlowM
import Derived.Test.YtojfbcgfeojdfaaGreatKTouch
import Derived.Test.YtojfbcgfeojdfaaGreatKDrawSmk
import Derived.Deep.DeepCutAuto
/-
  The reference's l9Caps: the net of a terrain.
-/
namespace Go.Proofs.YtojfbcgfeojdfaaGreat
set_option linter.unusedSimpArgs false
set_option linter.unusedVariables false
open Go.RowKit

open Classical in
noncomputable def ind (P : Nat → Nat → Prop) (a b : Nat) : Int := if P a b then 1 else 0
theorem ind_or {P : Nat → Nat → Prop} {i j : Nat} (x y : Nat) : ind (fun a b => P a b ∨ (a = i ∧ b = j)) x y = if x = i ∧ y = j then 1 else ind P x y := by
  unfold ind
  by_cases e : x = i ∧ y = j
  · rw [if_pos e, if_pos (.inr e)]
  · rw [if_neg e]
    by_cases h : P x y
    · rw [if_pos h, if_pos (.inl h)]
    · rw [if_neg h, if_neg (fun h2 => h2.elim h e)]
theorem ind_iff {P Q : Nat → Nat → Prop} (h : ∀ a b, P a b ↔ Q a b) (x y : Nat) : ind P x y = ind Q x y := by
  unfold ind
  by_cases e : Q x y
  · rw [if_pos e, if_pos ((h x y).2 e)]
  · rw [if_neg e, if_neg (fun e2 => e ((h x y).1 e2))]
theorem ind_or2 {P P' : Nat → Nat → Prop} {i j : Nat} (h : ∀ p q, P' p q ↔ P p q ∨ (p = i ∧ q = j)) (x y : Nat) : ind P' x y = if x = i ∧ y = j then 1 else ind P x y := (ind_iff h x y).trans (ind_or x y)
/-- the arcs of one cell -/
def ArcX (n : Nat) (near : Nat → Nat → Bool) (burn src snk : Nat → Bool) (s t : Nat) (i o : Nat → Nat) (x a b : Nat) : Prop :=
  freeP burn src snk x = true ∧ ((a = i x ∧ b = o x) ∨ (a = s ∧ b = i x ∧ Tch n near burn src x) ∨ (a = o x ∧ b = t ∧ Tch n near burn snk x) ∨ (a = o x ∧ ∃ y, y < n ∧ freeP burn src snk y = true ∧ near x y = true ∧ b = i y))
def ArcK (n : Nat) (near : Nat → Nat → Bool) (burn src snk : Nat → Bool) (s t : Nat) (i o : Nat → Nat) (k a b : Nat) : Prop := ∃ x, x < k ∧ ArcX n near burn src snk s t i o x a b
theorem ind_arc {n : Nat} {near : Nat → Nat → Bool} {burn src snk : Nat → Bool} {s t : Nat} {i o : Nat → Nat} (a b : Nat) : capA n near burn src snk s t i o a b = ind (ArcK n near burn src snk s t i o n) a b := by
  unfold capA ind
  have e : Arc n near burn src snk s t i o a b ↔ ArcK n near burn src snk s t i o n a b := Iff.rfl
  by_cases h : Arc n near burn src snk s t i o a b
  · rw [if_pos h, if_pos (e.1 h)]
  · rw [if_neg h, if_neg (fun h2 => h (e.2 h2))]
theorem arcK_skip {n : Nat} {near : Nat → Nat → Bool} {burn src snk : Nat → Bool} {s t : Nat} {i o : Nat → Nat} {k : Nat} (h : freeP burn src snk k = false) (a b : Nat) : ArcK n near burn src snk s t i o (k + 1) a b ↔ ArcK n near burn src snk s t i o k a b := by
  constructor
  · rintro ⟨x, hx, h2⟩
    by_cases e : x = k
    · subst e
      rw [h2.1] at h
      cases h
    · exact ⟨x, by omega, h2⟩
  · rintro ⟨x, hx, h2⟩
    exact ⟨x, by omega, h2⟩
/-- the cells next to one, so far -/
def NearJ (ys : List Int) (fr : Int → Bool) (i : Nat → Nat) (j b : Nat) : Prop := ∃ m, m < j ∧ fr (ys.getD m 0) = true ∧ b = i (ys.getD m 0).toNat
theorem nearJ_succ {ys : List Int} {fr : Int → Bool} {i : Nat → Nat} {j b : Nat} : NearJ ys fr i (j + 1) b ↔ NearJ ys fr i j b ∨ (fr (ys.getD j 0) = true ∧ b = i (ys.getD j 0).toNat) := by
  constructor
  · rintro ⟨m, hm, h1, h2⟩
    by_cases e : m = j
    · subst e; exact .inr ⟨h1, h2⟩
    · exact .inl ⟨m, by omega, h1, h2⟩
  · rintro (⟨m, hm, h1, h2⟩ | ⟨h1, h2⟩)
    · exact ⟨m, by omega, h1, h2⟩
    · exact ⟨j, by omega, h1, h2⟩
theorem arcK_step {n : Nat} {near : Nat → Nat → Bool} {burn src snk : Nat → Bool} {s t : Nat} {i o : Nat → Nat} {k : Nat} (h : freeP burn src snk k = true) {ts tt : Bool} (hs : ts = true ↔ Tch n near burn src k) (ht : tt = true ↔ Tch n near burn snk k) {fr : Int → Bool} (hfr : ∀ y : Nat, y < n → fr y = freeP burn src snk y) {ys : List Int} (hys : ys = cellsN n (near k)) (a b : Nat) :
    ArcK n near burn src snk s t i o (k + 1) a b ↔ (((ArcK n near burn src snk s t i o k a b ∨ (a = i k ∧ b = o k)) ∨ (a = s ∧ b = i k ∧ ts = true)) ∨ (a = o k ∧ b = t ∧ tt = true)) ∨ (a = o k ∧ NearJ ys fr i ys.length b) := by
  have hn : NearJ ys fr i ys.length b ↔ ∃ y, y < n ∧ freeP burn src snk y = true ∧ near k y = true ∧ b = i y := by
    constructor
    · rintro ⟨m, hm, h1, h2⟩
      have hmem := getD_mem (xs := ys) hm
      rw [hys] at hmem
      obtain ⟨y, e, h3, h4⟩ := cellsN_mem.1 hmem
      rw [← hys] at e
      rw [e] at h1 h2
      rw [hfr y h3] at h1
      rw [Int.toNat_natCast] at h2
      exact ⟨y, h3, h1, h4, h2⟩
    · rintro ⟨y, h1, h2, h3, h4⟩
      have hmem : (y : Int) ∈ ys := by rw [hys]; exact cellsN_mem.2 ⟨y, rfl, h1, h3⟩
      obtain ⟨m, hm, e⟩ := List.getElem_of_mem hmem
      have e2 : ys.getD m 0 = (y : Int) := by rw [List.getD_eq_getElem?_getD, List.getElem?_eq_getElem hm, e]; rfl
      exact ⟨m, hm, by rw [e2, hfr y h1]; exact h2, by rw [e2, Int.toNat_natCast]; exact h4⟩
  rw [hn, hs, ht]
  constructor
  · rintro ⟨x, hx, h2⟩
    by_cases e : x = k
    · subst e
      rcases h2.2 with h3 | h3 | h3 | h3
      · exact .inl (.inl (.inl (.inr h3)))
      · exact .inl (.inl (.inr h3))
      · exact .inl (.inr h3)
      · exact .inr h3
    · exact .inl (.inl (.inl (.inl ⟨x, by omega, h2⟩)))
  · rintro ((((⟨x, hx, h2⟩ | h3) | h3) | h3) | h3)
    · exact ⟨x, by omega, h2⟩
    · exact ⟨k, by omega, h, .inl h3⟩
    · exact ⟨k, by omega, h, .inr (.inl h3)⟩
    · exact ⟨k, by omega, h, .inr (.inr (.inl h3))⟩
    · exact ⟨k, by omega, h, .inr (.inr (.inr h3))⟩
theorem touch_tch {W n : Nat} {xs ss : List Int} {c : Nat} : touchN W n xs ss c = true ↔ Tch n (nearN W) (brn xs) (fun k => hasI ss k) c := by
  unfold touchN Tch
  rw [List.any_eq_true]
  constructor
  · rintro ⟨d, hd, h⟩
    obtain ⟨m, rfl, h1, h2⟩ := cellsN_mem.1 hd
    rw [Bool.and_eq_true, Int.toNat_natCast] at h
    exact ⟨m, h1, h2, h.1, h.2⟩
  · rintro ⟨m, h1, h2, h3, h4⟩
    exact ⟨m, cellsN_mem.2 ⟨m, rfl, h1, h2⟩, by rw [Bool.and_eq_true, Int.toNat_natCast]; exact ⟨h3, h4⟩⟩
/-- the net of the reference: 2x and 2x + 1 are the beginning and the end of x -/
theorem net_spec (n : Nat) : Net (2 * n + 2) n (2 * n) (2 * n + 1) (fun x => 2 * x) (fun x => 2 * x + 1) (fun a => a / 2) :=
  ⟨fun x hx => by omega, fun x hx => by omega, fun x hx => by omega, fun x hx => by omega, fun x y hx hy => by omega, fun x hx => by omega, fun x hx => by omega, fun x hx => by omega, fun x hx => by omega, by omega, by omega, by omega⟩
theorem rowM_zero (N : Nat) : rowM N (fun _ => 0) = List.replicate N 0 := by simp [rowM, List.map_const']
set_option maxRecDepth 100000 in
set_option maxHeartbeats 8000000 in
theorem l9Caps_any (W Hn : Nat) (a : Option Addr) (n c : Nat) (xs : List Int) (a1 : Option Addr) (n1 c1 : Nat) (ss : List Int) (a2 : Option Addr) (n2 c2 : Nat) (ts : List Int) (w : World) (h : Ints w a n c xs) (h1 : Ints w a1 n1 c1 ss) (h2 : Ints w a2 n2 c2 ts) (hn25 : n ≤ 25) (hW : 1 ≤ W ∧ W ≤ 5) (hxs : ∀ x ∈ xs, 0 ≤ x) :
    Calls Tryz.prog 158 #[.agg #[.int .i64 W, .int .i64 Hn, .slice a n c], .slice a1 n1 c1, .slice a2 n2 c2] w fun e w' => ∃ (b cc : Nat) (bs : Nat → Nat), e = .returned (.slice (some ⟨b, 0, none⟩) (2 * n + 2) cc) ∧ Mem w.heap.size w w' [matE 24 (some ⟨b, 0, none⟩) (2 * n + 2) cc (2 * n + 2) bs (capA n (nearN W) (brn xs) (fun k => hasI ss k) (fun k => hasI ts k) (2 * n) (2 * n + 1) (fun x => 2 * x) (fun x => 2 * x + 1))] := by
  have hM := Mem.start w
  have HXS := Lib.hid hxs; clear hxs
  obtain ⟨i0, hi, hz0, hz1, hz2⟩ := info_parts Tryz.info3
  obtain ⟨j0, hj, hy0, hy1, hy2⟩ := info_parts Tryz.info24
  obtain ⟨N, hN⟩ : ∃ N, 2 * n + 2 = N := ⟨_, rfl⟩
  have HN := Lib.hid hN
  have hNb : 2 * n + 2 ≤ N ∧ N ≤ 2 * n + 2 := by omega
  rw [hN]
  clear hN
  obtain ⟨m, hm⟩ : ∃ m, 2 * n = m := ⟨_, rfl⟩
  have HMM := Lib.hid hm
  have hmb : 2 * n ≤ m ∧ m ≤ 2 * n := by omega
  have hw1 : IntKind.i64.wrap (2 * (n : Int)) = (m : Int) := by rw [wrap_in (by omega)]; omega
  have hw2 : IntKind.i64.wrap ((m : Int) + 2) = (N : Int) := by rw [wrap_in (by omega)]; omega
  clear hm
  go_enter Tryz.func158, Tryz.ntmps158
  go_wp2_with fail
  apply Mem.atWpA
  · exact memA
  clear hM
  intro wst hM
  (try simp only [World.size_alloc, World.size_setCell, World.heap_drewN, heapDrew, Nat.add_assoc, Nat.reduceAdd, sA, List.cons_append, List.nil_append] at hM)
  replace hM := Mem.toOwR (F := FSl) hM
  have hM1 : Mem w.heap.size w wst [owE FSl 24 (some ⟨w.heap.size + 1, 0, none⟩) 0 0 ([].map fun g => (⟨some ⟨g, 0, none⟩, N, N⟩ : SlI)), packE ([].map fun g => intE (some ⟨g, 0, none⟩) N N (rowM N fun _ => 0)), rowE w.heap.size 26 #[.int .i64 W, .int .i64 Hn, .slice a n c]] := by
    refine Mem.packAt [_] ?_
    exact hM
  clear hM
  go_loopw [8, 9] (fun s8 s9 wr => ∃ (k : Nat) (b' : Option Addr) (c' : Nat) (gs : List Nat), k ≤ N ∧ gs.length = k ∧ s9 = .int .i64 k ∧ s8 = .slice b' k c' ∧ Mem w.heap.size w wr [owE FSl 24 b' k c' (gs.map fun g => (⟨some ⟨g, 0, none⟩, N, N⟩ : SlI)), packE (gs.map fun g => intE (some ⟨g, 0, none⟩) N N (rowM N fun _ => 0)), rowE w.heap.size 26 #[.int .i64 W, .int .i64 Hn, .slice a n c]]) (fun _ s9 _ => N - (intOf s9).toNat)
  case atStart => exact ⟨0, _, _, [], Nat.zero_le _, rfl, rfl, rfl, hM1⟩
  case round =>
    clear hM1
    obtain ⟨k, b', c', gs, hk, hgs, rfl, rfl, hM⟩ := hrel
    have HGS := Lib.hid hgs; clear hgs
    by_cases hlt : k < N
    · skip
      go_wp2_with (at_make; apply Mem.atL; (focus ((exact memA); done)); clear hM; intro hM; refine wpList_make_full _ rfl _ _ 24 rfl _ 3 i0 (.int .i64 0) 1 Tryz.underlying24 hi hz0 hz1 .i64 .i64 N N N rfl rfl rfl rfl ?b1 ?b2 (Nat.le_refl _) ?_)
      case b1 => rw [hz2]; omega
      case b2 => unfold maxLen; omega
      intro wm hown hg
      replace hM := hM.own ((Below.refl _ _).grown hg (Nat.le_refl _) (by intro k hk; cases hk)) (own_made hown (by omega))
      clear hown hg
      obtain ⟨g, hg, -⟩ := (hM.ints .here).head (by omega)
      rw [hg] at hM ⊢
      rw [← rowM_zero] at hM
      clear hg
      go_wp2_with (at_builtin; apply Mem.atL; (focus ((exact memA); done)); clear hM; intro hM; refine wpList_pushR (F := FSl) (⟨some ⟨g, 0, none⟩, N, N⟩ : SlI) hM (fun _ => .there .here) rfl trivial (by decide) (by show (k + 1) * 1 ≤ _; omega) j0 (.slice none 0 0) 24 hj hy0 hy1 hy2 rfl (by omega) rfl _ _ _ Tryz.underlying139 rfl rfl rfl ?_)
      intro a6 c6 w6 hM
      replace hM := hM.swap.packRow
      have hmap : (gs.map fun g => intE (some ⟨g, 0, none⟩) N N (rowM N fun _ => 0)) ++ [intE (some ⟨g, 0, none⟩) N N (rowM N fun _ => 0)] = (gs ++ [g]).map fun g => intE (some ⟨g, 0, none⟩) N N (rowM N fun _ => 0) := by rw [List.map_append]; rfl
      have hmap2 : (gs.map fun g => (⟨some ⟨g, 0, none⟩, N, N⟩ : SlI)) ++ [⟨some ⟨g, 0, none⟩, N, N⟩] = (gs ++ [g]).map fun g => (⟨some ⟨g, 0, none⟩, N, N⟩ : SlI) := by rw [List.map_append]; rfl
      rw [hmap, hmap2] at hM
      clear hmap hmap2
      go_wp2
      go_roundw
      case rel => exact ⟨k + 1, a6, c6, gs ++ [g], by omega, by rw [List.length_append, HGS.out]; rfl, by go_num, rfl, hM⟩
      case measure => simp [intOf]; omega
    obtain rfl : N = k := by omega
    clear hlt hk
    have hgl := HGS.out
    rw [← hgl] at hM
    replace hM := Mem.toMat hM
    rw [hgl] at hM
    clear hgl HGS
    obtain ⟨bs, hbs⟩ : ∃ bs : Nat → Nat, (fun i => gs.getD i 0) = bs := ⟨_, rfl⟩
    rw [hbs] at hM
    obtain ⟨b, hb, -⟩ := (hM.mat .here).head (by omega)
    subst hb
    clear hbs
    replace hM := hM.matTo (M' := ind (ArcK n (nearN W) (brn xs) (fun k => hasI ss k) (fun k => hasI ts k) (2 * n) (2 * n + 1) (fun x => 2 * x) (fun x => 2 * x + 1) 0)) .here (fun x y _ _ => by unfold ind; rw [if_neg]; rintro ⟨z, hz, -⟩; omega)
    go_wp2_with fail
    go_loopw [10] (fun s10 wr => ∃ k : Nat, k ≤ n ∧ s10 = .int .i64 k ∧ Mem w.heap.size w wr [matE 24 (some ⟨b, 0, none⟩) N c' N bs (ind (ArcK n (nearN W) (brn xs) (fun k => hasI ss k) (fun k => hasI ts k) (2 * n) (2 * n + 1) (fun x => 2 * x) (fun x => 2 * x + 1) k)), rowE w.heap.size 26 #[.int .i64 W, .int .i64 Hn, .slice a n c]]) (fun s10 _ => n - (intOf s10).toNat)
    case atStart => exact ⟨0, Nat.zero_le _, rfl, hM⟩
    case round =>
      clear hM
      obtain ⟨k, hk, rfl, hM⟩ := hrel
      by_cases hlt : k < n
      · obtain ⟨ke, hke⟩ : ∃ ke, 2 * k = ke := ⟨_, rfl⟩
        obtain ⟨ko, hko⟩ : ∃ ko, 2 * k + 1 = ko := ⟨_, rfl⟩
        obtain ⟨mt, hmt⟩ : ∃ mt, 2 * n + 1 = mt := ⟨_, rfl⟩
        have hkeb : 2 * k ≤ ke ∧ ke ≤ 2 * k := by omega
        have hkob : 2 * k + 1 ≤ ko ∧ ko ≤ 2 * k + 1 := by omega
        have hmtb : 2 * n + 1 ≤ mt ∧ mt ≤ 2 * n + 1 := by omega
        have hw3 : IntKind.i64.wrap ((m : Int) + 1) = (mt : Int) := by rw [wrap_in (by omega)]; omega
        have hwe : IntKind.i64.wrap (2 * (k : Int)) = (ke : Int) := by rw [wrap_in (by omega)]; omega
        have hwo : IntKind.i64.wrap ((ke : Int) + 1) = (ko : Int) := by rw [wrap_in (by omega)]; omega
        have HKE := Lib.hid hke; have HKO := Lib.hid hko; have HMT := Lib.hid hmt
        clear hke hko hmt
        have e0 : (0 : Int) ≤ (ke : Int) := by omega
        have e1 : (ke : Int) < (N : Int) := by omega
        have o0 : (0 : Int) ≤ (ko : Int) := by omega
        have o1 : (ko : Int) < (N : Int) := by omega
        have m0 : (0 : Int) ≤ (m : Int) := by omega
        have m1 : (m : Int) < (N : Int) := by omega
        have mt0 : (0 : Int) ≤ (mt : Int) := by omega
        have mt1 : (mt : Int) < (N : Int) := by omega
        have n1e : ke < N := by omega
        have n1o : ko < N := by omega
        have n1m : m < N := by omega
        have n1t : mt < N := by omega
        obtain ⟨f, hf⟩ : ∃ f, freeN xs ss ts k = f := ⟨_, rfl⟩
        have HF := Lib.hid hf; clear hf
        obtain ⟨k1, f1, l1⟩ := hM.row (.there .here)
        go_wp2_with fail
        clear k1 f1 l1
        apply Mem.atA
        · exact memA
        clear hM
        intro wst hM
        (try simp only [World.size_alloc, World.size_setCell, World.heap_drewN, heapDrew, Nat.add_assoc, Nat.reduceAdd, sA, List.cons_append, List.nil_append] at hM)
        (first | refine (l9Free_any W Hn a n c xs a1 n1 c1 ss a2 n2 c2 ts k _ (h.ext hM.below) (h1.ext hM.below) (h2.ext hM.below) hlt).mono ?_)
        rw [HF.out]
        rintro e wc1 ⟨rfl, hb⟩
        replace hM := hM.ext hb
        clear hb
        cases f
        · go_wp2
          go_roundw
          case rel => exact ⟨k + 1, by omega, by go_num, hM.matTo .here (fun x y _ _ => ind_iff (arcK_skip (show freeP (brn xs) (fun k => hasI ss (k : Nat)) (fun k => hasI ts (k : Nat)) k = false from HF.out)) x y)⟩
          case measure => simp [intOf]; omega
        obtain ⟨t1, ht1⟩ : ∃ t1, touchN W n xs ss k = t1 := ⟨_, rfl⟩
        obtain ⟨t2, ht2⟩ : ∃ t2, touchN W n xs ts k = t2 := ⟨_, rfl⟩
        obtain ⟨ys, hys⟩ : ∃ ys, cellsN n (nearN W k) = ys := ⟨_, rfl⟩
        have HT1 := Lib.hid ht1; have HT2 := Lib.hid ht2; have HYS := Lib.hid hys
        clear ht1 ht2 hys
        obtain ⟨P1, hP1⟩ : ∃ P : Nat → Nat → Prop, ∀ p q, P p q ↔ ArcK n (nearN W) (brn xs) (fun k => hasI ss k) (fun k => hasI ts k) (2 * n) (2 * n + 1) (fun x => 2 * x) (fun x => 2 * x + 1) k p q ∨ (p = ke ∧ q = ko) := ⟨_, fun _ _ => Iff.rfl⟩
        obtain ⟨P2, hP2⟩ : ∃ P : Nat → Nat → Prop, ∀ p q, P p q ↔ P1 p q ∨ (p = m ∧ q = ke ∧ t1 = true) := ⟨_, fun _ _ => Iff.rfl⟩
        obtain ⟨P3, hP3⟩ : ∃ P : Nat → Nat → Prop, ∀ p q, P p q ↔ P2 p q ∨ (p = ko ∧ q = mt ∧ t2 = true) := ⟨_, fun _ _ => Iff.rfl⟩
        obtain ⟨P4, hP4⟩ : ∃ P : Nat → Nat → Nat → Prop, ∀ j p q, P j p q ↔ P3 p q ∨ (p = ko ∧ NearJ ys (fun y => freeN xs ss ts y.toNat) (fun x => 2 * x) j q) := ⟨_, fun _ _ _ => Iff.rfl⟩
        have hfin : ∀ p q, ArcK n (nearN W) (brn xs) (fun k => hasI ss k) (fun k => hasI ts k) (2 * n) (2 * n + 1) (fun x => 2 * x) (fun x => 2 * x + 1) (k + 1) p q ↔ P4 ys.length p q := fun p q => by
          rw [hP4, hP3, hP2, hP1, arcK_step (fr := fun y => freeN xs ss ts y.toNat) (ys := ys) (ts := t1) (tt := t2) (show freeP (brn xs) (fun k => hasI ss (k : Nat)) (fun k => hasI ts (k : Nat)) k = true from HF.out) (by rw [← HT1.out]; exact touch_tch) (by rw [← HT2.out]; exact touch_tch) (fun y _ => by rw [Int.toNat_natCast]; rfl) HYS.out.symm]
          rw [← HKO.out, ← HKE.out, ← HMT.out, ← HMM.out]
        have H1 := Lib.hid hP1; have H2 := Lib.hid hP2; have H3 := Lib.hid hP3; have H4 := Lib.hid hP4; have HFIN := Lib.hid hfin
        clear hP1 hP2 hP3 hP4 hfin
        have hsl := (hM.mat .here).sl n1e
        have hml := (hM.mat .here).lt n1e
        have hmb2 := (hM.mat .here).ltb
        have hat := (hM.mat .here).at n1e n1o
        have hfe := (hM.mat .here).free n1e ko
        go_upto_region 12 with fail
        clear hsl hml hmb2 hat hfe
        apply Mem.atWpA (hM.matSet (M' := ind P1) .here n1e (by unfold I64; omega) (ind_or2 H1.out))
        clear hM
        intro wst hM
        obtain ⟨k1, f1, l1⟩ := hM.row (.there .here)
        go_wp2_with fail
        clear k1 f1 l1
        apply Mem.atA
        · exact memA
        clear hM
        intro wst hM
        (try simp only [World.size_alloc, World.size_setCell, World.heap_drewN, heapDrew, Nat.add_assoc, Nat.reduceAdd, sA, List.cons_append, List.nil_append] at hM)
        (first | refine (l9Touch_any W Hn a n c xs k a1 n1 c1 ss _ (h.ext hM.below) (h1.ext hM.below) hn25 hW hlt HXS.out).mono ?_)
        rw [HT1.out]
        rintro e wc2 ⟨rfl, hb⟩
        replace hM := hM.ext hb
        clear hb
        go_upto_if 54 with fail
        go_cut [] (fun wx => Mem w.heap.size w wx [matE 24 (some ⟨b, 0, none⟩) N c' N bs (ind P2), rowE w.heap.size 26 #[.int .i64 W, .int .i64 Hn, .slice a n c]])
        case first =>
          cases t1
          · go_wp2_with fail
            go_meet
            exact hM.matTo .here (fun x y _ _ => ind_iff (fun p q => by rw [H2.out]; simp) x y)
          · have hsl := (hM.mat .here).sl n1m
            have hml := (hM.mat .here).lt n1m
            have hmb2 := (hM.mat .here).ltb
            have hat := (hM.mat .here).at n1m n1e
            have hfe := (hM.mat .here).free n1m ke
            go_wp2_with fail
            go_meet
            exact hM.matSet (M' := ind P2) .here n1m (by unfold I64; omega) (ind_or2 (fun p q => by rw [H2.out]; simp))
        case rest =>
          clear hM
          have hM := hcut
          clear hcut
          obtain ⟨k1, f1, l1⟩ := hM.row (.there .here)
          go_wp2_with fail
          clear k1 f1 l1
          apply Mem.atA
          · exact memA
          clear hM
          intro wst hM
          (try simp only [World.size_alloc, World.size_setCell, World.heap_drewN, heapDrew, Nat.add_assoc, Nat.reduceAdd, sA, List.cons_append, List.nil_append] at hM)
          (first | refine (l9Touch_any W Hn a n c xs k a2 n2 c2 ts _ (h.ext hM.below) (h2.ext hM.below) hn25 hW hlt HXS.out).mono ?_)
          rw [HT2.out]
          rintro e wc3 ⟨rfl, hb⟩
          replace hM := hM.ext hb
          clear hb
          go_upto_if 66 with fail
          go_cut [] (fun wx => Mem w.heap.size w wx [matE 24 (some ⟨b, 0, none⟩) N c' N bs (ind P3), rowE w.heap.size 26 #[.int .i64 W, .int .i64 Hn, .slice a n c]])
          case first =>
            cases t2
            · go_wp2_with fail
              go_meet
              exact hM.matTo .here (fun x y _ _ => ind_iff (fun p q => by rw [H3.out]; simp) x y)
            · have hsl := (hM.mat .here).sl n1o
              have hml := (hM.mat .here).lt n1o
              have hmb2 := (hM.mat .here).ltb
              have hat := (hM.mat .here).at n1o n1t
              have hfe := (hM.mat .here).free n1o mt
              go_wp2_with fail
              go_meet
              exact hM.matSet (M' := ind P3) .here n1o (by unfold I64; omega) (ind_or2 (fun p q => by rw [H3.out]; simp))
          case rest =>
            clear hM
            have hM := hcut
            clear hcut
            obtain ⟨k1, f1, l1⟩ := hM.row (.there .here)
            go_wp2_with fail
            clear k1 f1 l1
            apply Mem.atA
            · exact memA
            clear hM
            intro wst hM
            (try simp only [World.size_alloc, World.size_setCell, World.heap_drewN, heapDrew, Nat.add_assoc, Nat.reduceAdd, sA, List.cons_append, List.nil_append] at hM)
            (first | refine (l2Near_any W Hn a n c xs k _ (h.ext hM.below) hn25 hW (by omega)).mono ?_)
            rw [HYS.out]
            rintro e w5 ⟨y', ym, yc, rfl, hm⟩
            replace hM := hM.join hm
            clear hm
            (try simp only [World.size_alloc, World.size_setCell, World.heap_drewN, heapDrew, Nat.add_assoc, Nat.reduceAdd, sA, List.cons_append, List.nil_append] at hM)
            obtain rfl : ym = ys.length := (hM.ints .here).len.symm
            have hyl : ys.length ≤ 25 := by rw [← HYS.out]; exact Nat.le_trans (cellsN_length _ _) hn25
            replace hM := hM.matTo (M' := ind (P4 0)) (.there .here) (fun x y _ _ => ind_iff (fun p q => (H4.out 0 p q).trans ⟨fun h => h.elim id (fun h => by obtain ⟨-, z, hz, -⟩ := h; omega), .inl⟩) x y)
            go_wp2_with fail
            go_loopw [12] (fun s12 wr => ∃ j : Nat, j ≤ ys.length ∧ s12 = .int .i64 j ∧ Mem w.heap.size w wr [intE y' ys.length yc ys, matE 24 (some ⟨b, 0, none⟩) N c' N bs (ind (P4 j)), rowE w.heap.size 26 #[.int .i64 W, .int .i64 Hn, .slice a n c]]) (fun s12 _ => ys.length - (intOf s12).toNat)
            case atStart => exact ⟨0, Nat.zero_le _, rfl, hM⟩
            case round =>
              clear hM
              obtain ⟨j, hj, rfl, hM⟩ := hrel
              by_cases hjl : j < ys.length
              · obtain ⟨gy, rfl, -⟩ := (hM.ints .here).head (by omega)
                obtain ⟨d, hd, hdn⟩ : ∃ d : Nat, ys.getD j 0 = d ∧ d < n := by
                  have hm := getD_mem hjl
                  rw [← HYS.out] at hm
                  obtain ⟨d, e, hd, -⟩ := cellsN_mem.1 hm
                  exact ⟨d, by rw [← HYS.out]; exact e, hd⟩
                have HD := Lib.hid hd; clear hd
                obtain ⟨f2, hf2⟩ : ∃ f2, freeN xs ss ts d = f2 := ⟨_, rfl⟩
                have HF2 := Lib.hid hf2; clear hf2
                obtain ⟨dd, hdd⟩ : ∃ dd, 2 * d = dd := ⟨_, rfl⟩
                have hddb : 2 * d ≤ dd ∧ dd ≤ 2 * d := by omega
                have HDD := Lib.hid hdd; clear hdd
                have hwd : IntKind.i64.wrap (2 * (d : Int)) = (dd : Int) := by rw [wrap_in (by omega)]; omega
                have d0 : (0 : Int) ≤ (dd : Int) := by omega
                have d1 : (dd : Int) < (N : Int) := by omega
                have n1d : dd < N := by omega
                have j0 : (0 : Int) ≤ (j : Int) := by omega
                have j1 : (j : Int) < (ys.length : Int) := by omega
                obtain ⟨k2, f2, l2⟩ := hM.row (.there (.there .here))
                go_upto_region 20 with fail
                clear k2 f2 l2
                apply Mem.atWpA
                · exact memA
                clear hM
                intro wst hM
                (try simp only [World.size_alloc, World.size_setCell, World.heap_drewN, heapDrew, Nat.add_assoc, Nat.reduceAdd, sA, List.cons_append, List.nil_append] at hM)
                refine AtF.startA hM hM 7 (by kernel_rfl) ?_
                clear hM
                intro wd hM
                have hS := hM
                refine AtF.tp 0 ?_ 86 [] ?_ hS ?_
                rotate_left
                · (intro wS hSw; (try dsimp only at hSw); have kr0 := (Mem.row hSw (.there (.there .here))).cell; have hce := (hSw.ints .here).cellAt hjl; rw [HD.out] at hce; go_simp; (try rw [if_neg (by omega)]); try with_reducible rfl)
                simp only [Act.put, sA]
                refine AtF.tp 1 ?_ 87 [] ?_ hS ?_
                rotate_left
                · (intro wS hSw; (try dsimp only at hSw); go_simp; (try rw [if_neg (by omega)]); try with_reducible rfl)
                simp only [Act.put, sA]
                refine AtF.tp 2 ?_ 88 [] ?_ hS ?_
                rotate_left
                · (intro wS hSw; (try dsimp only at hSw); go_simp; (try rw [if_neg (by omega)]); try with_reducible rfl)
                simp only [Act.put, sA]
                refine AtF.tp 3 ?_ 89 [6, 5] ?_ hS ?_
                rotate_left
                · (intro wS hSw; (try dsimp only at hSw); go_simp; (try rw [if_neg (by omega)]); try with_reducible rfl)
                simp only [Act.put, sA]
                refine AtF.tp 4 ?_ 90 [6, 5] ?_ hS ?_
                rotate_left
                · (intro wS hSw; (try dsimp only at hSw); go_simp; (try rw [if_neg (by omega)]); try with_reducible rfl)
                simp only [Act.put, sA]
                refine AtF.tp 5 ?_ 91 [6] ?_ hS ?_
                rotate_left
                · (intro wS hSw; (try dsimp only at hSw); have kr0 := (Mem.row hSw (.there (.there .here))).cell; have hce := (hSw.ints .here).cellAt hjl; rw [HD.out] at hce; go_simp; (try rw [if_neg (by omega)]); try with_reducible rfl)
                simp only [Act.put, sA]
                refine AtF.tp 6 ?_ 92 [] ?_ hS ?_
                rotate_left
                · (intro wS hSw; (try dsimp only at hSw); have kr0 := (Mem.row hSw (.there (.there .here))).cell; have hce := (hSw.ints .here).cellAt hjl; rw [HD.out] at hce; go_simp; (try rw [if_neg (by omega)]); try with_reducible rfl)
                simp only [Act.put, sA]
                refine AtF.last (by kernel_rfl) rfl (by kernel_rfl) ?_
                intro K hK
                clear hS
                go_simp
                refine (l9Free_any W Hn a n c xs a1 n1 c1 ss a2 n2 c2 ts d _ (h.ext hM.below) (h1.ext hM.below) (h2.ext hM.below) hdn).mono ?_
                rw [HF2.out]
                rintro e w6 ⟨rfl, hb⟩
                replace hM := hM.ext hb
                clear hb
                dsimp only
                refine hK.out _ _ ?_
                clear hK K
                apply Mem.atEx
                · exact memA
                clear hM
                intro wst hM
                (try simp only [World.size_alloc, World.size_setCell, World.heap_drewN, heapDrew, Nat.add_assoc, Nat.reduceAdd, sA, List.cons_append, List.nil_append] at hM)
                cases f2
                · go_wp2
                  go_roundw
                  case rel =>
                    refine ⟨j + 1, by omega, by go_num, hM.matTo (.there .here) (fun x y _ _ => ind_iff (fun p q => ?_) x y)⟩
                    rw [H4.out, H4.out, nearJ_succ, HD.out, Int.toNat_natCast, HF2.out]
                    simp
                  case measure => simp [intOf]; omega
                · skip
                  go_upto_region 21 with fail
                  apply Mem.atWpA
                  · exact memA
                  clear hM
                  intro wst hM
                  (try simp only [World.size_alloc, World.size_setCell, World.heap_drewN, heapDrew, Nat.add_assoc, Nat.reduceAdd, sA, List.cons_append, List.nil_append] at hM)
                  refine AtF.startA hM hM 12 (by kernel_rfl) ?_
                  clear hM
                  intro wd hM
                  have hS := hM
                  refine AtF.tp 0 ?_ 94 [] ?_ hS ?_
                  rotate_left
                  · (intro wS hSw; (try dsimp only at hSw); go_simp; (try rw [if_neg (by omega)]); try with_reducible rfl)
                  simp only [Act.put, sA]
                  refine AtF.tp 1 ?_ 95 [] ?_ hS ?_
                  rotate_left
                  · (intro wS hSw; (try dsimp only at hSw); go_simp; (try rw [if_neg (by omega)]); try with_reducible rfl)
                  simp only [Act.put, sA]
                  refine AtF.tp 2 ?_ 96 [] ?_ hS ?_
                  rotate_left
                  · (intro wS hSw; (try dsimp only at hSw); go_simp; (try rw [if_neg (by omega)]); try with_reducible rfl)
                  simp only [Act.put, sA]
                  refine AtF.tp 3 ?_ 97 [] ?_ hS ?_
                  rotate_left
                  · (intro wS hSw; (try dsimp only at hSw); go_simp; (try rw [if_neg (by omega)]); try with_reducible rfl)
                  simp only [Act.put, sA]
                  refine AtF.tp 4 ?_ 98 [] ?_ hS ?_
                  rotate_left
                  · (intro wS hSw; (try dsimp only at hSw); have hce := (hSw.ints .here).cellAt hjl; rw [HD.out] at hce; have hsl := (hSw.mat (.there .here)).sl n1o; have hml := (hSw.mat (.there .here)).lt n1o; have hmb2 := (hSw.mat (.there .here)).ltb; go_simp; (try rw [if_neg (by omega)]); try with_reducible rfl)
                  simp only [Act.put, sA]
                  refine AtF.tp 5 ?_ 99 [] ?_ hS ?_
                  rotate_left
                  · (intro wS hSw; (try dsimp only at hSw); have hce := (hSw.ints .here).cellAt hjl; rw [HD.out] at hce; have hsl := (hSw.mat (.there .here)).sl n1o; have hml := (hSw.mat (.there .here)).lt n1o; have hmb2 := (hSw.mat (.there .here)).ltb; go_simp; (try rw [if_neg (by omega)]); try with_reducible rfl)
                  simp only [Act.put, sA]
                  refine AtF.tp 6 ?_ 100 [] ?_ hS ?_
                  rotate_left
                  · (intro wS hSw; (try dsimp only at hSw); go_simp; (try rw [if_neg (by omega)]); try with_reducible rfl)
                  simp only [Act.put, sA]
                  refine AtF.tp 7 ?_ 101 [] ?_ hS ?_
                  rotate_left
                  · (intro wS hSw; (try dsimp only at hSw); go_simp; (try rw [if_neg (by omega)]); try with_reducible rfl)
                  simp only [Act.put, sA]
                  refine AtF.tp 8 ?_ 102 [] ?_ hS ?_
                  rotate_left
                  · (intro wS hSw; (try dsimp only at hSw); have hce := (hSw.ints .here).cellAt hjl; rw [HD.out] at hce; have hsl := (hSw.mat (.there .here)).sl n1o; have hml := (hSw.mat (.there .here)).lt n1o; have hmb2 := (hSw.mat (.there .here)).ltb; go_simp; (try rw [if_neg (by omega)]); try with_reducible rfl)
                  simp only [Act.put, sA]
                  refine AtF.tp 9 ?_ 103 [] ?_ hS ?_
                  rotate_left
                  · (intro wS hSw; (try dsimp only at hSw); have hce := (hSw.ints .here).cellAt hjl; rw [HD.out] at hce; have hsl := (hSw.mat (.there .here)).sl n1o; have hml := (hSw.mat (.there .here)).lt n1o; have hmb2 := (hSw.mat (.there .here)).ltb; go_simp; (try rw [if_neg (by omega)]); try with_reducible rfl)
                  simp only [Act.put, sA]
                  refine AtF.tp 10 ?_ 104 [] ?_ hS ?_
                  rotate_left
                  · (intro wS hSw; (try dsimp only at hSw); go_simp; (try rw [if_neg (by omega)]); try with_reducible rfl)
                  simp only [Act.put, sA]
                  refine AtF.tp 11 ?_ 105 [] ?_ hS ?_
                  rotate_left
                  · (intro wS hSw; (try dsimp only at hSw); have hce := (hSw.ints .here).cellAt hjl; rw [HD.out] at hce; have hsl := (hSw.mat (.there .here)).sl n1o; have hml := (hSw.mat (.there .here)).lt n1o; have hmb2 := (hSw.mat (.there .here)).ltb; go_simp; (try rw [if_neg (by omega)]); try with_reducible rfl)
                  simp only [Act.put, sA]
                  refine AtF.last (by kernel_rfl) rfl (by kernel_rfl) ?_
                  intro K hK
                  clear hS
                  have hml := (hM.mat (.there .here)).lt n1o
                  have hat := (hM.mat (.there .here)).at n1o n1d
                  have hfe := (hM.mat (.there .here)).free n1o dd
                  go_simp
                  refine hK.out _ _ ?_
                  clear hK K
                  apply Mem.atEx (hM.matSet (M' := ind (P4 (j + 1))) (.there .here) n1o (by unfold I64; omega) (ind_or2 (fun p q => by rw [H4.out, H4.out, nearJ_succ, HD.out, Int.toNat_natCast, HF2.out, HDD.out, and_or_left, or_assoc]; simp)))
                  clear hM hml hat hfe
                  intro wst hM
                  go_wp2
                  go_roundw
                  case rel => exact ⟨j + 1, by omega, by go_num, hM⟩
                  case measure => simp [intOf]; omega
              · obtain rfl : j = ys.length := by omega
                go_wp2
                go_roundw
                case rel => exact ⟨k + 1, by omega, by go_num, hM.tail.matTo .here (fun x y _ _ => ind_iff HFIN.out x y)⟩
                case measure => simp [intOf]; omega
      · obtain rfl : n = k := by omega
        replace hM := hM.matTo (M' := capA n (nearN W) (brn xs) (fun k => hasI ss k) (fun k => hasI ts k) (2 * n) (2 * n + 1) (fun x => 2 * x) (fun x => 2 * x + 1)) .here (fun x y _ _ => ind_arc x y)
        go_wp2
        go_ret
        exact ⟨b, c', bs, rfl, hM.first⟩
end Go.Proofs.YtojfbcgfeojdfaaGreat
