/-
  The reference's draws of stores.
-/
import Derived.Test.YtfnaenekdenmkaaYDrawOrd2
import Derived.Test.YtfnaenekdenmkaaYStrW
import Derived.Test.YtfnaenekdenmkaaYRegF
import Derived.Test.YtfnaenekdenmkaaYByt2
import Derived.Test.YtfnaenekdenmkaaYApp
/-
  The reference's draws of stores.
-/
namespace Go.Proofs.Ytfnaenekdenmkaa
set_option linter.unusedSimpArgs false
set_option linter.unusedVariables false
open Go.RowKit

/-- what a place leaves aside, as one -/
theorem At.headS {G : List Ent} {e : Ent} {F : Ent → List Ent} (p : At G e F) : ∃ R, ∀ (B : Nat) (w0 w : World) (X : List Ent) (e1 : Ent), Mem B w0 w (X ++ F e1) ↔ Mem B w0 w (X ++ [e1, packE R]) := by
  obtain ⟨G1, G2, rfl, h2⟩ := p
  refine ⟨G1 ++ G2, fun B w0 w X e1 => ?_⟩
  rw [h2]
  have hp : (X ++ (G1 ++ e1 :: G2)).Perm ((X ++ [e1]) ++ (G1 ++ G2 ++ [])) := by
    rw [List.append_nil, List.append_assoc]
    exact (List.perm_middle (l₁ := G1) (a := e1) (l₂ := G2)).append_left X
  constructor
  · intro h
    have h1 := Mem.packAt (X ++ [e1]) (G := G1 ++ G2) (Y := []) (h.perm hp)
    simpa using h1
  · intro h
    have h1 : Mem B w0 w ((X ++ [e1]) ++ packE (G1 ++ G2) :: []) := by simpa using h
    exact (Mem.unpackAt (X ++ [e1]) h1).perm hp.symm
def HeadS (F : Ent → List Ent) (R : List Ent) : Prop := ∀ (B : Nat) (w0 w : World) (X : List Ent) (e1 : Ent), Mem B w0 w (X ++ F e1) ↔ Mem B w0 w (X ++ [e1, packE R])
theorem HeadS.in0 {B : Nat} {w0 w : World} {F : Ent → List Ent} {R : List Ent} {e : Ent} (h : HeadS F R) (hM : Mem B w0 w (F e)) : Mem B w0 w [e, packE R] := (h B w0 w [] e).1 hM
theorem HeadS.out1 {B : Nat} {w0 w : World} {F : Ent → List Ent} {R : List Ent} {e x : Ent} (h : HeadS F R) (hM : Mem B w0 w [x, e, packE R]) : Mem B w0 w (x :: F e) := (h B w0 w [x] e).2 hM
def okSt (x : StockI) : Prop := x.kd.length ≤ 20 ∧ (-1 ≤ x.ct ∧ x.ct ≤ 100)
theorem okSt_wf {x : StockI} (h : okSt x) : FStock.wf x := by
  obtain ⟨e, ⟨c, d⟩⟩ := h
  refine ⟨by show x.kd.length ≤ maxLen; unfold maxLen; omega, ?_⟩
  show I64 x.ct
  unfold I64; omega
def allSt (xs : List StockI) : Prop := ∀ x ∈ xs, okSt x
theorem allSt_nil : allSt [] := by intro x hx; cases hx
theorem allSt_snoc {xs : List StockI} {y : StockI} (h : allSt xs) (hy : okSt y) : allSt (xs ++ [y]) := by
  intro x hx
  rcases List.mem_append.1 hx with hx | hx
  · exact h x hx
  · obtain rfl := List.mem_singleton.1 hx
    exact hy
theorem kinds_get {k : Nat} (h : k < 4) : ∃ s : Bs, (#[.string ⟨#[99, 114, 101, 119]⟩, .string ⟨#[100, 111, 122, 101, 114]⟩, .string ⟨#[101, 110, 103, 105, 110, 101]⟩, .string ⟨#[116, 101, 110, 100, 101, 114]⟩] : Array Value)[k]? = some (.string (bsA s)) ∧ s.length ≤ 20 := by
  rcases (by omega : k = 0 ∨ k = 1 ∨ k = 2 ∨ k = 3) with rfl | rfl | rfl | rfl
  · exact ⟨[99, 114, 101, 119], rfl, by decide⟩
  · exact ⟨[100, 111, 122, 101, 114], rfl, by decide⟩
  · exact ⟨[101, 110, 103, 105, 110, 101], rfl, by decide⟩
  · exact ⟨[116, 101, 110, 100, 101, 114], rfl, by decide⟩
set_option maxRecDepth 100000 in
set_option maxHeartbeats 8000000 in
theorem store_any {g : Nat} {ac : Option Addr} {nc cc : Nat} {l : List UInt8} {A : Nat} {w0 w : World} {G : List Ent} {F : Ent → List Ent} (hC : Rd FByt w0 ac nc cc l) (hM : Mem w0.heap.size w0 w G) (p : At G (curE g ac nc cc A) F) (hA : A ≤ 10000000) :
    Calls Try.prog 70 #[.pointer (some ⟨g, 0, none⟩)] w fun e w' => ∃ (a' : Option Addr) (c' : Nat) (xs : List StockI), xs.length ≤ 16 ∧ allSt xs ∧ e = .returned (.slice a' xs.length c') ∧ Mem w0.heap.size w0 w' (owE FStock 46 a' xs.length c' xs :: F (curE g ac nc cc (A + 100))) := by
  obtain ⟨R, hR⟩ : ∃ R, HeadS F R := p.headS
  have HR := Lib.hid hR
  have HC := Lib.hid hC
  rw [← p.self] at hM
  replace hM := hR.in0 hM
  clear p hC hR
  obtain ⟨i0, hi, hz0, hz1, hz2⟩ := info_parts Try.info46
  go_enter Try.func70, Try.ntmps70
  go_upto_region 2 with fail
  apply Mem.atWpA
  · (repeat' (first | with_reducible exact hM | with_reducible exact hMp | with_reducible apply Mem.drew | with_reducible apply Mem.drewN | with_reducible apply Mem.alloc | with_reducible apply Mem.set | with_reducible exact Sto.row | ((with_reducible refine Sto.rowEq2 ?_ ?_); omega; rfl) | ((with_reducible refine Sto.rowEq ?_); omega) | with_reducible apply Sto.int | with_reducible apply Sto.there | with_reducible assumption | (unfold I64; omega) | (with_reducible (have hMx := Mem.undrew hM; exact hMx)) | (with_reducible (have hMx := Mem.undrew hMp; exact hMx))))
  clear hM
  intro wst hM
  (try simp only [World.size_alloc, World.size_setCell, World.heap_drewN, heapDrew, Nat.add_assoc, Nat.reduceAdd, List.setIfInBounds_toArray, List.set_cons_zero, List.set_cons_succ, List.cons_append, List.nil_append] at hM)
  replace hM := Mem.toOwR (F := FStock) hM
  go_wp2_with fail
  apply Mem.atWp
  · (repeat' (first | with_reducible exact hM | with_reducible exact hMp | with_reducible apply Mem.drew | with_reducible apply Mem.drewN | with_reducible apply Mem.alloc | with_reducible apply Mem.set | with_reducible exact Sto.row | ((with_reducible refine Sto.rowEq2 ?_ ?_); omega; rfl) | ((with_reducible refine Sto.rowEq ?_); omega) | with_reducible apply Sto.int | with_reducible apply Sto.there | with_reducible assumption | (unfold I64; omega) | (with_reducible (have hMx := Mem.undrew hM; exact hMx)) | (with_reducible (have hMx := Mem.undrew hMp; exact hMx))))
  clear hM
  intro hM
  generalize wst.heap.size = kb at hM ⊢
  replace hM := hM.pick (is := [1, 0, 2, 3]) (by decide) rfl
  go_loopw [3, 5] (fun s3 s5 wr => ∃ (k : Nat) (a' : Option Addr) (c' : Nat) (xs : List StockI), k ≤ 4 ∧ s5 = .int .i64 k ∧ s3 = .slice a' xs.length c' ∧ xs.length ≤ k ∧ Hid (allSt xs) ∧ Mem w0.heap.size w0 wr [owE FStock 46 a' xs.length c' xs, rowE kb 9 #[.string ⟨#[99, 114, 101, 119]⟩, .string ⟨#[100, 111, 122, 101, 114]⟩, .string ⟨#[101, 110, 103, 105, 110, 101]⟩, .string ⟨#[116, 101, 110, 100, 101, 114]⟩], curE g ac nc cc (A + 4 * k), packE R]) (fun _ s5 _ => 4 - (intOf s5).toNat)
  case atStart => exact ⟨0, _, _, [], Nat.zero_le _, rfl, rfl, Nat.zero_le _, Lib.hid allSt_nil, hM⟩
  case round =>
    clear hM
    obtain ⟨k, a', c', xs, hk, rfl, rfl, hxk, HX, hM⟩ := hrel
    obtain ⟨A2, hA2⟩ : ∃ A2, A + 4 * k = A2 := ⟨_, rfl⟩
    rw [hA2] at hM
    have hA3 : A2 ≤ A + 16 := by omega
    have HA2 := Lib.hid hA2
    clear hA2
    by_cases hlt : k < 4
    · have ki0 : (0 : Int) ≤ (k : Int) := by omega
      have ki1 : (k : Int) < 4 := by omega
      go_wp2_with fail
      apply Mem.atA
      · (repeat' (first | with_reducible exact hM | with_reducible exact hMp | with_reducible apply Mem.drew | with_reducible apply Mem.drewN | with_reducible apply Mem.alloc | with_reducible apply Mem.set | with_reducible exact Sto.row | ((with_reducible refine Sto.rowEq2 ?_ ?_); omega; rfl) | ((with_reducible refine Sto.rowEq ?_); omega) | with_reducible apply Sto.int | with_reducible apply Sto.there | with_reducible assumption | (unfold I64; omega) | (with_reducible (have hMx := Mem.undrew hM; exact hMx)) | (with_reducible (have hMx := Mem.undrew hMp; exact hMx))))
      clear hM
      intro wst hM
      (try simp only [World.size_alloc, World.size_setCell, World.heap_drewN, heapDrew, Nat.add_assoc, Nat.reduceAdd, List.setIfInBounds_toArray, List.set_cons_zero, List.set_cons_succ, List.cons_append, List.nil_append] at hM)
      (first | refine (one_any 4 HC.out hM (.there (.there .here)) (by omega)).mono ?_)
      rintro e wc1 ⟨b, rfl, hm⟩
      clear hM
      have hM := hm
      clear hm
      try dsimp only at hM
      cases b
      · obtain ⟨s, hs, hs20⟩ := kinds_get hlt
        have HS := Lib.hid hs; clear hs
        go_upto_region 7 with fail
        apply Mem.atWpA
        · (repeat' (first | with_reducible exact hM | with_reducible exact hMp | with_reducible apply Mem.drew | with_reducible apply Mem.drewN | with_reducible apply Mem.alloc | with_reducible apply Mem.set | with_reducible exact Sto.row | ((with_reducible refine Sto.rowEq2 ?_ ?_); omega; rfl) | ((with_reducible refine Sto.rowEq ?_); omega) | with_reducible apply Sto.int | with_reducible apply Sto.there | with_reducible assumption | (unfold I64; omega) | (with_reducible (have hMx := Mem.undrew hM; exact hMx)) | (with_reducible (have hMx := Mem.undrew hMp; exact hMx))))
        clear hM
        intro wst hM
        (try simp only [World.size_alloc, World.size_setCell, World.heap_drewN, heapDrew, Nat.add_assoc, Nat.reduceAdd, List.setIfInBounds_toArray, List.set_cons_zero, List.set_cons_succ, List.cons_append, List.nil_append] at hM)
        replace hM := hM.pick (is := [2, 0, 1, 3]) (by decide) rfl
        dsimp only [List.filterMap_cons, List.filterMap_nil, List.getElem?_cons_zero, List.getElem?_cons_succ] at hM
        refine AtF.startA hM.tail.tail hM 11 (by kernel_rfl) ?_
        clear hM
        intro wd hM
        have hS := hM.tail.tail
        refine AtF.taked (i := 0) (v := ?_) (some 18) rfl rfl (by kernel_rfl) (by kernel_rfl) (by kernel_rfl) (anc_path [] _ _ (by kernel_rfl) (by kernel_rfl)) (fun _ _ _ h => h) (Or.inl ⟨by kernel_rfl, ?_⟩) hS rfl ?_
        rotate_left
        · (intro wS hSw; (try dsimp only at hSw); go_simp; (try rw [if_neg (by omega)]); try with_reducible rfl)
        simp only [Act.put, List.setIfInBounds_toArray, List.set_cons_zero, List.set_cons_succ]
        refine AtF.taked (i := 1) (v := ?_) (some 19) rfl rfl (by kernel_rfl) (by kernel_rfl) (by kernel_rfl) (anc_path [] _ _ (by kernel_rfl) (by kernel_rfl)) (fun _ _ _ h => h) (Or.inl ⟨by kernel_rfl, ?_⟩) hS rfl ?_
        rotate_left
        · (intro wS hSw; (try dsimp only at hSw); go_simp; (try rw [if_neg (by omega)]); try with_reducible rfl)
        simp only [Act.put, List.setIfInBounds_toArray, List.set_cons_zero, List.set_cons_succ]
        refine AtF.taked (i := 2) (v := ?_) (some 20) rfl rfl (by kernel_rfl) (by kernel_rfl) (by kernel_rfl) (anc_path [] _ _ (by kernel_rfl) (by kernel_rfl)) (fun _ _ _ h => h) (Or.inl ⟨by kernel_rfl, ?_⟩) hS rfl ?_
        rotate_left
        · (intro wS hSw; (try dsimp only at hSw); go_simp; (try rw [if_neg (by omega)]); try with_reducible rfl)
        simp only [Act.put, List.setIfInBounds_toArray, List.set_cons_zero, List.set_cons_succ]
        refine AtF.taked (i := 3) (v := ?_) (some 21) rfl rfl (by kernel_rfl) (by kernel_rfl) (by kernel_rfl) (anc_path [] _ _ (by kernel_rfl) (by kernel_rfl)) (fun _ _ _ h => h) (Or.inl ⟨by kernel_rfl, ?_⟩) hS rfl ?_
        rotate_left
        · (intro wS hSw; (try dsimp only at hSw); have r4 := ((hSw.row .here).1 k).trans HS.out; go_simp; (try rw [if_neg (by omega)]); try with_reducible rfl)
        simp only [Act.put, List.setIfInBounds_toArray, List.set_cons_zero, List.set_cons_succ]
        refine AtF.taked (i := 4) (v := ?_) (some 22) rfl rfl (by kernel_rfl) (by kernel_rfl) (by kernel_rfl) (anc_path [] _ _ (by kernel_rfl) (by kernel_rfl)) (fun _ _ _ h => h) (Or.inl ⟨by kernel_rfl, ?_⟩) hS rfl ?_
        rotate_left
        · (intro wS hSw; (try dsimp only at hSw); have r4 := ((hSw.row .here).1 k).trans HS.out; go_simp; (try rw [if_neg (by omega)]); try with_reducible rfl)
        simp only [Act.put, List.setIfInBounds_toArray, List.set_cons_zero, List.set_cons_succ]
        refine AtF.taked (i := 5) (v := ?_) (some 23) rfl rfl (by kernel_rfl) (by kernel_rfl) (by kernel_rfl) (anc_path [] _ _ (by kernel_rfl) (by kernel_rfl)) (fun _ _ _ h => h) (Or.inl ⟨by kernel_rfl, ?_⟩) hS rfl ?_
        rotate_left
        · (intro wS hSw; (try dsimp only at hSw); go_simp; (try rw [if_neg (by omega)]); try with_reducible rfl)
        simp only [Act.put, List.setIfInBounds_toArray, List.set_cons_zero, List.set_cons_succ]
        refine AtF.only (i := 6) (by kernel_rfl) rfl rfl ?_
        intro K hK
        go_simp
        refine hK.out _ _ (by apply Mem.tail; apply Mem.tail; apply Mem.tail; (repeat' (first | with_reducible exact hM | with_reducible exact hMp | with_reducible apply Mem.drew | with_reducible apply Mem.drewN | with_reducible apply Mem.alloc | with_reducible apply Mem.set | with_reducible exact Sto.row | ((with_reducible refine Sto.rowEq2 ?_ ?_); omega; rfl) | ((with_reducible refine Sto.rowEq ?_); omega) | with_reducible apply Sto.int | with_reducible apply Sto.there | with_reducible assumption | (unfold I64; omega) | (with_reducible (have hMx := Mem.undrew hM; exact hMx)) | (with_reducible (have hMx := Mem.undrew hMp; exact hMx))))) ?_
        clear hK K hS
        have hMp := hM
        apply Mem.atF
        · (repeat' (first | with_reducible exact hM | with_reducible exact hMp | with_reducible apply Mem.drew | with_reducible apply Mem.drewN | with_reducible apply Mem.alloc | with_reducible apply Mem.set | with_reducible exact Sto.row | ((with_reducible refine Sto.rowEq2 ?_ ?_); omega; rfl) | ((with_reducible refine Sto.rowEq ?_); omega) | with_reducible apply Sto.int | with_reducible apply Sto.there | with_reducible assumption | (unfold I64; omega) | (with_reducible (have hMx := Mem.undrew hM; exact hMx)) | (with_reducible (have hMx := Mem.undrew hMp; exact hMx))))
        clear hM
        intro hM
        (try simp only [World.size_alloc, World.size_setCell, World.heap_drewN, heapDrew, Nat.add_assoc, Nat.reduceAdd, List.setIfInBounds_toArray, List.set_cons_zero, List.set_cons_succ, List.cons_append, List.nil_append] at hM)
        have hS := hM.tail.tail.tail
        refine AtF.only (i := 7) (by kernel_rfl) rfl rfl ?_
        intro K hK
        go_simp
        refine (among_any [0, 1, 6, 30, 99] HC.out hM (.there .here) (fun _ => .here) rfl (by decide) (by decide) (by omega) (by decide)).mono ?_
        rintro e w3 ⟨x, hx, rfl, hm⟩
        obtain ⟨b40, b41⟩ := mem_boundO (lo := 0) (hi := 100) hx (by decide)
        clear hM hx
        have hM := hm
        clear hm
        try dsimp only at hM
        try dsimp only
        refine hK.out _ _ (hM.tail.tail.tail) ?_
        clear hK K hS
        have hS := hM.tail.tail.tail
        refine AtF.taked (i := 8) (v := ?_) (some 26) rfl rfl (by kernel_rfl) (by kernel_rfl) (by kernel_rfl) (anc_path [] _ _ (by kernel_rfl) (by kernel_rfl)) (fun _ _ _ h => h) (Or.inl ⟨by kernel_rfl, ?_⟩) hS rfl ?_
        rotate_left
        · (intro wS hSw; (try dsimp only at hSw); go_simp; (try rw [if_neg (by omega)]); try with_reducible rfl)
        simp only [Act.put, List.setIfInBounds_toArray, List.set_cons_zero, List.set_cons_succ]
        refine AtF.only (i := 9) (by kernel_rfl) rfl rfl ?_
        intro K hK
        go_simp
        refine hK.out _ _ (by apply Mem.tail; apply Mem.tail; apply Mem.tail; apply Mem.tail; (repeat' (first | with_reducible exact hM | with_reducible exact hMp | with_reducible apply Mem.drew | with_reducible apply Mem.drewN | with_reducible apply Mem.alloc | with_reducible apply Mem.set | with_reducible exact Sto.row | ((with_reducible refine Sto.rowEq2 ?_ ?_); omega; rfl) | ((with_reducible refine Sto.rowEq ?_); omega) | with_reducible apply Sto.int | with_reducible apply Sto.there | with_reducible assumption | (unfold I64; omega) | (with_reducible (have hMx := Mem.undrew hM; exact hMx)) | (with_reducible (have hMx := Mem.undrew hMp; exact hMx))))) ?_
        clear hK K hS
        have hMp := hM
        apply Mem.atF
        · (repeat' (first | with_reducible exact hM | with_reducible exact hMp | with_reducible apply Mem.drew | with_reducible apply Mem.drewN | with_reducible apply Mem.alloc | with_reducible apply Mem.set | with_reducible exact Sto.row | ((with_reducible refine Sto.rowEq2 ?_ ?_); omega; rfl) | ((with_reducible refine Sto.rowEq ?_); omega) | with_reducible apply Sto.int | with_reducible apply Sto.there | with_reducible assumption | (unfold I64; omega) | (with_reducible (have hMx := Mem.undrew hM; exact hMx)) | (with_reducible (have hMx := Mem.undrew hMp; exact hMx))))
        clear hM
        intro hM
        (try simp only [World.size_alloc, World.size_setCell, World.heap_drewN, heapDrew, Nat.add_assoc, Nat.reduceAdd, List.setIfInBounds_toArray, List.set_cons_zero, List.set_cons_succ, List.cons_append, List.nil_append] at hM)
        have hS := hM.tail.tail.tail.tail
        refine AtF.only (i := 10) (by kernel_rfl) rfl rfl ?_
        intro K hK
        have hy : okSt (⟨s, x⟩ : StockI) := ⟨hs20, by dsimp only; omega⟩
        refine step_appRM (F := FStock) hM (fun _ => (.there (.there (.there .here)))) (hM.oneRec (⟨s, x⟩ : StockI) .here rfl (okSt_wf hy) (by decide)) (by show (xs.length + 1) * 2 ≤ _; omega) i0 (.agg #[.string ⟨#[]⟩, .int .i64 0]) 24 hi hz0 hz1 hz2 rfl (by omega) rfl _ _ _ Try.underlying30 rfl rfl rfl ?_
        clear hM
        intro a6 c6 w6 hM
        try dsimp only
        refine hK.out _ _ (hM.tail.tail.tail.tail) ?_
        clear hK K hS
        have hS := hM.tail.tail.tail.tail
        refine AtF.last (by kernel_rfl) rfl (by kernel_rfl) ?_
        intro K hK
        clear hS
        go_simp
        refine hK.out _ _ ?_
        clear hK K
        have hM9 := Lib.hid (Mem.pick (is := [3, 4, 2, 5]) hM (by decide) rfl)
        have hl3 : (xs ++ [(⟨s, x⟩ : StockI)]).length = xs.length + 1 := by simp
        have HN := Lib.hid (allSt_snoc HX.out hy)
        clear hM hy
        go_wp2
        go_roundw
        case rel => exact ⟨k + 1, a6, c6, xs ++ [⟨s, x⟩], by omega, by go_num, by rw [hl3], by rw [hl3]; omega, HN, by rw [hl3]; exact hM9.out.curMore (.there (.there .here)) (by have := HA2.out; omega)⟩
        case measure => first | (simp [intOf]; done) | (simp [intOf]; omega)
      · go_wp2
        go_roundw
        case rel => exact ⟨k + 1, a', c', xs, by omega, by go_num, rfl, by omega, HX, hM.curMore (.there (.there .here)) (by have := HA2.out; omega)⟩
        case measure => first | (simp [intOf]; done) | (simp [intOf]; omega)
    · obtain rfl : k = 4 := by omega
      replace hM := hM.pick (is := [0, 2, 3]) (by decide) rfl
      dsimp only [List.filterMap_cons, List.filterMap_nil, List.getElem?_cons_zero, List.getElem?_cons_succ] at hM
      go_wp2_with fail
      apply Mem.atA
      · (repeat' (first | with_reducible exact hM | with_reducible exact hMp | with_reducible apply Mem.drew | with_reducible apply Mem.drewN | with_reducible apply Mem.alloc | with_reducible apply Mem.set | with_reducible exact Sto.row | ((with_reducible refine Sto.rowEq2 ?_ ?_); omega; rfl) | ((with_reducible refine Sto.rowEq ?_); omega) | with_reducible apply Sto.int | with_reducible apply Sto.there | with_reducible assumption | (unfold I64; omega) | (with_reducible (have hMx := Mem.undrew hM; exact hMx)) | (with_reducible (have hMx := Mem.undrew hMp; exact hMx))))
      clear hM
      intro wst hM
      (try simp only [World.size_alloc, World.size_setCell, World.heap_drewN, heapDrew, Nat.add_assoc, Nat.reduceAdd, List.setIfInBounds_toArray, List.set_cons_zero, List.set_cons_succ, List.cons_append, List.nil_append] at hM)
      (first | refine (pick_any 30 HC.out hM (.there .here) (by omega)).mono ?_)
      rintro e wc2 ⟨r, hr, hr2, rfl, hm⟩
      clear hM
      have hM := hm
      clear hm
      try dsimp only at hM
      clear hr
      by_cases h0 : r = 0
      · subst h0
        go_wp2_with fail
        apply Mem.atA
        · (repeat' (first | with_reducible exact hM | with_reducible exact hMp | with_reducible apply Mem.drew | with_reducible apply Mem.drewN | with_reducible apply Mem.alloc | with_reducible apply Mem.set | with_reducible exact Sto.row | ((with_reducible refine Sto.rowEq2 ?_ ?_); omega; rfl) | ((with_reducible refine Sto.rowEq ?_); omega) | with_reducible apply Sto.int | with_reducible apply Sto.there | with_reducible assumption | (unfold I64; omega) | (with_reducible (have hMx := Mem.undrew hM; exact hMx)) | (with_reducible (have hMx := Mem.undrew hMp; exact hMx))))
        clear hM
        intro wst hM
        (try simp only [World.size_alloc, World.size_setCell, World.heap_drewN, heapDrew, Nat.add_assoc, Nat.reduceAdd, List.setIfInBounds_toArray, List.set_cons_zero, List.set_cons_succ, List.cons_append, List.nil_append] at hM)
        (first | refine (of_any [⟨#[]⟩, ⟨#[65]⟩, ⟨#[99, 114, 101, 119]⟩, ⟨#[122, 122]⟩] HC.out hM (.there (.there .here)) (fun _ => .here) rfl (by decide) (by decide) (by omega) (by decide)).mono ?_)
        rintro e wc3 ⟨x1, hx1, rfl, hm⟩
        clear hM
        have hM := hm
        clear hm
        try dsimp only at hM
        go_wp2_with fail
        apply Mem.atA
        · (repeat' (first | with_reducible exact hM | with_reducible exact hMp | with_reducible apply Mem.drew | with_reducible apply Mem.drewN | with_reducible apply Mem.alloc | with_reducible apply Mem.set | with_reducible exact Sto.row | ((with_reducible refine Sto.rowEq2 ?_ ?_); omega; rfl) | ((with_reducible refine Sto.rowEq ?_); omega) | with_reducible apply Sto.int | with_reducible apply Sto.there | with_reducible assumption | (unfold I64; omega) | (with_reducible (have hMx := Mem.undrew hM; exact hMx)) | (with_reducible (have hMx := Mem.undrew hMp; exact hMx))))
        clear hM
        intro wst hM
        (try simp only [World.size_alloc, World.size_setCell, World.heap_drewN, heapDrew, Nat.add_assoc, Nat.reduceAdd, List.setIfInBounds_toArray, List.set_cons_zero, List.set_cons_succ, List.cons_append, List.nil_append] at hM)
        (first | refine (among_any [0, -1, 100] HC.out hM (.there (.there (.there .here))) (fun _ => .here) rfl (by decide) (by decide) (by omega) (by decide)).mono ?_)
        rintro e wc4 ⟨x2, hx2, rfl, hm⟩
        clear hM
        have hM := hm
        clear hm
        try dsimp only at hM
        have hs1 := smallO_of hx1 (by decide)
        obtain ⟨b40, b41⟩ := mem_boundO (lo := -1) (hi := 100) hx2 (by decide)
        clear hx1 hx2
        have hy : okSt (⟨bl x1, x2⟩ : StockI) := ⟨hs1, by dsimp only; omega⟩
        have HY := Lib.hid hy; clear hy
        go_wp2_with (at_builtin; apply Mem.atL; (focus ((repeat' (first | with_reducible exact hM | with_reducible exact hMp | with_reducible apply Mem.drew | with_reducible apply Mem.drewN | with_reducible apply Mem.alloc | with_reducible apply Mem.set | with_reducible exact Sto.row | ((with_reducible refine Sto.rowEq2 ?_ ?_); omega; rfl) | ((with_reducible refine Sto.rowEq ?_); omega) | with_reducible apply Sto.int | with_reducible apply Sto.there | with_reducible assumption | (unfold I64; omega) | (with_reducible (have hMx := Mem.undrew hM; exact hMx)) | (with_reducible (have hMx := Mem.undrew hMp; exact hMx)))); done)); clear hM; intro hM; refine wpList_pushR (F := FStock) (⟨bl x1, x2⟩ : StockI) hM (fun _ => .there (.there .here)) rfl (okSt_wf HY.out) (by decide) (by show (xs.length + 1) * 2 ≤ _; omega) i0 (.agg #[.string ⟨#[]⟩, .int .i64 0]) 24 hi hz0 hz1 hz2 rfl (by omega) rfl _ _ _ Try.underlying30 rfl rfl rfl ?_)
        intro a3 c3 w3 hM
        have hl3 : (xs ++ [(⟨bl x1, x2⟩ : StockI)]).length = xs.length + 1 := by simp
        have HN := Lib.hid (allSt_snoc HX.out HY.out)
        have hM9 := Lib.hid (hM.tail.tail)
        clear hM
        go_wp2
        go_ret
        exact ⟨a3, c3, xs ++ [⟨bl x1, x2⟩], by rw [hl3]; omega, HN.out, by rw [hl3]; rfl, by rw [hl3]; exact HR.out.out1 (hM9.out.curMore (.there .here) (by have := HA2.out; omega))⟩
      by_cases h1 : r = 1
      · subst h1
        go_upto_region 13 with fail
        apply Mem.atWpA
        · (repeat' (first | with_reducible exact hM | with_reducible exact hMp | with_reducible apply Mem.drew | with_reducible apply Mem.drewN | with_reducible apply Mem.alloc | with_reducible apply Mem.set | with_reducible exact Sto.row | ((with_reducible refine Sto.rowEq2 ?_ ?_); omega; rfl) | ((with_reducible refine Sto.rowEq ?_); omega) | with_reducible apply Sto.int | with_reducible apply Sto.there | with_reducible assumption | (unfold I64; omega) | (with_reducible (have hMx := Mem.undrew hM; exact hMx)) | (with_reducible (have hMx := Mem.undrew hMp; exact hMx))))
        clear hM
        intro wst hM
        (try simp only [World.size_alloc, World.size_setCell, World.heap_drewN, heapDrew, Nat.add_assoc, Nat.reduceAdd, List.setIfInBounds_toArray, List.set_cons_zero, List.set_cons_succ, List.cons_append, List.nil_append] at hM)
        replace hM := Mem.toOwR (F := FStock) hM
        replace hM := hM.pick (is := [0, 2, 3]) (by decide) rfl
        dsimp only [List.filterMap_cons, List.filterMap_nil, List.getElem?_cons_zero, List.getElem?_cons_succ] at hM
        go_wp2_with fail
        go_loopw [3, 6] (fun s3 s6 wr => ∃ (m : Nat) (a' : Option Addr) (c' : Nat) (xs : List StockI), m ≤ 11 ∧ s6 = .int .i64 m ∧ s3 = .slice a' m c' ∧ Hid (xs.length = m) ∧ Hid (allSt xs) ∧ Mem w0.heap.size w0 wr [owE FStock 46 a' m c' xs, curE g ac nc cc (A + 20 + 2 * m), packE R]) (fun _ s6 _ => 12 - (intOf s6).toNat)
        case atStart => exact ⟨0, _, _, [], by omega, rfl, rfl, Lib.hid rfl, Lib.hid allSt_nil, hM.curMore (.there .here) (by have := HA2.out; omega)⟩
        case round =>
          clear hM HX
          obtain ⟨m, a2, c2, zs, hm, rfl, rfl, hzl, HZ, hM⟩ := hrel
          obtain ⟨A3, hA4⟩ : ∃ A3, A + 20 + 2 * m = A3 := ⟨_, rfl⟩
          rw [hA4] at hM
          have hA5 : A3 ≤ A + 42 := by omega
          have HA3 := Lib.hid hA4
          clear hA4
          go_wp2_with fail
          apply Mem.atA
          · (repeat' (first | with_reducible exact hM | with_reducible exact hMp | with_reducible apply Mem.drew | with_reducible apply Mem.drewN | with_reducible apply Mem.alloc | with_reducible apply Mem.set | with_reducible exact Sto.row | ((with_reducible refine Sto.rowEq2 ?_ ?_); omega; rfl) | ((with_reducible refine Sto.rowEq ?_); omega) | with_reducible apply Sto.int | with_reducible apply Sto.there | with_reducible assumption | (unfold I64; omega) | (with_reducible (have hMx := Mem.undrew hM; exact hMx)) | (with_reducible (have hMx := Mem.undrew hMp; exact hMx))))
          clear hM
          intro wst hM
          (try simp only [World.size_alloc, World.size_setCell, World.heap_drewN, heapDrew, Nat.add_assoc, Nat.reduceAdd, List.setIfInBounds_toArray, List.set_cons_zero, List.set_cons_succ, List.cons_append, List.nil_append] at hM)
          (first | refine (pick_any 2 HC.out hM (.there .here) (by omega)).mono ?_)
          rintro e wc5 ⟨r, hr, hr2, rfl, hm⟩
          clear hM
          have hM := hm
          clear hm
          try dsimp only at hM
          have hr3 := pick_lt hr (by omega)
          clear hr hr2
          have hw : IntKind.i64.wrap (10 + (r : Int)) = 10 + (r : Int) := by rw [wrap_in (by omega)]
          by_cases hlm : m < 10 + r
          · have hlt2 : (m : Int) < 10 + (r : Int) := by omega
            have hw3 : IntKind.i64.wrap (97 + (m : Int)) = 97 + (m : Int) := wrap_in (by omega)
            obtain ⟨x, hx, hxn⟩ : ∃ x : UInt8, (97 + (m : Int)) = ((x.toNat : Nat) : Int) ∧ IntKind.u8.wrap (97 + (m : Int)) = ((x.toNat : Nat) : Int) := by
              refine ⟨UInt8.ofNat (97 + m), ?_, ?_⟩
              · rw [UInt8.toNat_ofNat']; omega
              · rw [UInt8.toNat_ofNat', IntKind.wrap_u8]; omega
            have HX2 := Lib.hid hx; clear hx
            have hy : okSt (⟨[x], (m : Int)⟩ : StockI) := ⟨by show 1 ≤ 20; decide, by dsimp only; omega⟩
            have HY := Lib.hid hy; clear hy
            go_wp2_with (first | (at_builtin; apply Mem.atL; (focus ((repeat' (first | with_reducible exact hM | with_reducible exact hMp | with_reducible apply Mem.drew | with_reducible apply Mem.drewN | with_reducible apply Mem.alloc | with_reducible apply Mem.set | with_reducible exact Sto.row | ((with_reducible refine Sto.rowEq2 ?_ ?_); omega; rfl) | ((with_reducible refine Sto.rowEq ?_); omega) | with_reducible apply Sto.int | with_reducible apply Sto.there | with_reducible assumption | (unfold I64; omega) | (with_reducible (have hMx := Mem.undrew hM; exact hMx)) | (with_reducible (have hMx := Mem.undrew hMp; exact hMx)))); done)); clear hM; intro hM; (try simp only [World.size_alloc, World.size_setCell, World.heap_drewN, heapDrew, Nat.add_assoc, Nat.reduceAdd, List.setIfInBounds_toArray, List.set_cons_zero, List.set_cons_succ, List.cons_append, List.nil_append] at hM); refine wpList_pushR (F := FStock) (⟨[x], (m : Int)⟩ : StockI) hM (fun _ => .there .here) rfl (okSt_wf HY.out) (by decide) (by show (m + 1) * 2 ≤ _; omega) i0 (.agg #[.string ⟨#[]⟩, .int .i64 0]) 24 hi hz0 hz1 hz2 rfl (by omega) rfl _ _ _ Try.underlying30 rfl rfl rfl ?_) | (apply Mem.atL; (focus ((repeat' (first | with_reducible exact hM | with_reducible exact hMp | with_reducible apply Mem.drew | with_reducible apply Mem.drewN | with_reducible apply Mem.alloc | with_reducible apply Mem.set | with_reducible exact Sto.row | ((with_reducible refine Sto.rowEq2 ?_ ?_); omega; rfl) | ((with_reducible refine Sto.rowEq ?_); omega) | with_reducible apply Sto.int | with_reducible apply Sto.there | with_reducible assumption | (unfold I64; omega) | (with_reducible (have hMx := Mem.undrew hM; exact hMx)) | (with_reducible (have hMx := Mem.undrew hMp; exact hMx)))); done)); clear hM; intro hM; refine wpList_toStringC (l := [x]) (fun i hi => by obtain rfl : i = 0 := (by simp at hi; exact hi); exact (hM.row .here).1 0) rfl 37 9 5 (.tmp 57) rfl rfl Try.underlying37 Try.underlying5 Try.underlying9 ?_))
            intro a3 c3 w3 hM
            have HN := Lib.hid (allSt_snoc HZ.out HY.out)
            have HL := Lib.hid (show (zs ++ [(⟨[x], (m : Int)⟩ : StockI)]).length = m + 1 by rw [List.length_append, hzl.out]; rfl)
            have hM9 := Lib.hid hM.tail
            clear hM
            go_wp2
            go_roundw
            case rel => exact ⟨m + 1, a3, c3, zs ++ [⟨[x], (m : Int)⟩], by omega, by go_num, rfl, HL, HN, hM9.out.curMore (.there .here) (by have := HA3.out; omega)⟩
            case measure => first | (simp [intOf]; done) | (simp [intOf]; omega)
          · have hlt2 : ¬ (m : Int) < 10 + (r : Int) := by omega
            go_wp2
            go_ret
            exact ⟨a2, c2, zs, by rw [hzl.out]; omega, HZ.out, by rw [hzl.out]; rfl, by rw [hzl.out]; exact HR.out.out1 (hM.curMore (.there .here) (by omega))⟩
      have h0' : ¬ (r : Int) = 0 := by omega
      have h1' : ¬ (r : Int) = 1 := by omega
      clear h0 h1
      go_wp2
      go_ret
      exact ⟨a', c', xs, by omega, HX.out, rfl, HR.out.out1 (hM.curMore (.there .here) (by have := HA2.out; omega))⟩
end Go.Proofs.Ytfnaenekdenmkaa
