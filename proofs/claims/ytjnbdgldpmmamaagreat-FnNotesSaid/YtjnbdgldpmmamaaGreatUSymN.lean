/-
  Library: what SortStableFunc's merging does to notes: it only swaps. (A weak contract: the records stay.)
-/
import Derived.Test.YtjnbdgldpmmamaaGreatUNoteD
/-
  Library: what SortStableFunc's merging does to notes: it only swaps. (A weak contract: the records stay.)
-/
namespace Go.Proofs.YtjnbdgldpmmamaaGreat
set_option linter.unusedSimpArgs false
set_option linter.unusedVariables false
open Go.RowKit

theorem swapN_perm {zs : List NoteI} {p q : Nat} {x y : NoteI} (hp : p < zs.length) (hq : q < zs.length) (hx : zs.getD p NoteI.zero = x) (hy : zs.getD q NoteI.zero = y) : ((zs.set p y).set q x).Perm zs := by
  have e1 : zs[p] = x := by rw [← hx, List.getD_eq_getElem?_getD, List.getElem?_eq_getElem hp]; rfl
  have e2 : zs[q] = y := by rw [← hy, List.getD_eq_getElem?_getD, List.getElem?_eq_getElem hq]; rfl
  have := List.set_set_perm hp hq
  rwa [e1, e2] at this

set_option maxRecDepth 100000 in
set_option maxHeartbeats 8000000 in
theorem swapRange_any (B : Nat) (w0 : World) (G : List Ent) (g n c : Nat) (xs zs : List NoteI) (fv : Value) (a b m : Nat) (w : World) (hM : Mem B w0 w (owE FNote 40 (some ⟨g, 0, none⟩) n c zs :: G)) (hp : zs.Perm xs) (hwf : ∀ x ∈ xs, FNote.wf x) (hn : n ≤ 1000) (hab : a < b) (hbm : b + m ≤ n) :
    Calls Tryz.prog 107 #[.slice (some ⟨g, 0, none⟩) n c, .int .i64 a, .int .i64 b, .int .i64 m, fv] w fun e w' => e = .returned (.tuple #[]) ∧ ∃ ys, ys.Perm xs ∧ Mem B w0 w' (owE FNote 40 (some ⟨g, 0, none⟩) n c ys :: G) := by
  have HW := Lib.hid hwf; clear hwf
  have HPM := Lib.hid hp; clear hp
  have HAB := Lib.hid hab
  go_enter Tryz.func107, Tryz.ntmps107
  go_wp2
  go_loopw [10] (fun s wr => ∃ (k : Nat) (zs : List NoteI), k ≤ m ∧ s = .int .i64 k ∧ Hid (zs.Perm xs) ∧ Mem B w0 wr (owE FNote 40 (some ⟨g, 0, none⟩) n c zs :: G)) (fun s _ => m - (intOf s).toNat)
  case atStart => exact ⟨0, zs, Nat.zero_le _, rfl, HPM, hM⟩
  case round =>
    clear hM HPM
    obtain ⟨k, zs, hk, rfl, HPM, hM⟩ := hrel
    have HZL := Lib.hid (hM.ow .here).len
    by_cases hlt : k < m
    · have hw1 : IntKind.i64.wrap ((a : Int) + (k : Int)) = ((a + k : Nat) : Int) := by rw [wrap_in (by omega)]; omega
      have hw2 : IntKind.i64.wrap ((b : Int) + (k : Int)) = ((b + k : Nat) : Int) := by rw [wrap_in (by omega)]; omega
      have hpn : a + k < n := by omega
      have hqn : b + k < n := by omega
      have hne0 : a + k ≠ b + k := by omega
      obtain ⟨p, hpe⟩ : ∃ p, a + k = p := ⟨_, rfl⟩
      obtain ⟨q, hqe⟩ : ∃ q, b + k = q := ⟨_, rfl⟩
      rw [hpe] at hw1 hpn hne0
      rw [hqe] at hw2 hqn hne0
      clear hpe hqe hab
      have hxm := getD_memO (d := NoteI.zero) (xs := zs) (k := p) (by rw [HZL.out]; omega)
      have hym := getD_memO (d := NoteI.zero) (xs := zs) (k := q) (by rw [HZL.out]; omega)
      have wx := HW.out _ (HPM.out.mem_iff.1 hxm)
      have wy := HW.out _ (HPM.out.mem_iff.1 hym)
      have hpm := fun x y => swapN_perm (x := x) (y := y) (zs := zs) (p := p) (q := q) (by rw [HZL.out]; omega) (by rw [HZL.out]; omega)
      obtain ⟨x, ex⟩ : ∃ x, zs.getD p NoteI.zero = x := ⟨_, rfl⟩
      obtain ⟨y, ey⟩ : ∃ y, zs.getD q NoteI.zero = y := ⟨_, rfl⟩
      have HPN := Lib.hid ((hpm x y ex ey).trans HPM.out)
      rw [ex] at hxm wx
      rw [ey] at hym wy
      have EX := Lib.hid ex; have EY := Lib.hid ey
      have HWX := Lib.hid wx; have HWY := Lib.hid wy
      have HXM := Lib.hid (HPM.out.mem_iff.1 hxm); have HYM := Lib.hid (HPM.out.mem_iff.1 hym)
      clear ex ey wx wy hpm hxm hym
      have i0 : (0 : Int) ≤ (p : Int) := by omega
      have i1 : (p : Int) < (n : Int) := by omega
      have j0 : (0 : Int) ≤ (q : Int) := by omega
      have j1 : (q : Int) < (n : Int) := by omega
      have hne := hne0.symm
      go_wp2_with fail
      apply Mem.atWp
      · exact memA
      clear hM
      intro hM
      refine AtT.startA hM.tail hM 23 (by kernel_rfl) ?_
      clear hM
      intro wd hM
      have hS := hM.tail
      refine AtT.tk 0 ?_ 16 ?_ hS ?_
      rotate_left
      · (intro wS hSw; (try dsimp only at hSw); go_simp; (try rw [if_neg (by omega)]); try with_reducible rfl)
      simp only [Act.put, sA]
      refine AtT.tk 1 ?_ 17 ?_ hS ?_
      rotate_left
      · (intro wS hSw; (try dsimp only at hSw); go_simp; (try rw [if_neg (by omega)]); try with_reducible rfl)
      simp only [Act.put, sA]
      refine AtT.tk 2 ?_ 18 ?_ hS ?_
      rotate_left
      · (intro wS hSw; (try dsimp only at hSw); go_simp; (try rw [if_neg (by omega)]); try with_reducible rfl)
      simp only [Act.put, sA]
      refine AtT.tk 3 ?_ 19 ?_ hS ?_
      rotate_left
      · (intro wS hSw; (try dsimp only at hSw); go_simp; (try rw [if_neg (by omega)]); try with_reducible rfl)
      simp only [Act.put, sA]
      refine AtT.tk 4 ?_ 20 ?_ hS ?_
      rotate_left
      · (intro wS hSw; (try dsimp only at hSw); go_simp; (try rw [if_neg (by omega)]); try with_reducible rfl)
      simp only [Act.put, sA]
      refine AtT.tk 5 ?_ 21 ?_ hS ?_
      rotate_left
      · (intro wS hSw; (try dsimp only at hSw); go_simp; (try rw [if_neg (by omega)]); try with_reducible rfl)
      simp only [Act.put, sA]
      refine AtT.tk 6 ?_ 22 ?_ hS ?_
      rotate_left
      · (intro wS hSw; (try dsimp only at hSw); go_simp; (try rw [if_neg (by omega)]); try with_reducible rfl)
      simp only [Act.put, sA]
      refine AtT.tk 7 ?_ 23 ?_ hS ?_
      rotate_left
      · (intro wS hSw; (try dsimp only at hSw); go_simp; (try rw [if_neg (by omega)]); try with_reducible rfl)
      simp only [Act.put, sA]
      refine AtT.tk 8 ?_ 24 ?_ hS ?_
      rotate_left
      · (intro wS hSw; (try dsimp only at hSw); go_simp; (try rw [if_neg (by omega)]); try with_reducible rfl)
      simp only [Act.put, sA]
      refine AtT.tk 9 ?_ 25 ?_ hS ?_
      rotate_left
      · (intro wS hSw; (try dsimp only at hSw); go_simp; (try rw [if_neg (by omega)]); try with_reducible rfl)
      simp only [Act.put, sA]
      refine AtT.tk 10 ?_ 26 ?_ hS ?_
      rotate_left
      · (intro wS hSw; (try dsimp only at hSw); go_simp; (try rw [if_neg (by omega)]); try with_reducible rfl)
      simp only [Act.put, sA]
      refine AtT.tk 11 ?_ 27 ?_ hS ?_
      rotate_left
      · (intro wS hSw; (try dsimp only at hSw); go_simp; (try rw [if_neg (by omega)]); try with_reducible rfl)
      simp only [Act.put, sA]
      refine AtT.tk 12 ?_ 28 ?_ hS ?_
      rotate_left
      · (intro wS hSw; (try dsimp only at hSw); go_simp; (try rw [if_neg (by omega)]); try with_reducible rfl)
      simp only [Act.put, sA]
      refine AtT.tk 14 ?_ 30 ?_ hS ?_
      rotate_left
      · (intro wS hSw; (try dsimp only at hSw); go_simp; (try rw [if_neg (by omega)]); try with_reducible rfl)
      simp only [Act.put, sA]
      refine AtT.tk 15 ?_ 31 ?_ hS ?_
      rotate_left
      · (intro wS hSw; (try dsimp only at hSw); go_simp; (try rw [if_neg (by omega)]); try with_reducible rfl)
      simp only [Act.put, sA]
      refine AtT.tk 16 ?_ 32 ?_ hS ?_
      rotate_left
      · (intro wS hSw; (try dsimp only at hSw); go_simp; (try rw [if_neg (by omega)]); try with_reducible rfl)
      simp only [Act.put, sA]
      refine AtT.tk 17 ?_ 33 ?_ hS ?_
      rotate_left
      · (intro wS hSw; (try dsimp only at hSw); go_simp; (try rw [if_neg (by omega)]); try with_reducible rfl)
      simp only [Act.put, sA]
      refine AtT.tk 18 ?_ 34 ?_ hS ?_
      rotate_left
      · (intro wS hSw; (try dsimp only at hSw); go_simp; (try rw [if_neg (by omega)]); try with_reducible rfl)
      simp only [Act.put, sA]
      refine AtT.two (i := 13) (j := 19) (by kernel_rfl) rfl rfl rfl rfl ?_ ?_
      · skip
        intro K hK
        have hc := (hM.ow .here).cellNote hqn
        rw [EY.out] at hc
        have hc0 := hc.1
        have hc1 := hc.2.1
        have hc2 := hc.2.2.1
        have hc3 := hc.2.2.2
        go_simp
        clear hc hc0 hc1 hc2 hc3
        try dsimp only
        refine hK.out _ _ (hM.tail) ?_
        clear hK K hS
        have hS := hM.tail
        refine AtT.only (i := 19) (by kernel_rfl) rfl rfl ?_
        intro K hK
        have hc := (hM.ow .here).cellNote hpn
        rw [EX.out] at hc
        have hc0 := hc.1
        have hc1 := hc.2.1
        have hc2 := hc.2.2.1
        have hc3 := hc.2.2.2
        go_simp
        clear hc hc0 hc1 hc2 hc3
        try dsimp only
        refine hK.out _ _ (hM.tail) ?_
        clear hK K hS
        have hS := hM.tail
        refine AtT.tk 20 ?_ 36 ?_ hS ?_
        rotate_left
        · (intro wS hSw; (try dsimp only at hSw); go_simp; (try rw [if_neg (by omega)]); try with_reducible rfl)
        simp only [Act.put, sA]
        refine AtT.only (i := 21) (by kernel_rfl) rfl rfl ?_
        intro K hK
        have hc := (hM.ow .here).cellNote hpn
        have hc0 := hc.1
        have hc1 := hc.2.1
        have hc2 := hc.2.2.1
        have hc3 := hc.2.2.2
        have hfe := (hM.ow .here).free
        go_simp
        clear hc hc0 hc1 hc2 hc3 hfe
        replace hM := hM.putNote hpn y HWY.out .here
        try dsimp only
        refine hK.out _ _ (hM.tail) ?_
        clear hK K hS
        have hS := hM.tail
        refine AtT.tk 22 ?_ 37 ?_ hS ?_
        rotate_left
        · (intro wS hSw; (try dsimp only at hSw); go_simp; (try rw [if_neg (by omega)]); try with_reducible rfl)
        simp only [Act.put, sA]
        refine AtT.last (by kernel_rfl) rfl (by kernel_rfl) ?_
        intro K hK
        clear hS
        have hc := (hM.ow .here).cellNote hqn
        have hc0 := hc.1
        have hc1 := hc.2.1
        have hc2 := hc.2.2.1
        have hc3 := hc.2.2.2
        have hfe := (hM.ow .here).free
        go_simp
        refine hK.out _ _ ?_
        clear hK K
        have hM2 := Lib.hid (hM.putNote hqn x HWX.out .here)
        clear hM hc hc0 hc1 hc2 hc3 hfe
        go_wp2
        go_roundw
        case rel => exact ⟨k + 1, (zs.set p y).set q x, by omega, by go_num, HPN, hM2.out⟩
        case measure => simp [intOf]; omega
      · skip
        intro K hK
        have hc := (hM.ow .here).cellNote hpn
        rw [EX.out] at hc
        have hc0 := hc.1
        have hc1 := hc.2.1
        have hc2 := hc.2.2.1
        have hc3 := hc.2.2.2
        go_simp
        clear hc hc0 hc1 hc2 hc3
        try dsimp only
        refine hK.out _ _ (hM.tail) ?_
        clear hK K hS
        have hS := hM.tail
        refine AtT.only (i := 13) (by kernel_rfl) rfl rfl ?_
        intro K hK
        have hc := (hM.ow .here).cellNote hqn
        rw [EY.out] at hc
        have hc0 := hc.1
        have hc1 := hc.2.1
        have hc2 := hc.2.2.1
        have hc3 := hc.2.2.2
        go_simp
        clear hc hc0 hc1 hc2 hc3
        try dsimp only
        refine hK.out _ _ (hM.tail) ?_
        clear hK K hS
        have hS := hM.tail
        refine AtT.tk 20 ?_ 36 ?_ hS ?_
        rotate_left
        · (intro wS hSw; (try dsimp only at hSw); go_simp; (try rw [if_neg (by omega)]); try with_reducible rfl)
        simp only [Act.put, sA]
        refine AtT.only (i := 21) (by kernel_rfl) rfl rfl ?_
        intro K hK
        have hc := (hM.ow .here).cellNote hpn
        have hc0 := hc.1
        have hc1 := hc.2.1
        have hc2 := hc.2.2.1
        have hc3 := hc.2.2.2
        have hfe := (hM.ow .here).free
        go_simp
        clear hc hc0 hc1 hc2 hc3 hfe
        replace hM := hM.putNote hpn y HWY.out .here
        try dsimp only
        refine hK.out _ _ (hM.tail) ?_
        clear hK K hS
        have hS := hM.tail
        refine AtT.tk 22 ?_ 37 ?_ hS ?_
        rotate_left
        · (intro wS hSw; (try dsimp only at hSw); go_simp; (try rw [if_neg (by omega)]); try with_reducible rfl)
        simp only [Act.put, sA]
        refine AtT.last (by kernel_rfl) rfl (by kernel_rfl) ?_
        intro K hK
        clear hS
        have hc := (hM.ow .here).cellNote hqn
        have hc0 := hc.1
        have hc1 := hc.2.1
        have hc2 := hc.2.2.1
        have hc3 := hc.2.2.2
        have hfe := (hM.ow .here).free
        go_simp
        refine hK.out _ _ ?_
        clear hK K
        have hM2 := Lib.hid (hM.putNote hqn x HWX.out .here)
        clear hM hc hc0 hc1 hc2 hc3 hfe
        go_wp2
        go_roundw
        case rel => exact ⟨k + 1, (zs.set p y).set q x, by omega, by go_num, HPN, hM2.out⟩
        case measure => simp [intOf]; omega
    · obtain rfl : k = m := by omega
      go_wp2
      go_end0
      exact ⟨rfl, zs, HPM.out, hM⟩

set_option maxRecDepth 100000 in
set_option maxHeartbeats 8000000 in
theorem rotate_any (B : Nat) (w0 : World) (G : List Ent) (g n c : Nat) (xs zs : List NoteI) (fv : Value) (a m b : Nat) (w : World) (hM : Mem B w0 w (owE FNote 40 (some ⟨g, 0, none⟩) n c zs :: G)) (hp : zs.Perm xs) (hwf : ∀ x ∈ xs, FNote.wf x) (hn : n ≤ 1000) (ham : a < m) (hmb : m < b) (hbn : b ≤ n) :
    Calls Tryz.prog 105 #[.slice (some ⟨g, 0, none⟩) n c, .int .i64 a, .int .i64 m, .int .i64 b, fv] w fun e w' => e = .returned (.tuple #[]) ∧ ∃ ys, ys.Perm xs ∧ Mem B w0 w' (owE FNote 40 (some ⟨g, 0, none⟩) n c ys :: G) := by
  have HW := Lib.hid hwf; clear hwf
  have HPM := Lib.hid hp; clear hp
  obtain ⟨i0, hi0⟩ : ∃ i0, m - a = i0 := ⟨_, rfl⟩
  obtain ⟨j0, hj0⟩ : ∃ j0, b - m = j0 := ⟨_, rfl⟩
  have hw1 : IntKind.i64.wrap ((m : Int) - (a : Int)) = (i0 : Int) := by rw [wrap_in (by omega)]; omega
  have hw2 : IntKind.i64.wrap ((b : Int) - (m : Int)) = (j0 : Int) := by rw [wrap_in (by omega)]; omega
  have HI0 := Lib.hid hi0; have HJ0 := Lib.hid hj0
  clear hi0 hj0
  go_enter Tryz.func105, Tryz.ntmps105
  go_wp2_with fail
  go_loopw [10, 11] (fun s t wr => ∃ (i j : Nat) (zs : List NoteI), 1 ≤ i ∧ 1 ≤ j ∧ i ≤ i0 ∧ j ≤ j0 ∧ s = .int .i64 i ∧ t = .int .i64 j ∧ Hid (zs.Perm xs) ∧ Mem B w0 wr (owE FNote 40 (some ⟨g, 0, none⟩) n c zs :: G)) (fun s t _ => (intOf s).toNat + (intOf t).toNat)
  case atStart => exact ⟨i0, j0, zs, by have := HI0.out; omega, by have := HJ0.out; omega, Nat.le_refl _, Nat.le_refl _, rfl, rfl, HPM, hM⟩
  case round =>
    clear hM HPM hw1 hw2
    obtain ⟨i, j, zs, hi1, hj1, hii, hjj, rfl, rfl, HPM, hM⟩ := hrel
    have hie := HI0.out
    have hje := HJ0.out
    have hbi : i + a ≤ m := by omega
    have hbj : m + j ≤ b := by omega
    clear hie hje
    obtain ⟨p, hpe⟩ : ∃ p, m - i = p := ⟨_, rfl⟩
    have hwp : IntKind.i64.wrap ((m : Int) - (i : Int)) = (p : Int) := by rw [wrap_in (by omega)]; omega
    have HPE := Lib.hid hpe
    clear hpe
    rcases Nat.lt_trichotomy j i with h1 | h1 | h1
    · have e1 : ((i : Int) != (j : Int)) = true := by simp; omega
      have hd : IntKind.i64.wrap ((i : Int) - (j : Int)) = ((i - j : Nat) : Int) := by rw [wrap_in (by omega)]; omega
      go_wp2_with fail
      refine (swapRange_any B w0 G g n c xs zs fv p m j _ hM HPM.out HW.out hn (by have := HPE.out; omega) (by omega)).mono ?_
      rintro e w2 ⟨rfl, ys, hpy, hM2⟩
      have HPY := Lib.hid hpy; clear hpy
      go_wp2
      go_roundw
      case rel => exact ⟨i - j, j, ys, by omega, hj1, by omega, hjj, rfl, rfl, HPY, hM2⟩
      case measure => simp [intOf]; omega
    · subst h1
      have e1 : ((j : Int) != (j : Int)) = false := by simp
      go_wp2_with fail
      refine (swapRange_any B w0 G g n c xs zs fv p m j _ hM HPM.out HW.out hn (by have := HPE.out; omega) (by omega)).mono ?_
      rintro e w2 ⟨rfl, ys, hpy, hM2⟩
      have HPY := Lib.hid hpy; clear hpy
      go_wp2
      go_end0
      exact ⟨rfl, ys, HPY.out, hM2⟩
    · have e1 : ((i : Int) != (j : Int)) = true := by simp; omega
      have hd : IntKind.i64.wrap ((j : Int) - (i : Int)) = ((j - i : Nat) : Int) := by rw [wrap_in (by omega)]; omega
      obtain ⟨q, hqe⟩ : ∃ q, m + j - i = q := ⟨_, rfl⟩
      obtain ⟨mj, hmj⟩ : ∃ mj, m + j = mj := ⟨_, rfl⟩
      have hwa : IntKind.i64.wrap ((m : Int) + (j : Int)) = (mj : Int) := by rw [wrap_in (by omega)]; omega
      have hwq : IntKind.i64.wrap ((mj : Int) - (i : Int)) = (q : Int) := by rw [wrap_in (by omega)]; omega
      clear hmj
      have HQE := Lib.hid hqe
      clear hqe
      go_wp2_with fail
      refine (swapRange_any B w0 G g n c xs zs fv p q i _ hM HPM.out HW.out hn (by have := HPE.out; have := HQE.out; omega) (by have := HQE.out; omega)).mono ?_
      rintro e w2 ⟨rfl, ys, hpy, hM2⟩
      have HPY := Lib.hid hpy; clear hpy
      go_wp2
      go_roundw
      case rel => exact ⟨i, j - i, ys, hi1, by omega, hii, by omega, rfl, rfl, HPY, hM2⟩
      case measure => simp [intOf]; omega

set_option maxRecDepth 100000 in
set_option maxHeartbeats 8000000 in
theorem insertW_any (B : Nat) (w0 : World) (G : List Ent) (g n c : Nat) (xs : List NoteI) (f : FuncId) (caps : Array Value) (lt : NoteI → NoteI → Bool) (zs : List NoteI) (a b : Nat) (w : World) (hM : Mem B w0 w (owE FNote 40 (some ⟨g, 0, none⟩) n c zs :: G)) (hp : zs.Perm xs) (hn : n ≤ 1000) (hab : a ≤ b) (hbn : b ≤ n)
    (hcf : ∀ args w, (callFunc f args).run Tryz.prog w = .ok (.enter f args) w) (hc : ComparesNote f caps lt B w0 G xs) :
    Calls Tryz.prog 97 #[.slice (some ⟨g, 0, none⟩) n c, .int .i64 a, .int .i64 b, .func (.func f) #[] caps] w fun e w' => e = .returned (.tuple #[]) ∧ ∃ ys, ys.Perm xs ∧ Mem B w0 w' (owE FNote 40 (some ⟨g, 0, none⟩) n c ys :: G) := by
  have HW := Lib.hid (fun x (hx : x ∈ xs) => (hM.ow .here).rd.wf x (hp.mem_iff.2 hx))
  have HPM := Lib.hid hp; clear hp
  have HC := Lib.hid hc; clear hc
  have hwa : IntKind.i64.wrap ((a : Int) + 1) = ((a + 1 : Nat) : Int) := by rw [wrap_in (by omega)]; omega
  go_enter Tryz.func97, Tryz.ntmps97
  go_wp2
  go_loopw [8] (fun i wr => ∃ (k : Nat) (zs : List NoteI), a + 1 ≤ k ∧ k ≤ b + 1 ∧ i = .int .i64 k ∧ Hid (zs.Perm xs) ∧ Mem B w0 wr (owE FNote 40 (some ⟨g, 0, none⟩) n c zs :: G)) (fun i _ => b + 1 - (intOf i).toNat)
  case atStart => exact ⟨a + 1, zs, by omega, by omega, rfl, HPM, hM⟩
  case round =>
    clear hM HPM hwa
    obtain ⟨k, zs, hk1, hk, rfl, HPM, hM⟩ := hrel
    by_cases hlt : k < b
    · have hkc : (k : Int) < (b : Int) := by omega
      go_wp2
      go_loopw [9] (fun s wq => ∃ (j : Nat) (zs : List NoteI), a ≤ j ∧ j ≤ k ∧ s = .int .i64 j ∧ Hid (zs.Perm xs) ∧ Mem B w0 wq (owE FNote 40 (some ⟨g, 0, none⟩) n c zs :: G)) (fun s _ => (intOf s).toNat)
      case atStart => exact ⟨k, zs, by omega, Nat.le_refl _, rfl, HPM, hM⟩
      case round =>
        clear hM HPM
        obtain ⟨j, zs, haj, hj, rfl, HPM, hM⟩ := hrel
        have HZL := Lib.hid (hM.ow .here).len
        by_cases hj0 : j = a
        · have kz : decide (a < j) = false := decide_eq_false (by omega)
          have kz2 : decide (j < j) = false := decide_eq_false (by omega)
          subst hj0
          go_wp2_with fail
          apply Mem.atWp
          · exact memA
          clear hM
          intro hM
          refine AtT.startA hM hM 16 (by kernel_rfl) ?_
          clear hM
          intro wd hM
          have hS := hM
          refine AtT.tk 0 ?_ 18 ?_ hS ?_
          rotate_left
          · (intro wS hSw; (try dsimp only at hSw); go_simp; (try rw [if_neg (by omega)]); try with_reducible rfl)
          simp only [Act.put, sA]
          refine AtT.tk 1 ?_ 19 ?_ hS ?_
          rotate_left
          · (intro wS hSw; (try dsimp only at hSw); go_simp; (try rw [if_neg (by omega)]); try with_reducible rfl)
          simp only [Act.put, sA]
          refine AtT.tk 2 ?_ 20 ?_ hS ?_
          rotate_left
          · (intro wS hSw; (try dsimp only at hSw); go_simp; (try rw [if_neg (by omega)]); try with_reducible rfl)
          simp only [Act.put, sA]
          refine AtT.tk 3 ?_ 21 ?_ hS ?_
          rotate_left
          · (intro wS hSw; (try dsimp only at hSw); go_simp; (try rw [if_neg (by omega)]); try with_reducible rfl)
          simp only [Act.put, sA]
          refine AtT.tn 4 22 hS ?_
          simp only [Act.put, sA]
          refine AtT.tn 5 23 hS ?_
          simp only [Act.put, sA]
          refine AtT.tn 6 24 hS ?_
          simp only [Act.put, sA]
          refine AtT.tn 7 25 hS ?_
          simp only [Act.put, sA]
          refine AtT.tn 8 26 hS ?_
          simp only [Act.put, sA]
          refine AtT.tn 9 27 hS ?_
          simp only [Act.put, sA]
          refine AtT.tn 10 28 hS ?_
          simp only [Act.put, sA]
          refine AtT.tn 11 29 hS ?_
          simp only [Act.put, sA]
          refine AtT.tn 12 30 hS ?_
          simp only [Act.put, sA]
          refine AtT.tn 13 31 hS ?_
          simp only [Act.put, sA]
          refine AtT.tn 14 32 hS ?_
          simp only [Act.put, sA]
          refine AtT.tn 15 33 hS ?_
          simp only [Act.put, sA]
          refine AtT.last (by kernel_rfl) rfl (by kernel_rfl) ?_
          intro K hK
          clear hS
          go_simp
          refine hK.out _ _ ?_
          clear hK K
          go_wp2
          go_roundw
          case rel => exact ⟨k + 1, zs, by omega, by omega, by go_num, HPM, Mem.undrew (Mem.drew hM)⟩
          case measure => simp [intOf]; omega
        · obtain ⟨i, hi⟩ : ∃ i, j = i + 1 := ⟨j - 1, by omega⟩
          have hjI : IntKind.i64.wrap ((j : Int) - 1) = (i : Int) := by rw [wrap_in (by omega)]; omega
          have i0 : (0 : Int) ≤ (j : Int) := by omega
          have i1 : (j : Int) < (n : Int) := by omega
          have j0 : (0 : Int) ≤ (i : Int) := by omega
          have j1 : (i : Int) < (n : Int) := by omega
          have hjn : j < n := by omega
          have hin : i < n := by omega
          have kp : decide (a < j) = true := decide_eq_true (by omega)
          have hne : (j : Nat) ≠ i := by omega
          have hai : a ≤ i := by omega
          have hij : i < j := by omega
          clear hi hj0
          have hxm := getD_memO (d := NoteI.zero) (xs := zs) (k := j) (by rw [HZL.out]; omega)
          have hym := getD_memO (d := NoteI.zero) (xs := zs) (k := i) (by rw [HZL.out]; omega)
          have wx := HW.out _ (HPM.out.mem_iff.1 hxm)
          have wy := HW.out _ (HPM.out.mem_iff.1 hym)
          have hpm := fun x y => swapN_perm (x := x) (y := y) (zs := zs) (p := j) (q := i) (by rw [HZL.out]; omega) (by rw [HZL.out]; omega)
          obtain ⟨x, ex⟩ : ∃ x, zs.getD j NoteI.zero = x := ⟨_, rfl⟩
          obtain ⟨y, ey⟩ : ∃ y, zs.getD i NoteI.zero = y := ⟨_, rfl⟩
          have HPN := Lib.hid ((hpm x y ex ey).trans HPM.out)
          rw [ex] at hxm wx
          rw [ey] at hym wy
          have EX := Lib.hid ex; have EY := Lib.hid ey
          have HWX := Lib.hid wx; have HWY := Lib.hid wy
          have HXM := Lib.hid (HPM.out.mem_iff.1 hxm); have HYM := Lib.hid (HPM.out.mem_iff.1 hym)
          clear ex ey wx wy hpm hxm hym
          go_wp2_with fail
          apply Mem.atWp
          · exact memA
          clear hM
          intro hM
          refine AtT.startA hM hM 16 (by kernel_rfl) ?_
          clear hM
          intro wd hM
          have hS := hM
          refine AtT.tk 0 ?_ 18 ?_ hS ?_
          rotate_left
          · (intro wS hSw; (try dsimp only at hSw); go_simp; (try rw [if_neg (by omega)]); try with_reducible rfl)
          simp only [Act.put, sA]
          refine AtT.tk 1 ?_ 19 ?_ hS ?_
          rotate_left
          · (intro wS hSw; (try dsimp only at hSw); go_simp; (try rw [if_neg (by omega)]); try with_reducible rfl)
          simp only [Act.put, sA]
          refine AtT.tk 2 ?_ 20 ?_ hS ?_
          rotate_left
          · (intro wS hSw; (try dsimp only at hSw); go_simp; (try rw [if_neg (by omega)]); try with_reducible rfl)
          simp only [Act.put, sA]
          refine AtT.tk 3 ?_ 21 ?_ hS ?_
          rotate_left
          · (intro wS hSw; (try dsimp only at hSw); go_simp; (try rw [if_neg (by omega)]); try with_reducible rfl)
          simp only [Act.put, sA]
          refine AtT.tk 4 ?_ 22 ?_ hS ?_
          rotate_left
          · (intro wS hSw; (try dsimp only at hSw); go_simp; (try rw [if_neg (by omega)]); try with_reducible rfl)
          simp only [Act.put, sA]
          refine AtT.tk 5 ?_ 23 ?_ hS ?_
          rotate_left
          · (intro wS hSw; (try dsimp only at hSw); go_simp; (try rw [if_neg (by omega)]); try with_reducible rfl)
          simp only [Act.put, sA]
          refine AtT.tk 6 ?_ 24 ?_ hS ?_
          rotate_left
          · (intro wS hSw; (try dsimp only at hSw); go_simp; (try rw [if_neg (by omega)]); try with_reducible rfl)
          simp only [Act.put, sA]
          refine AtT.tk 7 ?_ 25 ?_ hS ?_
          rotate_left
          · (intro wS hSw; (try dsimp only at hSw); have q1 := (hSw.ow .here).cellNote hjn; have q2 := (hSw.ow .here).cellNote hin; rw [EX.out] at q1; rw [EY.out] at q2; have r0 := q1.1; have s0 := q2.1; have r1 := q1.2.1; have s1 := q2.2.1; have r2 := q1.2.2.1; have s2 := q2.2.2.1; have r3 := q1.2.2.2; have s3 := q2.2.2.2; go_simp; (try rw [if_neg (by omega)]); try with_reducible rfl)
          simp only [Act.put, sA]
          refine AtT.tk 8 ?_ 26 ?_ hS ?_
          rotate_left
          · (intro wS hSw; (try dsimp only at hSw); have q1 := (hSw.ow .here).cellNote hjn; have q2 := (hSw.ow .here).cellNote hin; rw [EX.out] at q1; rw [EY.out] at q2; have r0 := q1.1; have s0 := q2.1; have r1 := q1.2.1; have s1 := q2.2.1; have r2 := q1.2.2.1; have s2 := q2.2.2.1; have r3 := q1.2.2.2; have s3 := q2.2.2.2; go_simp; (try rw [if_neg (by omega)]); try with_reducible rfl)
          simp only [Act.put, sA]
          refine AtT.tk 9 ?_ 27 ?_ hS ?_
          rotate_left
          · (intro wS hSw; (try dsimp only at hSw); go_simp; (try rw [if_neg (by omega)]); try with_reducible rfl)
          simp only [Act.put, sA]
          refine AtT.tk 10 ?_ 28 ?_ hS ?_
          rotate_left
          · (intro wS hSw; (try dsimp only at hSw); go_simp; (try rw [if_neg (by omega)]); try with_reducible rfl)
          simp only [Act.put, sA]
          refine AtT.tk 11 ?_ 29 ?_ hS ?_
          rotate_left
          · (intro wS hSw; (try dsimp only at hSw); go_simp; (try rw [if_neg (by omega)]); try with_reducible rfl)
          simp only [Act.put, sA]
          refine AtT.tk 12 ?_ 30 ?_ hS ?_
          rotate_left
          · (intro wS hSw; (try dsimp only at hSw); have q1 := (hSw.ow .here).cellNote hjn; have q2 := (hSw.ow .here).cellNote hin; rw [EX.out] at q1; rw [EY.out] at q2; have r0 := q1.1; have s0 := q2.1; have r1 := q1.2.1; have s1 := q2.2.1; have r2 := q1.2.2.1; have s2 := q2.2.2.1; have r3 := q1.2.2.2; have s3 := q2.2.2.2; go_simp; (try rw [if_neg (by omega)]); try with_reducible rfl)
          simp only [Act.put, sA]
          refine AtT.tk 13 ?_ 31 ?_ hS ?_
          rotate_left
          · (intro wS hSw; (try dsimp only at hSw); have q1 := (hSw.ow .here).cellNote hjn; have q2 := (hSw.ow .here).cellNote hin; rw [EX.out] at q1; rw [EY.out] at q2; have r0 := q1.1; have s0 := q2.1; have r1 := q1.2.1; have s1 := q2.2.1; have r2 := q1.2.2.1; have s2 := q2.2.2.1; have r3 := q1.2.2.2; have s3 := q2.2.2.2; go_simp; (try rw [if_neg (by omega)]); try with_reducible rfl)
          simp only [Act.put, sA]
          refine AtT.only (i := 14) (by kernel_rfl) rfl rfl ?_
          intro K hK
          go_simp
          refine (HC.out x HXM.out y HYM.out _ hM.tail).mono ?_
          rintro e w2 ⟨⟨r, rfl, hr⟩, hb⟩
          have HR := Lib.hid hr; clear hr
          replace hM := hM.ext hb
          clear hb
          try dsimp only
          refine hK.out _ _ (hM) ?_
          clear hK K hS
          have hS := hM
          refine AtT.tk 15 ?_ 33 ?_ hS ?_
          rotate_left
          · (intro wS hSw; (try dsimp only at hSw); go_simp; (try rw [if_neg (by omega)]); try with_reducible rfl)
          simp only [Act.put, sA]
          refine AtT.last (by kernel_rfl) rfl (by kernel_rfl) ?_
          intro K hK
          clear hS
          go_simp
          refine hK.out _ _ ?_
          clear hK K
          cases hl : lt x y
          · have hr2 : 0 ≤ r := by have := HR.out; rw [hl] at this; simpa using this
            go_wp2
            go_roundw
            case rel => exact ⟨k + 1, zs, by omega, by omega, by go_num, HPM, hM⟩
            case measure => simp [intOf]; omega
          · have hr2 : r < 0 := by have := HR.out; rw [hl] at this; simpa using this
            clear hl
            go_upto_region 6 with fail
            apply Mem.atWpA
            · exact memA
            clear hM
            intro wst hM
            (try simp only [World.size_alloc, World.size_setCell, World.heap_drewN, heapDrew, Nat.add_assoc, Nat.reduceAdd, sA, List.cons_append, List.nil_append] at hM)
            refine AtT.startA hM.tail hM 17 (by kernel_rfl) ?_
            clear hM
            intro wd hM
            have hS := hM.tail
            refine AtT.tk 0 ?_ 37 ?_ hS ?_
            rotate_left
            · (intro wS hSw; (try dsimp only at hSw); go_simp; (try rw [if_neg (by omega)]); try with_reducible rfl)
            simp only [Act.put, sA]
            refine AtT.tk 1 ?_ 38 ?_ hS ?_
            rotate_left
            · (intro wS hSw; (try dsimp only at hSw); go_simp; (try rw [if_neg (by omega)]); try with_reducible rfl)
            simp only [Act.put, sA]
            refine AtT.tk 2 ?_ 39 ?_ hS ?_
            rotate_left
            · (intro wS hSw; (try dsimp only at hSw); go_simp; (try rw [if_neg (by omega)]); try with_reducible rfl)
            simp only [Act.put, sA]
            refine AtT.tk 3 ?_ 40 ?_ hS ?_
            rotate_left
            · (intro wS hSw; (try dsimp only at hSw); go_simp; (try rw [if_neg (by omega)]); try with_reducible rfl)
            simp only [Act.put, sA]
            refine AtT.tk 4 ?_ 41 ?_ hS ?_
            rotate_left
            · (intro wS hSw; (try dsimp only at hSw); go_simp; (try rw [if_neg (by omega)]); try with_reducible rfl)
            simp only [Act.put, sA]
            refine AtT.tk 5 ?_ 42 ?_ hS ?_
            rotate_left
            · (intro wS hSw; (try dsimp only at hSw); go_simp; (try rw [if_neg (by omega)]); try with_reducible rfl)
            simp only [Act.put, sA]
            refine AtT.tk 6 ?_ 43 ?_ hS ?_
            rotate_left
            · (intro wS hSw; (try dsimp only at hSw); go_simp; (try rw [if_neg (by omega)]); try with_reducible rfl)
            simp only [Act.put, sA]
            refine AtT.tk 7 ?_ 44 ?_ hS ?_
            rotate_left
            · (intro wS hSw; (try dsimp only at hSw); go_simp; (try rw [if_neg (by omega)]); try with_reducible rfl)
            simp only [Act.put, sA]
            refine AtT.tk 8 ?_ 45 ?_ hS ?_
            rotate_left
            · (intro wS hSw; (try dsimp only at hSw); go_simp; (try rw [if_neg (by omega)]); try with_reducible rfl)
            simp only [Act.put, sA]
            refine AtT.tk 10 ?_ 47 ?_ hS ?_
            rotate_left
            · (intro wS hSw; (try dsimp only at hSw); go_simp; (try rw [if_neg (by omega)]); try with_reducible rfl)
            simp only [Act.put, sA]
            refine AtT.tk 11 ?_ 48 ?_ hS ?_
            rotate_left
            · (intro wS hSw; (try dsimp only at hSw); go_simp; (try rw [if_neg (by omega)]); try with_reducible rfl)
            simp only [Act.put, sA]
            refine AtT.tk 12 ?_ 49 ?_ hS ?_
            rotate_left
            · (intro wS hSw; (try dsimp only at hSw); go_simp; (try rw [if_neg (by omega)]); try with_reducible rfl)
            simp only [Act.put, sA]
            refine AtT.two (i := 9) (j := 13) (by kernel_rfl) rfl rfl rfl rfl ?_ ?_
            · skip
              intro K hK
              have hc := (hM.ow .here).cellNote hin
              rw [EY.out] at hc
              have hc0 := hc.1
              have hc1 := hc.2.1
              have hc2 := hc.2.2.1
              have hc3 := hc.2.2.2
              go_simp
              clear hc hc0 hc1 hc2 hc3
              try dsimp only
              refine hK.out _ _ (hM.tail) ?_
              clear hK K hS
              have hS := hM.tail
              refine AtT.only (i := 13) (by kernel_rfl) rfl rfl ?_
              intro K hK
              have hc := (hM.ow .here).cellNote hjn
              rw [EX.out] at hc
              have hc0 := hc.1
              have hc1 := hc.2.1
              have hc2 := hc.2.2.1
              have hc3 := hc.2.2.2
              go_simp
              clear hc hc0 hc1 hc2 hc3
              try dsimp only
              refine hK.out _ _ (hM.tail) ?_
              clear hK K hS
              have hS := hM.tail
              refine AtT.tk 14 ?_ 51 ?_ hS ?_
              rotate_left
              · (intro wS hSw; (try dsimp only at hSw); go_simp; (try rw [if_neg (by omega)]); try with_reducible rfl)
              simp only [Act.put, sA]
              refine AtT.only (i := 15) (by kernel_rfl) rfl rfl ?_
              intro K hK
              have hc := (hM.ow .here).cellNote hjn
              have hc0 := hc.1
              have hc1 := hc.2.1
              have hc2 := hc.2.2.1
              have hc3 := hc.2.2.2
              have hfe := (hM.ow .here).free
              go_simp
              clear hc hc0 hc1 hc2 hc3 hfe
              replace hM := hM.putNote hjn y HWY.out .here
              try dsimp only
              refine hK.out _ _ (hM.tail) ?_
              clear hK K hS
              have hS := hM.tail
              refine AtT.tk 16 ?_ 52 ?_ hS ?_
              rotate_left
              · (intro wS hSw; (try dsimp only at hSw); go_simp; (try rw [if_neg (by omega)]); try with_reducible rfl)
              simp only [Act.put, sA]
              refine AtT.last (by kernel_rfl) rfl (by kernel_rfl) ?_
              intro K hK
              clear hS
              have hc := (hM.ow .here).cellNote hin
              have hc0 := hc.1
              have hc1 := hc.2.1
              have hc2 := hc.2.2.1
              have hc3 := hc.2.2.2
              have hfe := (hM.ow .here).free
              go_simp
              refine hK.out _ _ ?_
              clear hK K
              have hM2 := Lib.hid (hM.putNote hin x HWX.out .here)
              clear hM hc hc0 hc1 hc2 hc3 hfe
              go_wp2
              go_roundw
              case rel => exact ⟨i, (zs.set j y).set i x, hai, by omega, rfl, HPN, hM2.out⟩
              case measure => simp [intOf]; omega
            · skip
              intro K hK
              have hc := (hM.ow .here).cellNote hjn
              rw [EX.out] at hc
              have hc0 := hc.1
              have hc1 := hc.2.1
              have hc2 := hc.2.2.1
              have hc3 := hc.2.2.2
              go_simp
              clear hc hc0 hc1 hc2 hc3
              try dsimp only
              refine hK.out _ _ (hM.tail) ?_
              clear hK K hS
              have hS := hM.tail
              refine AtT.only (i := 9) (by kernel_rfl) rfl rfl ?_
              intro K hK
              have hc := (hM.ow .here).cellNote hin
              rw [EY.out] at hc
              have hc0 := hc.1
              have hc1 := hc.2.1
              have hc2 := hc.2.2.1
              have hc3 := hc.2.2.2
              go_simp
              clear hc hc0 hc1 hc2 hc3
              try dsimp only
              refine hK.out _ _ (hM.tail) ?_
              clear hK K hS
              have hS := hM.tail
              refine AtT.tk 14 ?_ 51 ?_ hS ?_
              rotate_left
              · (intro wS hSw; (try dsimp only at hSw); go_simp; (try rw [if_neg (by omega)]); try with_reducible rfl)
              simp only [Act.put, sA]
              refine AtT.only (i := 15) (by kernel_rfl) rfl rfl ?_
              intro K hK
              have hc := (hM.ow .here).cellNote hjn
              have hc0 := hc.1
              have hc1 := hc.2.1
              have hc2 := hc.2.2.1
              have hc3 := hc.2.2.2
              have hfe := (hM.ow .here).free
              go_simp
              clear hc hc0 hc1 hc2 hc3 hfe
              replace hM := hM.putNote hjn y HWY.out .here
              try dsimp only
              refine hK.out _ _ (hM.tail) ?_
              clear hK K hS
              have hS := hM.tail
              refine AtT.tk 16 ?_ 52 ?_ hS ?_
              rotate_left
              · (intro wS hSw; (try dsimp only at hSw); go_simp; (try rw [if_neg (by omega)]); try with_reducible rfl)
              simp only [Act.put, sA]
              refine AtT.last (by kernel_rfl) rfl (by kernel_rfl) ?_
              intro K hK
              clear hS
              have hc := (hM.ow .here).cellNote hin
              have hc0 := hc.1
              have hc1 := hc.2.1
              have hc2 := hc.2.2.1
              have hc3 := hc.2.2.2
              have hfe := (hM.ow .here).free
              go_simp
              refine hK.out _ _ ?_
              clear hK K
              have hM2 := Lib.hid (hM.putNote hin x HWX.out .here)
              clear hM hc hc0 hc1 hc2 hc3 hfe
              go_wp2
              go_roundw
              case rel => exact ⟨i, (zs.set j y).set i x, hai, by omega, rfl, HPN, hM2.out⟩
              case measure => simp [intOf]; omega
    · have hkc : ¬ (k : Int) < (b : Int) := by omega
      go_wp2
      go_end0
      exact ⟨rfl, zs, HPM.out, hM⟩

set_option maxRecDepth 100000 in
set_option maxHeartbeats 8000000 in
theorem symA_any (B : Nat) (w0 : World) (G : List Ent) (g n c : Nat) (xs : List NoteI) (f : FuncId) (caps : Array Value) (lt : NoteI → NoteI → Bool) (zs : List NoteI) (a m b : Nat) (w : World) (hn : n ≤ 1000) (ham : a < m) (hmb : m < b) (hbn : b ≤ n) (hp : zs.Perm xs) (hM : Mem B w0 w (owE FNote 40 (some ⟨g, 0, none⟩) n c zs :: G)) (h1 : m - a = 1)
    (hcf : ∀ args w, (callFunc f args).run Tryz.prog w = .ok (.enter f args) w) (hc : ComparesNote f caps lt B w0 G xs) :
    Calls Tryz.prog 98 #[.slice (some ⟨g, 0, none⟩) n c, .int .i64 a, .int .i64 m, .int .i64 b, .func (.func f) #[] caps] w fun e w' => e = .returned (.tuple #[]) ∧ ∃ ys, ys.Perm xs ∧ Mem B w0 w' (owE FNote 40 (some ⟨g, 0, none⟩) n c ys :: G) := by
  have HC := Lib.hid hc; clear hc
  have HW := Lib.hid (fun x (hx : x ∈ xs) => (hM.ow .here).rd.wf x (hp.mem_iff.2 hx))
  have HPM := Lib.hid hp; clear hp
  have HZL := Lib.hid (hM.ow .here).len
  obtain ⟨da, hda⟩ : ∃ da, m - a = da := ⟨_, rfl⟩
  obtain ⟨db, hdb⟩ : ∃ db, b - m = db := ⟨_, rfl⟩
  have hw1 : IntKind.i64.wrap ((m : Int) - (a : Int)) = (da : Int) := by rw [wrap_in (by omega)]; omega
  have hw2 : IntKind.i64.wrap ((b : Int) - (m : Int)) = (db : Int) := by rw [wrap_in (by omega)]; omega
  rw [hda] at h1
  clear hda hdb
  · have e1 : ((da : Int) == 1) = true := by simp; omega
    clear h1
    go_enter Tryz.func98, Tryz.ntmps98
    go_wp2
    go_loopw [10, 11] (fun s t wr => ∃ i j : Nat, m ≤ i ∧ i ≤ j ∧ j ≤ b ∧ s = .int .i64 i ∧ t = .int .i64 j ∧ Mem B w0 wr (owE FNote 40 (some ⟨g, 0, none⟩) n c zs :: G)) (fun s t _ => (intOf t).toNat - (intOf s).toNat)
    case atStart => exact ⟨m, b, Nat.le_refl _, by omega, Nat.le_refl _, rfl, rfl, hM⟩
    case round =>
      clear hM hw1 hw2 e1
      obtain ⟨i, j, hmi, hij, hjb, rfl, rfl, hM⟩ := hrel
      by_cases hlt : i < j
      · obtain ⟨h, hh⟩ : ∃ h : Nat, ((i : Int) + (j : Int)) / 2 = (h : Int) := ⟨(i + j) / 2, by omega⟩
        have hih : i ≤ h := by omega
        have hhj : h < j := by omega
        go_wp2_with fail
        clear hh
        have hxm := getD_memO (d := NoteI.zero) (xs := zs) (k := h) (by rw [HZL.out]; omega)
        have hym := getD_memO (d := NoteI.zero) (xs := zs) (k := a) (by rw [HZL.out]; omega)
        have wx := HW.out _ (HPM.out.mem_iff.1 hxm)
        have wy := HW.out _ (HPM.out.mem_iff.1 hym)
        have hpm := fun x y => swapN_perm (x := x) (y := y) (zs := zs) (p := h) (q := a) (by rw [HZL.out]; omega) (by rw [HZL.out]; omega)
        obtain ⟨x, ex⟩ : ∃ x, zs.getD h NoteI.zero = x := ⟨_, rfl⟩
        obtain ⟨y, ey⟩ : ∃ y, zs.getD a NoteI.zero = y := ⟨_, rfl⟩
        have HPN := Lib.hid ((hpm x y ex ey).trans HPM.out)
        rw [ex] at hxm wx
        rw [ey] at hym wy
        have EX := Lib.hid ex; have EY := Lib.hid ey
        have HWX := Lib.hid wx; have HWY := Lib.hid wy
        have HXM := Lib.hid (HPM.out.mem_iff.1 hxm); have HYM := Lib.hid (HPM.out.mem_iff.1 hym)
        clear ex ey wx wy hpm hxm hym
        have c0 : (0 : Int) ≤ (h : Int) := by omega
        have c1 : (h : Int) < (n : Int) := by omega
        have d0 : (0 : Int) ≤ (a : Int) := by omega
        have d1 : (a : Int) < (n : Int) := by omega
        have hpn : h < n := by omega
        have hqn : a < n := by omega
        apply Mem.atWp
        · exact memA
        clear hM
        intro hM
        refine AtT.startA hM hM 10 (by kernel_rfl) ?_
        clear hM
        intro wd hM
        have hS := hM
        refine AtT.tk 0 ?_ 40 ?_ hS ?_
        rotate_left
        · (intro wS hSw; (try dsimp only at hSw); go_simp; (try rw [if_neg (by omega)]); try with_reducible rfl)
        simp only [Act.put, sA]
        refine AtT.tk 1 ?_ 41 ?_ hS ?_
        rotate_left
        · (intro wS hSw; (try dsimp only at hSw); go_simp; (try rw [if_neg (by omega)]); try with_reducible rfl)
        simp only [Act.put, sA]
        refine AtT.tk 2 ?_ 42 ?_ hS ?_
        rotate_left
        · (intro wS hSw; (try dsimp only at hSw); go_simp; (try rw [if_neg (by omega)]); try with_reducible rfl)
        simp only [Act.put, sA]
        refine AtT.tk 3 ?_ 43 ?_ hS ?_
        rotate_left
        · (intro wS hSw; (try dsimp only at hSw); have q1 := (hSw.ow .here).cellNote hpn; have q2 := (hSw.ow .here).cellNote hqn; rw [EX.out] at q1; rw [EY.out] at q2; have r0 := q1.1; have s0 := q2.1; have r1 := q1.2.1; have s1 := q2.2.1; have r2 := q1.2.2.1; have s2 := q2.2.2.1; have r3 := q1.2.2.2; have s3 := q2.2.2.2; go_simp; (try rw [if_neg (by omega)]); try with_reducible rfl)
        simp only [Act.put, sA]
        refine AtT.tk 4 ?_ 44 ?_ hS ?_
        rotate_left
        · (intro wS hSw; (try dsimp only at hSw); have q1 := (hSw.ow .here).cellNote hpn; have q2 := (hSw.ow .here).cellNote hqn; rw [EX.out] at q1; rw [EY.out] at q2; have r0 := q1.1; have s0 := q2.1; have r1 := q1.2.1; have s1 := q2.2.1; have r2 := q1.2.2.1; have s2 := q2.2.2.1; have r3 := q1.2.2.2; have s3 := q2.2.2.2; go_simp; (try rw [if_neg (by omega)]); try with_reducible rfl)
        simp only [Act.put, sA]
        refine AtT.tk 5 ?_ 45 ?_ hS ?_
        rotate_left
        · (intro wS hSw; (try dsimp only at hSw); go_simp; (try rw [if_neg (by omega)]); try with_reducible rfl)
        simp only [Act.put, sA]
        refine AtT.tk 6 ?_ 46 ?_ hS ?_
        rotate_left
        · (intro wS hSw; (try dsimp only at hSw); go_simp; (try rw [if_neg (by omega)]); try with_reducible rfl)
        simp only [Act.put, sA]
        refine AtT.tk 7 ?_ 47 ?_ hS ?_
        rotate_left
        · (intro wS hSw; (try dsimp only at hSw); have q1 := (hSw.ow .here).cellNote hpn; have q2 := (hSw.ow .here).cellNote hqn; rw [EX.out] at q1; rw [EY.out] at q2; have r0 := q1.1; have s0 := q2.1; have r1 := q1.2.1; have s1 := q2.2.1; have r2 := q1.2.2.1; have s2 := q2.2.2.1; have r3 := q1.2.2.2; have s3 := q2.2.2.2; go_simp; (try rw [if_neg (by omega)]); try with_reducible rfl)
        simp only [Act.put, sA]
        refine AtT.tk 8 ?_ 48 ?_ hS ?_
        rotate_left
        · (intro wS hSw; (try dsimp only at hSw); have q1 := (hSw.ow .here).cellNote hpn; have q2 := (hSw.ow .here).cellNote hqn; rw [EX.out] at q1; rw [EY.out] at q2; have r0 := q1.1; have s0 := q2.1; have r1 := q1.2.1; have s1 := q2.2.1; have r2 := q1.2.2.1; have s2 := q2.2.2.1; have r3 := q1.2.2.2; have s3 := q2.2.2.2; go_simp; (try rw [if_neg (by omega)]); try with_reducible rfl)
        simp only [Act.put, sA]
        refine AtT.only (i := 9) (by kernel_rfl) rfl rfl ?_
        intro K hK
        go_simp
        refine (HC.out x HXM.out y HYM.out _ hM.tail).mono ?_
        rintro e w2 ⟨⟨r, rfl, hr⟩, hb⟩
        have HR := Lib.hid hr; clear hr
        replace hM := hM.ext hb
        clear hb
        try dsimp only
        refine hK.out _ _ (hM) ?_
        clear hK K hS
        have hS := hM
        refine AtT.last (by kernel_rfl) rfl (by kernel_rfl) ?_
        intro K hK
        clear hS
        go_simp
        refine hK.out _ _ ?_
        clear hK K
        cases hl : lt x y
        · have hr2 : 0 ≤ r := by have := HR.out; rw [hl] at this; simpa using this
          go_wp2
          go_roundw
          case rel => exact ⟨i, h, hmi, hih, by omega, rfl, rfl, hM⟩
          case measure => simp [intOf]; omega
        · have hr2 : r < 0 := by have := HR.out; rw [hl] at this; simpa using this
          go_wp2
          go_roundw
          case rel => exact ⟨h + 1, j, by omega, by omega, hjb, by go_num, rfl, hM⟩
          case measure => simp [intOf]; omega
      · obtain rfl : i = j := by omega
        obtain ⟨i1, hi1⟩ : ∃ i1, i - 1 = i1 := ⟨_, rfl⟩
        have hwi : IntKind.i64.wrap ((i : Int) - 1) = (i1 : Int) := by rw [wrap_in (by omega)]; omega
        have HI1 := Lib.hid hi1; clear hi1
        go_wp2
        go_loopw [13] (fun s wr => ∃ (k : Nat) (zs : List NoteI), a ≤ k ∧ k ≤ i1 ∧ s = .int .i64 k ∧ Hid (zs.Perm xs) ∧ Mem B w0 wr (owE FNote 40 (some ⟨g, 0, none⟩) n c zs :: G)) (fun s _ => i1 - (intOf s).toNat)
        case atStart => exact ⟨a, zs, Nat.le_refl _, by have := HI1.out; omega, rfl, HPM, hM⟩
        case round =>
          clear hM HPM HZL
          obtain ⟨k, zs, hak, hk, rfl, HPM, hM⟩ := hrel
          have HZL := Lib.hid (hM.ow .here).len
          by_cases hlk : k < i1
          · have hkn : k + 1 < n := by have := HI1.out; omega
            obtain ⟨q, hq⟩ : ∃ q, k + 1 = q := ⟨_, rfl⟩
            have hwq : IntKind.i64.wrap ((k : Int) + 1) = (q : Int) := by rw [wrap_in (by omega)]; omega
            have hpn : k < n := by omega
            have hqn : q < n := by omega
            have hne : q ≠ k := by omega
            have hkq : k < q := by omega
            have hqi : q ≤ i1 := by omega
            clear hq hkn
            have hxm := getD_memO (d := NoteI.zero) (xs := zs) (k := k) (by rw [HZL.out]; omega)
            have hym := getD_memO (d := NoteI.zero) (xs := zs) (k := q) (by rw [HZL.out]; omega)
            have wx := HW.out _ (HPM.out.mem_iff.1 hxm)
            have wy := HW.out _ (HPM.out.mem_iff.1 hym)
            have hpm := fun x y => swapN_perm (x := x) (y := y) (zs := zs) (p := k) (q := q) (by rw [HZL.out]; omega) (by rw [HZL.out]; omega)
            obtain ⟨x, ex⟩ : ∃ x, zs.getD k NoteI.zero = x := ⟨_, rfl⟩
            obtain ⟨y, ey⟩ : ∃ y, zs.getD q NoteI.zero = y := ⟨_, rfl⟩
            have HPN := Lib.hid ((hpm x y ex ey).trans HPM.out)
            rw [ex] at hxm wx
            rw [ey] at hym wy
            have EX := Lib.hid ex; have EY := Lib.hid ey
            have HWX := Lib.hid wx; have HWY := Lib.hid wy
            have HXM := Lib.hid (HPM.out.mem_iff.1 hxm); have HYM := Lib.hid (HPM.out.mem_iff.1 hym)
            clear ex ey wx wy hpm hxm hym
            have i0 : (0 : Int) ≤ (k : Int) := by omega
            have i1' : (k : Int) < (n : Int) := by omega
            have j0 : (0 : Int) ≤ (q : Int) := by omega
            have j1 : (q : Int) < (n : Int) := by omega
            go_wp2_with fail
            apply Mem.atWp
            · exact memA
            clear hM
            intro hM
            refine AtT.startA hM.tail hM 17 (by kernel_rfl) ?_
            clear hM
            intro wd hM
            have hS := hM.tail
            refine AtT.tk 0 ?_ 61 ?_ hS ?_
            rotate_left
            · (intro wS hSw; (try dsimp only at hSw); go_simp; (try rw [if_neg (by omega)]); try with_reducible rfl)
            simp only [Act.put, sA]
            refine AtT.tk 1 ?_ 62 ?_ hS ?_
            rotate_left
            · (intro wS hSw; (try dsimp only at hSw); go_simp; (try rw [if_neg (by omega)]); try with_reducible rfl)
            simp only [Act.put, sA]
            refine AtT.tk 2 ?_ 63 ?_ hS ?_
            rotate_left
            · (intro wS hSw; (try dsimp only at hSw); go_simp; (try rw [if_neg (by omega)]); try with_reducible rfl)
            simp only [Act.put, sA]
            refine AtT.tk 3 ?_ 64 ?_ hS ?_
            rotate_left
            · (intro wS hSw; (try dsimp only at hSw); go_simp; (try rw [if_neg (by omega)]); try with_reducible rfl)
            simp only [Act.put, sA]
            refine AtT.tk 4 ?_ 65 ?_ hS ?_
            rotate_left
            · (intro wS hSw; (try dsimp only at hSw); go_simp; (try rw [if_neg (by omega)]); try with_reducible rfl)
            simp only [Act.put, sA]
            refine AtT.tk 5 ?_ 66 ?_ hS ?_
            rotate_left
            · (intro wS hSw; (try dsimp only at hSw); go_simp; (try rw [if_neg (by omega)]); try with_reducible rfl)
            simp only [Act.put, sA]
            refine AtT.tk 6 ?_ 67 ?_ hS ?_
            rotate_left
            · (intro wS hSw; (try dsimp only at hSw); go_simp; (try rw [if_neg (by omega)]); try with_reducible rfl)
            simp only [Act.put, sA]
            refine AtT.tk 7 ?_ 68 ?_ hS ?_
            rotate_left
            · (intro wS hSw; (try dsimp only at hSw); go_simp; (try rw [if_neg (by omega)]); try with_reducible rfl)
            simp only [Act.put, sA]
            refine AtT.tk 8 ?_ 69 ?_ hS ?_
            rotate_left
            · (intro wS hSw; (try dsimp only at hSw); go_simp; (try rw [if_neg (by omega)]); try with_reducible rfl)
            simp only [Act.put, sA]
            refine AtT.tk 10 ?_ 71 ?_ hS ?_
            rotate_left
            · (intro wS hSw; (try dsimp only at hSw); go_simp; (try rw [if_neg (by omega)]); try with_reducible rfl)
            simp only [Act.put, sA]
            refine AtT.tk 11 ?_ 72 ?_ hS ?_
            rotate_left
            · (intro wS hSw; (try dsimp only at hSw); go_simp; (try rw [if_neg (by omega)]); try with_reducible rfl)
            simp only [Act.put, sA]
            refine AtT.tk 12 ?_ 73 ?_ hS ?_
            rotate_left
            · (intro wS hSw; (try dsimp only at hSw); go_simp; (try rw [if_neg (by omega)]); try with_reducible rfl)
            simp only [Act.put, sA]
            refine AtT.two (i := 9) (j := 13) (by kernel_rfl) rfl rfl rfl rfl ?_ ?_
            · skip
              intro K hK
              have hc := (hM.ow .here).cellNote hqn
              rw [EY.out] at hc
              have hc0 := hc.1
              have hc1 := hc.2.1
              have hc2 := hc.2.2.1
              have hc3 := hc.2.2.2
              go_simp
              clear hc hc0 hc1 hc2 hc3
              try dsimp only
              refine hK.out _ _ (hM.tail) ?_
              clear hK K hS
              have hS := hM.tail
              refine AtT.only (i := 13) (by kernel_rfl) rfl rfl ?_
              intro K hK
              have hc := (hM.ow .here).cellNote hpn
              rw [EX.out] at hc
              have hc0 := hc.1
              have hc1 := hc.2.1
              have hc2 := hc.2.2.1
              have hc3 := hc.2.2.2
              go_simp
              clear hc hc0 hc1 hc2 hc3
              try dsimp only
              refine hK.out _ _ (hM.tail) ?_
              clear hK K hS
              have hS := hM.tail
              refine AtT.tk 14 ?_ 75 ?_ hS ?_
              rotate_left
              · (intro wS hSw; (try dsimp only at hSw); go_simp; (try rw [if_neg (by omega)]); try with_reducible rfl)
              simp only [Act.put, sA]
              refine AtT.only (i := 15) (by kernel_rfl) rfl rfl ?_
              intro K hK
              have hc := (hM.ow .here).cellNote hpn
              have hc0 := hc.1
              have hc1 := hc.2.1
              have hc2 := hc.2.2.1
              have hc3 := hc.2.2.2
              have hfe := (hM.ow .here).free
              go_simp
              clear hc hc0 hc1 hc2 hc3 hfe
              replace hM := hM.putNote hpn y HWY.out .here
              try dsimp only
              refine hK.out _ _ (hM.tail) ?_
              clear hK K hS
              have hS := hM.tail
              refine AtT.tk 16 ?_ 76 ?_ hS ?_
              rotate_left
              · (intro wS hSw; (try dsimp only at hSw); go_simp; (try rw [if_neg (by omega)]); try with_reducible rfl)
              simp only [Act.put, sA]
              refine AtT.last (by kernel_rfl) rfl (by kernel_rfl) ?_
              intro K hK
              clear hS
              have hc := (hM.ow .here).cellNote hqn
              have hc0 := hc.1
              have hc1 := hc.2.1
              have hc2 := hc.2.2.1
              have hc3 := hc.2.2.2
              have hfe := (hM.ow .here).free
              go_simp
              refine hK.out _ _ ?_
              clear hK K
              have hM2 := Lib.hid (hM.putNote hqn x HWX.out .here)
              clear hM hc hc0 hc1 hc2 hc3 hfe
              go_wp2
              go_roundw
              case rel => exact ⟨q, (zs.set k y).set q x, by omega, hqi, rfl, HPN, hM2.out⟩
              case measure => simp [intOf]; omega
            · skip
              intro K hK
              have hc := (hM.ow .here).cellNote hpn
              rw [EX.out] at hc
              have hc0 := hc.1
              have hc1 := hc.2.1
              have hc2 := hc.2.2.1
              have hc3 := hc.2.2.2
              go_simp
              clear hc hc0 hc1 hc2 hc3
              try dsimp only
              refine hK.out _ _ (hM.tail) ?_
              clear hK K hS
              have hS := hM.tail
              refine AtT.only (i := 9) (by kernel_rfl) rfl rfl ?_
              intro K hK
              have hc := (hM.ow .here).cellNote hqn
              rw [EY.out] at hc
              have hc0 := hc.1
              have hc1 := hc.2.1
              have hc2 := hc.2.2.1
              have hc3 := hc.2.2.2
              go_simp
              clear hc hc0 hc1 hc2 hc3
              try dsimp only
              refine hK.out _ _ (hM.tail) ?_
              clear hK K hS
              have hS := hM.tail
              refine AtT.tk 14 ?_ 75 ?_ hS ?_
              rotate_left
              · (intro wS hSw; (try dsimp only at hSw); go_simp; (try rw [if_neg (by omega)]); try with_reducible rfl)
              simp only [Act.put, sA]
              refine AtT.only (i := 15) (by kernel_rfl) rfl rfl ?_
              intro K hK
              have hc := (hM.ow .here).cellNote hpn
              have hc0 := hc.1
              have hc1 := hc.2.1
              have hc2 := hc.2.2.1
              have hc3 := hc.2.2.2
              have hfe := (hM.ow .here).free
              go_simp
              clear hc hc0 hc1 hc2 hc3 hfe
              replace hM := hM.putNote hpn y HWY.out .here
              try dsimp only
              refine hK.out _ _ (hM.tail) ?_
              clear hK K hS
              have hS := hM.tail
              refine AtT.tk 16 ?_ 76 ?_ hS ?_
              rotate_left
              · (intro wS hSw; (try dsimp only at hSw); go_simp; (try rw [if_neg (by omega)]); try with_reducible rfl)
              simp only [Act.put, sA]
              refine AtT.last (by kernel_rfl) rfl (by kernel_rfl) ?_
              intro K hK
              clear hS
              have hc := (hM.ow .here).cellNote hqn
              have hc0 := hc.1
              have hc1 := hc.2.1
              have hc2 := hc.2.2.1
              have hc3 := hc.2.2.2
              have hfe := (hM.ow .here).free
              go_simp
              refine hK.out _ _ ?_
              clear hK K
              have hM2 := Lib.hid (hM.putNote hqn x HWX.out .here)
              clear hM hc hc0 hc1 hc2 hc3 hfe
              go_wp2
              go_roundw
              case rel => exact ⟨q, (zs.set k y).set q x, by omega, hqi, rfl, HPN, hM2.out⟩
              case measure => simp [intOf]; omega
          · go_wp2
            (try simp only [Exit.inBlock, Exit.then]); refine bodyPost_ret (results_none rfl _ _ _) rfl ?_
            exact ⟨rfl, zs, HPM.out, hM⟩

set_option maxRecDepth 100000 in
set_option maxHeartbeats 8000000 in
theorem symB_any (B : Nat) (w0 : World) (G : List Ent) (g n c : Nat) (xs : List NoteI) (f : FuncId) (caps : Array Value) (lt : NoteI → NoteI → Bool) (zs : List NoteI) (a m b : Nat) (w : World) (hn : n ≤ 1000) (ham : a < m) (hmb : m < b) (hbn : b ≤ n) (hp : zs.Perm xs) (hM : Mem B w0 w (owE FNote 40 (some ⟨g, 0, none⟩) n c zs :: G)) (h1 : ¬ m - a = 1) (h2 : b - m = 1)
    (hcf : ∀ args w, (callFunc f args).run Tryz.prog w = .ok (.enter f args) w) (hc : ComparesNote f caps lt B w0 G xs) :
    Calls Tryz.prog 98 #[.slice (some ⟨g, 0, none⟩) n c, .int .i64 a, .int .i64 m, .int .i64 b, .func (.func f) #[] caps] w fun e w' => e = .returned (.tuple #[]) ∧ ∃ ys, ys.Perm xs ∧ Mem B w0 w' (owE FNote 40 (some ⟨g, 0, none⟩) n c ys :: G) := by
  have HC := Lib.hid hc; clear hc
  have HW := Lib.hid (fun x (hx : x ∈ xs) => (hM.ow .here).rd.wf x (hp.mem_iff.2 hx))
  have HPM := Lib.hid hp; clear hp
  have HZL := Lib.hid (hM.ow .here).len
  obtain ⟨da, hda⟩ : ∃ da, m - a = da := ⟨_, rfl⟩
  obtain ⟨db, hdb⟩ : ∃ db, b - m = db := ⟨_, rfl⟩
  have hw1 : IntKind.i64.wrap ((m : Int) - (a : Int)) = (da : Int) := by rw [wrap_in (by omega)]; omega
  have hw2 : IntKind.i64.wrap ((b : Int) - (m : Int)) = (db : Int) := by rw [wrap_in (by omega)]; omega
  rw [hda] at h1
  rw [hdb] at h2
  clear hda hdb
  have e1 : ((da : Int) == 1) = false := by simp; omega
  · have e2 : ((db : Int) == 1) = true := by simp; omega
    clear h1 h2
    go_enter Tryz.func98, Tryz.ntmps98
    go_wp2
    go_loopw [14, 15] (fun s t wr => ∃ i j : Nat, a ≤ i ∧ i ≤ j ∧ j ≤ m ∧ s = .int .i64 i ∧ t = .int .i64 j ∧ Mem B w0 wr (owE FNote 40 (some ⟨g, 0, none⟩) n c zs :: G)) (fun s t _ => (intOf t).toNat - (intOf s).toNat)
    case atStart => exact ⟨a, m, Nat.le_refl _, by omega, Nat.le_refl _, rfl, rfl, hM⟩
    case round =>
      clear hM hw1 hw2 e1 e2
      obtain ⟨i, j, hmi, hij, hjb, rfl, rfl, hM⟩ := hrel
      by_cases hlt : i < j
      · obtain ⟨h, hh⟩ : ∃ h : Nat, ((i : Int) + (j : Int)) / 2 = (h : Int) := ⟨(i + j) / 2, by omega⟩
        have hih : i ≤ h := by omega
        have hhj : h < j := by omega
        go_wp2_with fail
        clear hh
        have hxm := getD_memO (d := NoteI.zero) (xs := zs) (k := m) (by rw [HZL.out]; omega)
        have hym := getD_memO (d := NoteI.zero) (xs := zs) (k := h) (by rw [HZL.out]; omega)
        have wx := HW.out _ (HPM.out.mem_iff.1 hxm)
        have wy := HW.out _ (HPM.out.mem_iff.1 hym)
        have hpm := fun x y => swapN_perm (x := x) (y := y) (zs := zs) (p := m) (q := h) (by rw [HZL.out]; omega) (by rw [HZL.out]; omega)
        obtain ⟨x, ex⟩ : ∃ x, zs.getD m NoteI.zero = x := ⟨_, rfl⟩
        obtain ⟨y, ey⟩ : ∃ y, zs.getD h NoteI.zero = y := ⟨_, rfl⟩
        have HPN := Lib.hid ((hpm x y ex ey).trans HPM.out)
        rw [ex] at hxm wx
        rw [ey] at hym wy
        have EX := Lib.hid ex; have EY := Lib.hid ey
        have HWX := Lib.hid wx; have HWY := Lib.hid wy
        have HXM := Lib.hid (HPM.out.mem_iff.1 hxm); have HYM := Lib.hid (HPM.out.mem_iff.1 hym)
        clear ex ey wx wy hpm hxm hym
        have c0 : (0 : Int) ≤ (m : Int) := by omega
        have c1 : (m : Int) < (n : Int) := by omega
        have d0 : (0 : Int) ≤ (h : Int) := by omega
        have d1 : (h : Int) < (n : Int) := by omega
        have hpn : m < n := by omega
        have hqn : h < n := by omega
        apply Mem.atWp
        · exact memA
        clear hM
        intro hM
        refine AtT.startA hM hM 11 (by kernel_rfl) ?_
        clear hM
        intro wd hM
        have hS := hM
        refine AtT.tk 0 ?_ 92 ?_ hS ?_
        rotate_left
        · (intro wS hSw; (try dsimp only at hSw); go_simp; (try rw [if_neg (by omega)]); try with_reducible rfl)
        simp only [Act.put, sA]
        refine AtT.tk 1 ?_ 93 ?_ hS ?_
        rotate_left
        · (intro wS hSw; (try dsimp only at hSw); go_simp; (try rw [if_neg (by omega)]); try with_reducible rfl)
        simp only [Act.put, sA]
        refine AtT.tk 2 ?_ 94 ?_ hS ?_
        rotate_left
        · (intro wS hSw; (try dsimp only at hSw); go_simp; (try rw [if_neg (by omega)]); try with_reducible rfl)
        simp only [Act.put, sA]
        refine AtT.tk 3 ?_ 95 ?_ hS ?_
        rotate_left
        · (intro wS hSw; (try dsimp only at hSw); have q1 := (hSw.ow .here).cellNote hpn; have q2 := (hSw.ow .here).cellNote hqn; rw [EX.out] at q1; rw [EY.out] at q2; have r0 := q1.1; have s0 := q2.1; have r1 := q1.2.1; have s1 := q2.2.1; have r2 := q1.2.2.1; have s2 := q2.2.2.1; have r3 := q1.2.2.2; have s3 := q2.2.2.2; go_simp; (try rw [if_neg (by omega)]); try with_reducible rfl)
        simp only [Act.put, sA]
        refine AtT.tk 4 ?_ 96 ?_ hS ?_
        rotate_left
        · (intro wS hSw; (try dsimp only at hSw); have q1 := (hSw.ow .here).cellNote hpn; have q2 := (hSw.ow .here).cellNote hqn; rw [EX.out] at q1; rw [EY.out] at q2; have r0 := q1.1; have s0 := q2.1; have r1 := q1.2.1; have s1 := q2.2.1; have r2 := q1.2.2.1; have s2 := q2.2.2.1; have r3 := q1.2.2.2; have s3 := q2.2.2.2; go_simp; (try rw [if_neg (by omega)]); try with_reducible rfl)
        simp only [Act.put, sA]
        refine AtT.tk 5 ?_ 97 ?_ hS ?_
        rotate_left
        · (intro wS hSw; (try dsimp only at hSw); go_simp; (try rw [if_neg (by omega)]); try with_reducible rfl)
        simp only [Act.put, sA]
        refine AtT.tk 6 ?_ 98 ?_ hS ?_
        rotate_left
        · (intro wS hSw; (try dsimp only at hSw); go_simp; (try rw [if_neg (by omega)]); try with_reducible rfl)
        simp only [Act.put, sA]
        refine AtT.tk 7 ?_ 99 ?_ hS ?_
        rotate_left
        · (intro wS hSw; (try dsimp only at hSw); have q1 := (hSw.ow .here).cellNote hpn; have q2 := (hSw.ow .here).cellNote hqn; rw [EX.out] at q1; rw [EY.out] at q2; have r0 := q1.1; have s0 := q2.1; have r1 := q1.2.1; have s1 := q2.2.1; have r2 := q1.2.2.1; have s2 := q2.2.2.1; have r3 := q1.2.2.2; have s3 := q2.2.2.2; go_simp; (try rw [if_neg (by omega)]); try with_reducible rfl)
        simp only [Act.put, sA]
        refine AtT.tk 8 ?_ 100 ?_ hS ?_
        rotate_left
        · (intro wS hSw; (try dsimp only at hSw); have q1 := (hSw.ow .here).cellNote hpn; have q2 := (hSw.ow .here).cellNote hqn; rw [EX.out] at q1; rw [EY.out] at q2; have r0 := q1.1; have s0 := q2.1; have r1 := q1.2.1; have s1 := q2.2.1; have r2 := q1.2.2.1; have s2 := q2.2.2.1; have r3 := q1.2.2.2; have s3 := q2.2.2.2; go_simp; (try rw [if_neg (by omega)]); try with_reducible rfl)
        simp only [Act.put, sA]
        refine AtT.only (i := 9) (by kernel_rfl) rfl rfl ?_
        intro K hK
        go_simp
        refine (HC.out x HXM.out y HYM.out _ hM.tail).mono ?_
        rintro e w2 ⟨⟨r, rfl, hr⟩, hb⟩
        have HR := Lib.hid hr; clear hr
        replace hM := hM.ext hb
        clear hb
        try dsimp only
        refine hK.out _ _ (hM) ?_
        clear hK K hS
        have hS := hM
        refine AtT.tk 10 ?_ 102 ?_ hS ?_
        rotate_left
        · (intro wS hSw; (try dsimp only at hSw); go_simp; (try rw [if_neg (by omega)]); try with_reducible rfl)
        simp only [Act.put, sA]
        refine AtT.last (by kernel_rfl) rfl (by kernel_rfl) ?_
        intro K hK
        clear hS
        go_simp
        refine hK.out _ _ ?_
        clear hK K
        cases hl : lt x y
        · have hr2 : (!decide (r < 0)) = true := by rw [HR.out, hl]; rfl
          go_wp2
          any_goals (exfalso; rename_i hx; rw [hr2] at hx; cases hx; done)
          go_roundw
          case rel => exact ⟨h + 1, j, by omega, by omega, hjb, by go_num, rfl, hM⟩
          case measure => simp [intOf]; omega
        · have hr2 : (!decide (r < 0)) = false := by rw [HR.out, hl]; rfl
          go_wp2
          any_goals (exfalso; rename_i hx; rw [hr2] at hx; cases hx; done)
          go_roundw
          case rel => exact ⟨i, h, hmi, hih, by omega, rfl, rfl, hM⟩
          case measure => simp [intOf]; omega
      · obtain rfl : i = j := by omega
        go_wp2
        go_loopw [17] (fun s wr => ∃ (k : Nat) (zs : List NoteI), i ≤ k ∧ k ≤ m ∧ s = .int .i64 k ∧ Hid (zs.Perm xs) ∧ Mem B w0 wr (owE FNote 40 (some ⟨g, 0, none⟩) n c zs :: G)) (fun s _ => (intOf s).toNat)
        case atStart => exact ⟨m, zs, hjb, Nat.le_refl _, rfl, HPM, hM⟩
        case round =>
          clear hM HPM HZL
          obtain ⟨k, zs, hak, hk, rfl, HPM, hM⟩ := hrel
          have HZL := Lib.hid (hM.ow .here).len
          by_cases hlk : i < k
          · obtain ⟨q, hq⟩ : ∃ q, k - 1 = q := ⟨_, rfl⟩
            have hwq : IntKind.i64.wrap ((k : Int) - 1) = (q : Int) := by rw [wrap_in (by omega)]; omega
            have hpn : k < n := by omega
            have hqn : q < n := by omega
            have hne : q ≠ k := by omega
            have hkq : q < k := by omega
            have hiq : i ≤ q := by omega
            clear hq
            have hxm := getD_memO (d := NoteI.zero) (xs := zs) (k := k) (by rw [HZL.out]; omega)
            have hym := getD_memO (d := NoteI.zero) (xs := zs) (k := q) (by rw [HZL.out]; omega)
            have wx := HW.out _ (HPM.out.mem_iff.1 hxm)
            have wy := HW.out _ (HPM.out.mem_iff.1 hym)
            have hpm := fun x y => swapN_perm (x := x) (y := y) (zs := zs) (p := k) (q := q) (by rw [HZL.out]; omega) (by rw [HZL.out]; omega)
            obtain ⟨x, ex⟩ : ∃ x, zs.getD k NoteI.zero = x := ⟨_, rfl⟩
            obtain ⟨y, ey⟩ : ∃ y, zs.getD q NoteI.zero = y := ⟨_, rfl⟩
            have HPN := Lib.hid ((hpm x y ex ey).trans HPM.out)
            rw [ex] at hxm wx
            rw [ey] at hym wy
            have EX := Lib.hid ex; have EY := Lib.hid ey
            have HWX := Lib.hid wx; have HWY := Lib.hid wy
            have HXM := Lib.hid (HPM.out.mem_iff.1 hxm); have HYM := Lib.hid (HPM.out.mem_iff.1 hym)
            clear ex ey wx wy hpm hxm hym
            have i0 : (0 : Int) ≤ (k : Int) := by omega
            have i1' : (k : Int) < (n : Int) := by omega
            have j0 : (0 : Int) ≤ (q : Int) := by omega
            have j1 : (q : Int) < (n : Int) := by omega
            go_wp2_with fail
            apply Mem.atWp
            · exact memA
            clear hM
            intro hM
            refine AtT.startA hM.tail hM 17 (by kernel_rfl) ?_
            clear hM
            intro wd hM
            have hS := hM.tail
            refine AtT.tk 0 ?_ 113 ?_ hS ?_
            rotate_left
            · (intro wS hSw; (try dsimp only at hSw); go_simp; (try rw [if_neg (by omega)]); try with_reducible rfl)
            simp only [Act.put, sA]
            refine AtT.tk 1 ?_ 114 ?_ hS ?_
            rotate_left
            · (intro wS hSw; (try dsimp only at hSw); go_simp; (try rw [if_neg (by omega)]); try with_reducible rfl)
            simp only [Act.put, sA]
            refine AtT.tk 2 ?_ 115 ?_ hS ?_
            rotate_left
            · (intro wS hSw; (try dsimp only at hSw); go_simp; (try rw [if_neg (by omega)]); try with_reducible rfl)
            simp only [Act.put, sA]
            refine AtT.tk 3 ?_ 116 ?_ hS ?_
            rotate_left
            · (intro wS hSw; (try dsimp only at hSw); go_simp; (try rw [if_neg (by omega)]); try with_reducible rfl)
            simp only [Act.put, sA]
            refine AtT.tk 4 ?_ 117 ?_ hS ?_
            rotate_left
            · (intro wS hSw; (try dsimp only at hSw); go_simp; (try rw [if_neg (by omega)]); try with_reducible rfl)
            simp only [Act.put, sA]
            refine AtT.tk 5 ?_ 118 ?_ hS ?_
            rotate_left
            · (intro wS hSw; (try dsimp only at hSw); go_simp; (try rw [if_neg (by omega)]); try with_reducible rfl)
            simp only [Act.put, sA]
            refine AtT.tk 6 ?_ 119 ?_ hS ?_
            rotate_left
            · (intro wS hSw; (try dsimp only at hSw); go_simp; (try rw [if_neg (by omega)]); try with_reducible rfl)
            simp only [Act.put, sA]
            refine AtT.tk 7 ?_ 120 ?_ hS ?_
            rotate_left
            · (intro wS hSw; (try dsimp only at hSw); go_simp; (try rw [if_neg (by omega)]); try with_reducible rfl)
            simp only [Act.put, sA]
            refine AtT.tk 8 ?_ 121 ?_ hS ?_
            rotate_left
            · (intro wS hSw; (try dsimp only at hSw); go_simp; (try rw [if_neg (by omega)]); try with_reducible rfl)
            simp only [Act.put, sA]
            refine AtT.tk 10 ?_ 123 ?_ hS ?_
            rotate_left
            · (intro wS hSw; (try dsimp only at hSw); go_simp; (try rw [if_neg (by omega)]); try with_reducible rfl)
            simp only [Act.put, sA]
            refine AtT.tk 11 ?_ 124 ?_ hS ?_
            rotate_left
            · (intro wS hSw; (try dsimp only at hSw); go_simp; (try rw [if_neg (by omega)]); try with_reducible rfl)
            simp only [Act.put, sA]
            refine AtT.tk 12 ?_ 125 ?_ hS ?_
            rotate_left
            · (intro wS hSw; (try dsimp only at hSw); go_simp; (try rw [if_neg (by omega)]); try with_reducible rfl)
            simp only [Act.put, sA]
            refine AtT.two (i := 9) (j := 13) (by kernel_rfl) rfl rfl rfl rfl ?_ ?_
            · skip
              intro K hK
              have hc := (hM.ow .here).cellNote hqn
              rw [EY.out] at hc
              have hc0 := hc.1
              have hc1 := hc.2.1
              have hc2 := hc.2.2.1
              have hc3 := hc.2.2.2
              go_simp
              clear hc hc0 hc1 hc2 hc3
              try dsimp only
              refine hK.out _ _ (hM.tail) ?_
              clear hK K hS
              have hS := hM.tail
              refine AtT.only (i := 13) (by kernel_rfl) rfl rfl ?_
              intro K hK
              have hc := (hM.ow .here).cellNote hpn
              rw [EX.out] at hc
              have hc0 := hc.1
              have hc1 := hc.2.1
              have hc2 := hc.2.2.1
              have hc3 := hc.2.2.2
              go_simp
              clear hc hc0 hc1 hc2 hc3
              try dsimp only
              refine hK.out _ _ (hM.tail) ?_
              clear hK K hS
              have hS := hM.tail
              refine AtT.tk 14 ?_ 127 ?_ hS ?_
              rotate_left
              · (intro wS hSw; (try dsimp only at hSw); go_simp; (try rw [if_neg (by omega)]); try with_reducible rfl)
              simp only [Act.put, sA]
              refine AtT.only (i := 15) (by kernel_rfl) rfl rfl ?_
              intro K hK
              have hc := (hM.ow .here).cellNote hpn
              have hc0 := hc.1
              have hc1 := hc.2.1
              have hc2 := hc.2.2.1
              have hc3 := hc.2.2.2
              have hfe := (hM.ow .here).free
              go_simp
              clear hc hc0 hc1 hc2 hc3 hfe
              replace hM := hM.putNote hpn y HWY.out .here
              try dsimp only
              refine hK.out _ _ (hM.tail) ?_
              clear hK K hS
              have hS := hM.tail
              refine AtT.tk 16 ?_ 128 ?_ hS ?_
              rotate_left
              · (intro wS hSw; (try dsimp only at hSw); go_simp; (try rw [if_neg (by omega)]); try with_reducible rfl)
              simp only [Act.put, sA]
              refine AtT.last (by kernel_rfl) rfl (by kernel_rfl) ?_
              intro K hK
              clear hS
              have hc := (hM.ow .here).cellNote hqn
              have hc0 := hc.1
              have hc1 := hc.2.1
              have hc2 := hc.2.2.1
              have hc3 := hc.2.2.2
              have hfe := (hM.ow .here).free
              go_simp
              refine hK.out _ _ ?_
              clear hK K
              have hM2 := Lib.hid (hM.putNote hqn x HWX.out .here)
              clear hM hc hc0 hc1 hc2 hc3 hfe
              go_wp2
              go_roundw
              case rel => exact ⟨q, (zs.set k y).set q x, hiq, by omega, rfl, HPN, hM2.out⟩
              case measure => simp [intOf]; omega
            · skip
              intro K hK
              have hc := (hM.ow .here).cellNote hpn
              rw [EX.out] at hc
              have hc0 := hc.1
              have hc1 := hc.2.1
              have hc2 := hc.2.2.1
              have hc3 := hc.2.2.2
              go_simp
              clear hc hc0 hc1 hc2 hc3
              try dsimp only
              refine hK.out _ _ (hM.tail) ?_
              clear hK K hS
              have hS := hM.tail
              refine AtT.only (i := 9) (by kernel_rfl) rfl rfl ?_
              intro K hK
              have hc := (hM.ow .here).cellNote hqn
              rw [EY.out] at hc
              have hc0 := hc.1
              have hc1 := hc.2.1
              have hc2 := hc.2.2.1
              have hc3 := hc.2.2.2
              go_simp
              clear hc hc0 hc1 hc2 hc3
              try dsimp only
              refine hK.out _ _ (hM.tail) ?_
              clear hK K hS
              have hS := hM.tail
              refine AtT.tk 14 ?_ 127 ?_ hS ?_
              rotate_left
              · (intro wS hSw; (try dsimp only at hSw); go_simp; (try rw [if_neg (by omega)]); try with_reducible rfl)
              simp only [Act.put, sA]
              refine AtT.only (i := 15) (by kernel_rfl) rfl rfl ?_
              intro K hK
              have hc := (hM.ow .here).cellNote hpn
              have hc0 := hc.1
              have hc1 := hc.2.1
              have hc2 := hc.2.2.1
              have hc3 := hc.2.2.2
              have hfe := (hM.ow .here).free
              go_simp
              clear hc hc0 hc1 hc2 hc3 hfe
              replace hM := hM.putNote hpn y HWY.out .here
              try dsimp only
              refine hK.out _ _ (hM.tail) ?_
              clear hK K hS
              have hS := hM.tail
              refine AtT.tk 16 ?_ 128 ?_ hS ?_
              rotate_left
              · (intro wS hSw; (try dsimp only at hSw); go_simp; (try rw [if_neg (by omega)]); try with_reducible rfl)
              simp only [Act.put, sA]
              refine AtT.last (by kernel_rfl) rfl (by kernel_rfl) ?_
              intro K hK
              clear hS
              have hc := (hM.ow .here).cellNote hqn
              have hc0 := hc.1
              have hc1 := hc.2.1
              have hc2 := hc.2.2.1
              have hc3 := hc.2.2.2
              have hfe := (hM.ow .here).free
              go_simp
              refine hK.out _ _ ?_
              clear hK K
              have hM2 := Lib.hid (hM.putNote hqn x HWX.out .here)
              clear hM hc hc0 hc1 hc2 hc3 hfe
              go_wp2
              go_roundw
              case rel => exact ⟨q, (zs.set k y).set q x, hiq, by omega, rfl, HPN, hM2.out⟩
              case measure => simp [intOf]; omega
          · go_wp2
            (try simp only [Exit.inBlock, Exit.then]); refine bodyPost_ret (results_none rfl _ _ _) rfl ?_
            exact ⟨rfl, zs, HPM.out, hM⟩

set_option maxRecDepth 100000 in
set_option maxHeartbeats 8000000 in
theorem symC_any (B : Nat) (w0 : World) (G : List Ent) (g n c : Nat) (xs : List NoteI) (f : FuncId) (caps : Array Value) (lt : NoteI → NoteI → Bool) (d : Nat) (zs : List NoteI) (a m b : Nat) (w : World) (hn : n ≤ 1000) (ham : a < m) (hmb : m < b) (hbn : b ≤ n) (hp : zs.Perm xs) (hM : Mem B w0 w (owE FNote 40 (some ⟨g, 0, none⟩) n c zs :: G)) (hd : b - a ≤ d + 1) (h1 : ¬ m - a = 1) (h2 : ¬ b - m = 1)
    (hcf : ∀ args w, (callFunc f args).run Tryz.prog w = .ok (.enter f args) w) (hc : ComparesNote f caps lt B w0 G xs)
    (HIH : Hid (∀ (zs : List NoteI) (a m b : Nat) (w : World), b - a ≤ d → a < m → m < b → b ≤ n → zs.Perm xs → Mem B w0 w (owE FNote 40 (some ⟨g, 0, none⟩) n c zs :: G) →
    Calls Tryz.prog 98 #[.slice (some ⟨g, 0, none⟩) n c, .int .i64 a, .int .i64 m, .int .i64 b, .func (.func f) #[] caps] w fun e w' => e = .returned (.tuple #[]) ∧ ∃ ys, ys.Perm xs ∧ Mem B w0 w' (owE FNote 40 (some ⟨g, 0, none⟩) n c ys :: G))) :
    Calls Tryz.prog 98 #[.slice (some ⟨g, 0, none⟩) n c, .int .i64 a, .int .i64 m, .int .i64 b, .func (.func f) #[] caps] w fun e w' => e = .returned (.tuple #[]) ∧ ∃ ys, ys.Perm xs ∧ Mem B w0 w' (owE FNote 40 (some ⟨g, 0, none⟩) n c ys :: G) := by
  have HC := Lib.hid hc; clear hc
  have HW := Lib.hid (fun x (hx : x ∈ xs) => (hM.ow .here).rd.wf x (hp.mem_iff.2 hx))
  have HPM := Lib.hid hp; clear hp
  have HZL := Lib.hid (hM.ow .here).len
  obtain ⟨da, hda⟩ : ∃ da, m - a = da := ⟨_, rfl⟩
  obtain ⟨db, hdb⟩ : ∃ db, b - m = db := ⟨_, rfl⟩
  have hw1 : IntKind.i64.wrap ((m : Int) - (a : Int)) = (da : Int) := by rw [wrap_in (by omega)]; omega
  have hw2 : IntKind.i64.wrap ((b : Int) - (m : Int)) = (db : Int) := by rw [wrap_in (by omega)]; omega
  have HDA := Lib.hid hda; have HDB := Lib.hid hdb; have HD := Lib.hid hd
  rw [hda] at h1
  rw [hdb] at h2
  clear hda hdb hd
  have e1 : ((da : Int) == 1) = false := by simp; omega
  have e2 : ((db : Int) == 1) = false := by simp; omega
  obtain ⟨mid, hmid⟩ : ∃ mid : Nat, ((a : Int) + (b : Int)) / 2 = (mid : Int) := ⟨(a + b) / 2, by omega⟩
  obtain ⟨nn, hnn⟩ : ∃ nn, mid + m = nn := ⟨_, rfl⟩
  obtain ⟨pp, hpp⟩ : ∃ pp, nn - 1 = pp := ⟨_, rfl⟩
  have hw3 : IntKind.i64.wrap ((mid : Int) + (m : Int)) = (nn : Int) := by rw [wrap_in (by omega)]; omega
  have hw4 : IntKind.i64.wrap ((nn : Int) - 1) = (pp : Int) := by rw [wrap_in (by omega)]; omega
  have hle : a < mid ∧ mid < b := by have := HDA.out; have := HDB.out; omega
  obtain ⟨l0, hl0⟩ : ∃ l0, nn - b = l0 := ⟨_, rfl⟩
  have hB1 : mid < m → IntKind.i64.wrap ((nn : Int) - (b : Int)) = (l0 : Int) ∧ a ≤ l0 ∧ l0 ≤ mid ∧ mid ≤ nn ∧ nn ≤ l0 + b := fun h => ⟨by rw [wrap_in (by omega)]; omega, by omega, by omega, by omega, by omega⟩
  have hB2 : ¬ mid < m → m ≤ nn ∧ nn ≤ a + b := fun h => ⟨by omega, by omega⟩
  have HB1 := Lib.hid hB1; have HB2 := Lib.hid hB2
  have HNN := Lib.hid hnn; have HPP := Lib.hid hpp
  obtain ⟨ham2, hmb2⟩ := hle
  clear hB1 hB2 hnn hpp hl0 h1 h2
  go_enter Tryz.func98, Tryz.ntmps98
  go_upto_region 25 with fail
  clear hmid
  go_upto_if 140 with fail
  go_cut [20, 21] (fun s t wx => ∃ lo hi : Nat, s = .int .i64 lo ∧ t = .int .i64 hi ∧ a ≤ lo ∧ lo ≤ hi ∧ hi ≤ nn ∧ nn ≤ lo + b ∧ hi ≤ n ∧ Mem B w0 wx (owE FNote 40 (some ⟨g, 0, none⟩) n c zs :: G))
  case first => as_aux_lemma =>
    by_cases hmm : mid < m
    · obtain ⟨g1, g2, g3, g4, g5⟩ := HB1.out hmm
      go_wp2_with fail
      go_meet
      exact ⟨l0, mid, rfl, rfl, g2, g3, g4, g5, by omega, hM⟩
    · obtain ⟨g1, g2⟩ := HB2.out hmm
      go_wp2_with fail
      go_meet
      exact ⟨a, m, rfl, rfl, Nat.le_refl _, by omega, g1, g2, by omega, hM⟩
  case rest => as_aux_lemma =>
    clear hM hw1 hw2 hw3 e1 e2
    obtain ⟨lo, hi, rfl, rfl, hlo1, hlo2, hhi1, hnb, hhn, hM⟩ := hcut
    go_wp2_with fail
    go_loopw [20, 21] (fun s t wr => ∃ i j : Nat, lo ≤ i ∧ i ≤ j ∧ j ≤ hi ∧ s = .int .i64 i ∧ t = .int .i64 j ∧ Mem B w0 wr (owE FNote 40 (some ⟨g, 0, none⟩) n c zs :: G)) (fun s t _ => (intOf t).toNat - (intOf s).toNat)
    case atStart => exact ⟨lo, hi, Nat.le_refl _, hlo2, Nat.le_refl _, rfl, rfl, hM⟩
    case round =>
      clear hM hw4
      obtain ⟨i, j, hmi, hij, hjb, rfl, rfl, hM⟩ := hrel
      by_cases hlt : i < j
      · obtain ⟨h, hh⟩ : ∃ h : Nat, ((i : Int) + (j : Int)) / 2 = (h : Int) := ⟨(i + j) / 2, by omega⟩
        have hih : i ≤ h := by omega
        have hhj : h < j := by omega
        obtain ⟨p, hp⟩ : ∃ p, pp - h = p := ⟨_, rfl⟩
        have hpq := HPP.out
        have hnq := HNN.out
        have hwp : IntKind.i64.wrap ((pp : Int) - (h : Int)) = (p : Int) := by rw [wrap_in (by omega)]; omega
        have hpn0 : p < n := by omega
        clear hp hpq hnq
        go_wp2_with fail
        clear hh
        have hxm := getD_memO (d := NoteI.zero) (xs := zs) (k := p) (by rw [HZL.out]; omega)
        have hym := getD_memO (d := NoteI.zero) (xs := zs) (k := h) (by rw [HZL.out]; omega)
        have wx := HW.out _ (HPM.out.mem_iff.1 hxm)
        have wy := HW.out _ (HPM.out.mem_iff.1 hym)
        have hpm := fun x y => swapN_perm (x := x) (y := y) (zs := zs) (p := p) (q := h) (by rw [HZL.out]; omega) (by rw [HZL.out]; omega)
        obtain ⟨x, ex⟩ : ∃ x, zs.getD p NoteI.zero = x := ⟨_, rfl⟩
        obtain ⟨y, ey⟩ : ∃ y, zs.getD h NoteI.zero = y := ⟨_, rfl⟩
        have HPN := Lib.hid ((hpm x y ex ey).trans HPM.out)
        rw [ex] at hxm wx
        rw [ey] at hym wy
        have EX := Lib.hid ex; have EY := Lib.hid ey
        have HWX := Lib.hid wx; have HWY := Lib.hid wy
        have HXM := Lib.hid (HPM.out.mem_iff.1 hxm); have HYM := Lib.hid (HPM.out.mem_iff.1 hym)
        clear ex ey wx wy hpm hxm hym
        have c0 : (0 : Int) ≤ (p : Int) := by omega
        have c1 : (p : Int) < (n : Int) := by omega
        have d0 : (0 : Int) ≤ (h : Int) := by omega
        have d1 : (h : Int) < (n : Int) := by omega
        have hpn : p < n := by omega
        have hqn : h < n := by omega
        apply Mem.atWp
        · exact memA
        clear hM
        intro hM
        refine AtT.startA hM hM 13 (by kernel_rfl) ?_
        clear hM
        intro wd hM
        have hS := hM
        refine AtT.tk 0 ?_ 158 ?_ hS ?_
        rotate_left
        · (intro wS hSw; (try dsimp only at hSw); go_simp; (try rw [if_neg (by omega)]); try with_reducible rfl)
        simp only [Act.put, sA]
        refine AtT.tk 1 ?_ 159 ?_ hS ?_
        rotate_left
        · (intro wS hSw; (try dsimp only at hSw); go_simp; (try rw [if_neg (by omega)]); try with_reducible rfl)
        simp only [Act.put, sA]
        refine AtT.tk 2 ?_ 160 ?_ hS ?_
        rotate_left
        · (intro wS hSw; (try dsimp only at hSw); go_simp; (try rw [if_neg (by omega)]); try with_reducible rfl)
        simp only [Act.put, sA]
        refine AtT.tk 3 ?_ 161 ?_ hS ?_
        rotate_left
        · (intro wS hSw; (try dsimp only at hSw); go_simp; (try rw [if_neg (by omega)]); try with_reducible rfl)
        simp only [Act.put, sA]
        refine AtT.tk 4 ?_ 162 ?_ hS ?_
        rotate_left
        · (intro wS hSw; (try dsimp only at hSw); go_simp; (try rw [if_neg (by omega)]); try with_reducible rfl)
        simp only [Act.put, sA]
        refine AtT.tk 5 ?_ 163 ?_ hS ?_
        rotate_left
        · (intro wS hSw; (try dsimp only at hSw); have q1 := (hSw.ow .here).cellNote hpn; have q2 := (hSw.ow .here).cellNote hqn; rw [EX.out] at q1; rw [EY.out] at q2; have r0 := q1.1; have s0 := q2.1; have r1 := q1.2.1; have s1 := q2.2.1; have r2 := q1.2.2.1; have s2 := q2.2.2.1; have r3 := q1.2.2.2; have s3 := q2.2.2.2; go_simp; (try rw [if_neg (by omega)]); try with_reducible rfl)
        simp only [Act.put, sA]
        refine AtT.tk 6 ?_ 164 ?_ hS ?_
        rotate_left
        · (intro wS hSw; (try dsimp only at hSw); have q1 := (hSw.ow .here).cellNote hpn; have q2 := (hSw.ow .here).cellNote hqn; rw [EX.out] at q1; rw [EY.out] at q2; have r0 := q1.1; have s0 := q2.1; have r1 := q1.2.1; have s1 := q2.2.1; have r2 := q1.2.2.1; have s2 := q2.2.2.1; have r3 := q1.2.2.2; have s3 := q2.2.2.2; go_simp; (try rw [if_neg (by omega)]); try with_reducible rfl)
        simp only [Act.put, sA]
        refine AtT.tk 7 ?_ 165 ?_ hS ?_
        rotate_left
        · (intro wS hSw; (try dsimp only at hSw); go_simp; (try rw [if_neg (by omega)]); try with_reducible rfl)
        simp only [Act.put, sA]
        refine AtT.tk 8 ?_ 166 ?_ hS ?_
        rotate_left
        · (intro wS hSw; (try dsimp only at hSw); go_simp; (try rw [if_neg (by omega)]); try with_reducible rfl)
        simp only [Act.put, sA]
        refine AtT.tk 9 ?_ 167 ?_ hS ?_
        rotate_left
        · (intro wS hSw; (try dsimp only at hSw); have q1 := (hSw.ow .here).cellNote hpn; have q2 := (hSw.ow .here).cellNote hqn; rw [EX.out] at q1; rw [EY.out] at q2; have r0 := q1.1; have s0 := q2.1; have r1 := q1.2.1; have s1 := q2.2.1; have r2 := q1.2.2.1; have s2 := q2.2.2.1; have r3 := q1.2.2.2; have s3 := q2.2.2.2; go_simp; (try rw [if_neg (by omega)]); try with_reducible rfl)
        simp only [Act.put, sA]
        refine AtT.tk 10 ?_ 168 ?_ hS ?_
        rotate_left
        · (intro wS hSw; (try dsimp only at hSw); have q1 := (hSw.ow .here).cellNote hpn; have q2 := (hSw.ow .here).cellNote hqn; rw [EX.out] at q1; rw [EY.out] at q2; have r0 := q1.1; have s0 := q2.1; have r1 := q1.2.1; have s1 := q2.2.1; have r2 := q1.2.2.1; have s2 := q2.2.2.1; have r3 := q1.2.2.2; have s3 := q2.2.2.2; go_simp; (try rw [if_neg (by omega)]); try with_reducible rfl)
        simp only [Act.put, sA]
        refine AtT.only (i := 11) (by kernel_rfl) rfl rfl ?_
        intro K hK
        go_simp
        refine (HC.out x HXM.out y HYM.out _ hM.tail).mono ?_
        rintro e w2 ⟨⟨r, rfl, hr⟩, hb⟩
        have HR := Lib.hid hr; clear hr
        replace hM := hM.ext hb
        clear hb
        try dsimp only
        refine hK.out _ _ (hM) ?_
        clear hK K hS
        have hS := hM
        refine AtT.tk 12 ?_ 170 ?_ hS ?_
        rotate_left
        · (intro wS hSw; (try dsimp only at hSw); go_simp; (try rw [if_neg (by omega)]); try with_reducible rfl)
        simp only [Act.put, sA]
        refine AtT.last (by kernel_rfl) rfl (by kernel_rfl) ?_
        intro K hK
        clear hS
        go_simp
        refine hK.out _ _ ?_
        clear hK K
        cases hl : lt x y
        · have hr2 : (!decide (r < 0)) = true := by rw [HR.out, hl]; rfl
          go_wp2
          any_goals (exfalso; rename_i hx; rw [hr2] at hx; cases hx; done)
          go_roundw
          case rel => exact ⟨h + 1, j, by omega, by omega, hjb, by go_num, rfl, hM⟩
          case measure => simp [intOf]; omega
        · have hr2 : (!decide (r < 0)) = false := by rw [HR.out, hl]; rfl
          go_wp2
          any_goals (exfalso; rename_i hx; rw [hr2] at hx; cases hx; done)
          go_roundw
          case rel => exact ⟨i, h, hmi, hih, by omega, rfl, rfl, hM⟩
          case measure => simp [intOf]; omega
      · obtain rfl : i = j := by omega
        obtain ⟨en, hen⟩ : ∃ en, nn - i = en := ⟨_, rfl⟩
        have hwe : IntKind.i64.wrap ((nn : Int) - (i : Int)) = (en : Int) := by rw [wrap_in (by omega)]; omega
        have heb : en ≤ b := by omega
        have hni : a ≤ i := by omega
        clear hen hlt
        go_upto_region 39 with fail
        go_cut [185] (fun s wx => s = .bool (decide (i < m) && decide (m < en)) ∧ Mem B w0 wx (owE FNote 40 (some ⟨g, 0, none⟩) n c zs :: G))
        case first => as_aux_lemma =>
          by_cases c1 : i < m
          · by_cases c2 : m < en
            all_goals
              go_wp2_with fail
              go_meet
              exact ⟨by simp [c1, c2], hM⟩
          · go_wp2_with fail
            go_meet
            exact ⟨by simp [c1], hM⟩
        case rest => as_aux_lemma =>
        clear hM
        obtain ⟨rfl, hM⟩ := hcut
        go_upto_if 185 with fail
        go_cut [] (fun wx => ∃ zs, Hid (zs.Perm xs) ∧ Mem B w0 wx (owE FNote 40 (some ⟨g, 0, none⟩) n c zs :: G))
        case first => as_aux_lemma =>
          by_cases c1 : i < m
          · by_cases c2 : m < en
            · go_wp2_with fail
              refine (rotate_any B w0 G g n c xs zs (.func (.func f) #[] caps) i m en _ hM HPM.out HW.out hn c1 c2 (by omega)).mono ?_
              rintro e w2 ⟨rfl, ys, hpy, hM2⟩
              have HPY := Lib.hid hpy; clear hpy
              go_wp2_with fail
              go_meet
              exact ⟨ys, HPY, hM2⟩
            · go_wp2_with fail
              go_meet
              exact ⟨zs, HPM, hM⟩
          · go_wp2_with fail
            go_meet
            exact ⟨zs, HPM, hM⟩
        case rest => as_aux_lemma =>
          clear hM HPM HZL hwe
          obtain ⟨zs, HPM, hM⟩ := hcut
          go_upto_region 41 with fail
          go_cut [199] (fun s wx => s = .bool (decide (a < i) && decide (i < mid)) ∧ Mem B w0 wx (owE FNote 40 (some ⟨g, 0, none⟩) n c zs :: G))
          case first => as_aux_lemma =>
            by_cases c1 : a < i
            · by_cases c2 : i < mid
              all_goals
                go_wp2_with fail
                go_meet
                exact ⟨by simp [c1, c2], hM⟩
            · go_wp2_with fail
              go_meet
              exact ⟨by simp [c1], hM⟩
          case rest => as_aux_lemma =>
          clear hM
          obtain ⟨rfl, hM⟩ := hcut
          go_upto_if 199 with fail
          go_cut [] (fun wx => ∃ zs, Hid (zs.Perm xs) ∧ Mem B w0 wx (owE FNote 40 (some ⟨g, 0, none⟩) n c zs :: G))
          case first => as_aux_lemma =>
            by_cases c1 : a < i
            · by_cases c2 : i < mid
              · go_wp2_with fail
                refine (HIH.out zs a i mid _ (by have := HD.out; omega) c1 c2 (by omega) HPM.out hM).mono ?_
                rintro e w2 ⟨rfl, ys, hpy, hM2⟩
                have HPY := Lib.hid hpy; clear hpy
                go_wp2_with fail
                go_meet
                exact ⟨ys, HPY, hM2⟩
              · go_wp2_with fail
                go_meet
                exact ⟨zs, HPM, hM⟩
            · go_wp2_with fail
              go_meet
              exact ⟨zs, HPM, hM⟩
          case rest => as_aux_lemma =>
            clear hM HPM
            obtain ⟨zs, HPM, hM⟩ := hcut
            by_cases c1 : mid < en
            · by_cases c2 : en < b
              · go_wp2_with fail
                refine (HIH.out zs mid en b _ (by have := HD.out; omega) c1 c2 hbn HPM.out hM).mono ?_
                rintro e w2 ⟨rfl, ys, hpy, hM2⟩
                have HPY := Lib.hid hpy; clear hpy
                go_wp2
                go_end0
                exact ⟨rfl, ys, HPY.out, hM2⟩
              · go_wp2
                go_end0
                exact ⟨rfl, zs, HPM.out, hM⟩
            · go_wp2
              go_end0
              exact ⟨rfl, zs, HPM.out, hM⟩
set_option maxRecDepth 100000 in
set_option maxHeartbeats 8000000 in
theorem symMerge_any (B : Nat) (w0 : World) (G : List Ent) (g n c : Nat) (xs : List NoteI) (f : FuncId) (caps : Array Value) (lt : NoteI → NoteI → Bool) (hn : n ≤ 1000)
    (hcf : ∀ args w, (callFunc f args).run Tryz.prog w = .ok (.enter f args) w) (hc : ComparesNote f caps lt B w0 G xs) : ∀ (d : Nat) (zs : List NoteI) (a m b : Nat) (w : World), b - a ≤ d → a < m → m < b → b ≤ n → zs.Perm xs → Mem B w0 w (owE FNote 40 (some ⟨g, 0, none⟩) n c zs :: G) →
    Calls Tryz.prog 98 #[.slice (some ⟨g, 0, none⟩) n c, .int .i64 a, .int .i64 m, .int .i64 b, .func (.func f) #[] caps] w fun e w' => e = .returned (.tuple #[]) ∧ ∃ ys, ys.Perm xs ∧ Mem B w0 w' (owE FNote 40 (some ⟨g, 0, none⟩) n c ys :: G) := by
  intro d
  induction d with
  | zero => intro zs a m b w h1 h2 h3; omega
  | succ d ih =>
    intro zs a m b w hd ham hmb hbn hp hM
    by_cases h1 : m - a = 1
    · exact symA_any B w0 G g n c xs f caps lt zs a m b w hn ham hmb hbn hp hM h1 hcf hc
    · by_cases h2 : b - m = 1
      · exact symB_any B w0 G g n c xs f caps lt zs a m b w hn ham hmb hbn hp hM h1 h2 hcf hc
      · exact symC_any B w0 G g n c xs f caps lt d zs a m b w hn ham hmb hbn hp hM hd h1 h2 hcf hc (Lib.hid ih)

set_option maxRecDepth 100000 in
set_option maxHeartbeats 8000000 in
theorem stableW_any (B : Nat) (w0 : World) (G : List Ent) (g n c : Nat) (xs : List NoteI) (f : FuncId) (caps : Array Value) (lt : NoteI → NoteI → Bool) (w : World) (hM : Mem B w0 w (owE FNote 40 (some ⟨g, 0, none⟩) n c xs :: G)) (hn : 20 ≤ n ∧ n ≤ 24)
    (hcf : ∀ args w, (callFunc f args).run Tryz.prog w = .ok (.enter f args) w) (hc : ComparesNote f caps lt B w0 G xs) :
    Calls Tryz.prog 83 #[.slice (some ⟨g, 0, none⟩) n c, .int .i64 n, .func (.func f) #[] caps] w fun e w' => e = .returned (.tuple #[]) ∧ ∃ ys, ys.Perm xs ∧ Mem B w0 w' (owE FNote 40 (some ⟨g, 0, none⟩) n c ys :: G) := by
  obtain ⟨hn0, hn1⟩ := hn
  have HC := Lib.hid hc; clear hc
  have hI := fun (zs : List NoteI) (w : World) (hp : zs.Perm xs) (hM : Mem B w0 w (owE FNote 40 (some ⟨g, 0, none⟩) n c zs :: G)) => insertW_any B w0 G g n c xs f caps lt zs 20 n w hM hp (by omega) (by omega) (Nat.le_refl _) hcf HC.out
  have hS := fun (zs : List NoteI) (w : World) (h20 : 20 < n) (hp : zs.Perm xs) (hM : Mem B w0 w (owE FNote 40 (some ⟨g, 0, none⟩) n c zs :: G)) => symMerge_any B w0 G g n c xs f caps lt (by omega) hcf HC.out n zs 0 20 n w (by omega) (by omega) h20 (Nat.le_refl _) hp hM
  have HI := Lib.hid hI; have HS := Lib.hid hS
  clear hI hS
  go_enter Tryz.func83, Tryz.ntmps83
  go_wp2
  go_loopw [7, 8] (fun a b wr => (a = .int .i64 0 ∧ b = .int .i64 20 ∧ Mem B w0 wr (owE FNote 40 (some ⟨g, 0, none⟩) n c xs :: G)) ∨ (a = .int .i64 20 ∧ b = .int .i64 40 ∧ ∃ zs, Hid (zs.Perm xs) ∧ Mem B w0 wr (owE FNote 40 (some ⟨g, 0, none⟩) n c zs :: G))) (fun _ b _ => 40 - (intOf b).toNat)
  case atStart => exact .inl ⟨rfl, rfl, hM⟩
  case round =>
    clear hM
    rcases hrel with ⟨rfl, rfl, hM⟩ | ⟨rfl, rfl, zs, HPM, hM⟩
    · go_wp2_with fail
      refine (insertW_any B w0 G g n c xs f caps lt xs 0 20 _ hM (List.Perm.refl _) (by omega) (by omega) (by omega) hcf HC.out).mono ?_
      rintro e w2 ⟨rfl, ys, hpy, hM2⟩
      have HPY := Lib.hid hpy; clear hpy
      go_wp2
      go_roundw
      case rel => exact .inr ⟨rfl, rfl, ys, HPY, hM2⟩
      case measure => simp [intOf]
    · go_wp2_with fail
      refine (HI.out zs _ HPM.out hM).mono ?_
      clear hM HPM
      rintro e w2 ⟨rfl, ys, hpy, hM⟩
      have HPY := Lib.hid hpy; clear hpy
      go_wp2
      go_loopw [6] (fun s wr => (s = .int .i64 20 ∧ ∃ zs, Hid (zs.Perm xs) ∧ Mem B w0 wr (owE FNote 40 (some ⟨g, 0, none⟩) n c zs :: G)) ∨ (s = .int .i64 40 ∧ ∃ zs, Hid (zs.Perm xs) ∧ Mem B w0 wr (owE FNote 40 (some ⟨g, 0, none⟩) n c zs :: G))) (fun s _ => 40 - (intOf s).toNat)
      case atStart => exact .inl ⟨rfl, ys, HPY, hM⟩
      case round =>
        clear hM HPY
        rcases hrel with ⟨rfl, zs, HPM, hM⟩ | ⟨rfl, zs, HPM, hM⟩
        · by_cases h20 : 20 < n
          · go_wp2
            go_loopw [7, 8] (fun a b wq => a = .int .i64 0 ∧ b = .int .i64 40 ∧ wq = wr) (fun _ _ _ => 0)
            case atStart => exact ⟨rfl, rfl, rfl⟩
            case round =>
              obtain ⟨rfl, rfl, rfl⟩ := hrel
              go_wp2_with fail
              refine (HS.out zs _ h20 HPM.out hM).mono ?_
              clear hM HPM
              rintro e w3 ⟨rfl, vs, hpv, hM⟩
              have HPV := Lib.hid hpv; clear hpv
              go_wp2
              go_roundw
              case rel => exact .inr ⟨rfl, vs, HPV, hM⟩
              case measure => simp [intOf]
          · go_wp2
            go_end0
            exact ⟨rfl, zs, HPM.out, hM⟩
        · go_wp2
          go_end0
          exact ⟨rfl, zs, HPM.out, hM⟩
set_option maxRecDepth 100000 in
set_option maxHeartbeats 8000000 in
theorem sortW_any (B : Nat) (w0 : World) (G : List Ent) (g n c : Nat) (xs : List NoteI) (f : FuncId) (caps : Array Value) (lt : NoteI → NoteI → Bool) (w : World) (hM : Mem B w0 w (owE FNote 40 (some ⟨g, 0, none⟩) n c xs :: G)) (hn : 20 ≤ n ∧ n ≤ 24)
    (hcf : ∀ args w, (callFunc f args).run Tryz.prog w = .ok (.enter f args) w) (hc : ComparesNote f caps lt B w0 G xs) :
    Calls Tryz.prog 72 #[.slice (some ⟨g, 0, none⟩) n c, .func (.func f) #[] caps] w fun e w' => e = .returned (.tuple #[]) ∧ ∃ ys, ys.Perm xs ∧ Mem B w0 w' (owE FNote 40 (some ⟨g, 0, none⟩) n c ys :: G) := by
  have HC := Lib.hid hc; clear hc
  go_enter Tryz.func72, Tryz.ntmps72
  go_wp2_with fail
  refine (stableW_any B w0 G g n c xs f caps lt _ hM hn hcf HC.out).mono ?_
  rintro e w2 ⟨rfl, ys, hpy, hM2⟩
  have HPY := Lib.hid hpy; clear hpy
  go_wp2
  go_end0
  exact ⟨rfl, ys, HPY.out, hM2⟩
end Go.Proofs.YtjnbdgldpmmamaaGreat
