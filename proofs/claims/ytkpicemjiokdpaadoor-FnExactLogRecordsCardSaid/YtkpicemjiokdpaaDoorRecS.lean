/-
  Lists of records: compared, written over, held.
-/
import Derived.Test.YtkpicemjiokdpaaDoorMarkT
import Derived.Test.YtkpicemjiokdpaaDoorRecI
namespace Go.Proofs.YtkpicemjiokdpaaDoor
set_option linter.unusedSimpArgs false
set_option linter.unusedVariables false
open Go.RowKit

theorem Rd.cellRec {w : World} {b off n c : Nat} {xs : List RecB} (h : Rd FRec w (some ⟨b, off, none⟩) n c xs) {k : Nat} (hk : k < n) : b < w.heap.size ∧ w.cell? ⟨b, off + k * 2, none⟩ = some (.string (bsA (xs.getD k FRec.z).c)) ∧ w.cell? ⟨b, off + k * 2 + 1, none⟩ = some (.string (bsA (xs.getD k FRec.z).r)) := by
  obtain ⟨b', off', e, hl, hc⟩ := h.at' _ hk
  simp only [Option.some.injEq, Addr.mk.injEq] at e
  obtain ⟨rfl, rfl, _⟩ := e
  exact ⟨hl, hc k hk 0 (by decide), hc k hk 1 (by decide)⟩

set_option maxRecDepth 100000 in
set_option maxHeartbeats 1000000 in
theorem eqRec_same (c r : Bs) (w : World) :
    Calls Tryd.prog 58 #[.agg #[.string (bsA c), .string (bsA r)], .agg #[.string (bsA c), .string (bsA r)]] w fun e w' => e = .returned (.bool true) ∧ Below w.heap.size w w' := by
  have hM := Mem.start w
  have S3 := bsA_list
  have hcc : (c != c) = false := by simp
  have hrr : (r != r) = false := by simp
  go_enter Tryd.func58, Tryd.ntmps58
  go_wp2
  go_ret
  exact ⟨rfl, (by apply Mem.below; (repeat' (first | with_reducible exact hM | with_reducible exact hMp | with_reducible apply Mem.drew | with_reducible apply Mem.drewN | with_reducible apply Mem.alloc | with_reducible apply Mem.set | with_reducible exact Sto.row | ((with_reducible refine Sto.rowEq2 ?_ ?_); omega; rfl) | ((with_reducible refine Sto.rowEq ?_); omega) | with_reducible apply Sto.int | with_reducible apply Sto.there | with_reducible assumption | (unfold I64; omega) | (with_reducible (have hMx := Mem.undrew hM; exact hMx)) | (with_reducible (have hMx := Mem.undrew hMp; exact hMx)))))⟩

set_option maxRecDepth 100000 in
set_option maxHeartbeats 2000000 in
theorem eqRecS_same (a : Option Addr) (n c : Nat) (xs : List RecB) (a2 : Option Addr) (c2 : Nat) (w : World) (h : Rd FRec w a n c xs) (h2 : Rd FRec w a2 n c2 xs) :
    Calls Tryd.prog 33 #[.slice a n c, .slice a2 n c2] w fun e w' => e = .returned (.bool true) ∧ Below w.heap.size w w' := by
  have hM := Mem.start w
  have hr := h.nroom
  have hnn : ((n : Int) != (n : Int)) = false := by simp
  go_enter Tryd.func33, Tryd.ntmps33
  go_wp2
  go_loopw [5] (fun i wr => ∃ k : Nat, k ≤ n ∧ i = .int .i64 k ∧ Mem w.heap.size w wr []) (fun i _ => n - (intOf i).toNat)
  case atStart => exact ⟨0, Nat.zero_le _, rfl, hM⟩
  case round =>
    clear hM
    obtain ⟨k, hk, rfl, hM⟩ := hrel
    by_cases hlt : k < n
    · obtain ⟨b, off, rfl, -, -⟩ := (h.ext hM.below).at' _ hlt
      obtain ⟨b2, off2, rfl, -, -⟩ := (h2.ext hM.below).at' _ hlt
      have i0 : (0 : Int) ≤ (k : Int) := by omega
      have i1 : (k : Int) < (n : Int) := by omega
      obtain ⟨y, hy⟩ : ∃ y, xs.getD k FRec.z = y := ⟨_, rfl⟩
      obtain ⟨yc, yr⟩ := y
      have HY := Lib.hid hy; clear hy
      go_wp2_with fail
      refine AtT.startA hM hM 9 (by kernel_rfl) ?_
      clear hM
      intro wd hM
      have hS := hM
      refine AtT.taked (i := 0) (v := ?_) (some 17) rfl rfl (by kernel_rfl) (by kernel_rfl) (by kernel_rfl) (by kernel_rfl) (fun _ _ _ h => h) (Or.inl ⟨by kernel_rfl, ?_⟩) hS ?_
      rotate_left
      · (intro wS hSw; (try dsimp only at hSw); go_simp; (try rw [if_neg (by omega)]); try with_reducible rfl)
      simp only [Act.put, List.setIfInBounds_toArray, List.set_cons_zero, List.set_cons_succ]
      refine AtT.taked (i := 1) (v := ?_) (some 18) rfl rfl (by kernel_rfl) (by kernel_rfl) (by kernel_rfl) (by kernel_rfl) (fun _ _ _ h => h) (Or.inl ⟨by kernel_rfl, ?_⟩) hS ?_
      rotate_left
      · (intro wS hSw; (try dsimp only at hSw); go_simp; (try rw [if_neg (by omega)]); try with_reducible rfl)
      simp only [Act.put, List.setIfInBounds_toArray, List.set_cons_zero, List.set_cons_succ]
      refine AtT.taked (i := 2) (v := ?_) (some 19) rfl rfl (by kernel_rfl) (by kernel_rfl) (by kernel_rfl) (by kernel_rfl) (fun _ _ _ h => h) (Or.inl ⟨by kernel_rfl, ?_⟩) hS ?_
      rotate_left
      · (intro wS hSw; (try dsimp only at hSw); obtain ⟨-, hc0, hc1⟩ := (h.ext hSw.below).cellRec hlt; obtain ⟨-, hd0, hd1⟩ := (h2.ext hSw.below).cellRec hlt; rw [HY.out] at hc0 hc1 hd0 hd1; go_simp; (try rw [if_neg (by omega)]); try with_reducible rfl)
      simp only [Act.put, List.setIfInBounds_toArray, List.set_cons_zero, List.set_cons_succ]
      refine AtT.taked (i := 3) (v := ?_) (some 20) rfl rfl (by kernel_rfl) (by kernel_rfl) (by kernel_rfl) (by kernel_rfl) (fun _ _ _ h => h) (Or.inl ⟨by kernel_rfl, ?_⟩) hS ?_
      rotate_left
      · (intro wS hSw; (try dsimp only at hSw); obtain ⟨-, hc0, hc1⟩ := (h.ext hSw.below).cellRec hlt; obtain ⟨-, hd0, hd1⟩ := (h2.ext hSw.below).cellRec hlt; rw [HY.out] at hc0 hc1 hd0 hd1; go_simp; (try rw [if_neg (by omega)]); try with_reducible rfl)
      simp only [Act.put, List.setIfInBounds_toArray, List.set_cons_zero, List.set_cons_succ]
      refine AtT.taked (i := 4) (v := ?_) (some 21) rfl rfl (by kernel_rfl) (by kernel_rfl) (by kernel_rfl) (by kernel_rfl) (fun _ _ _ h => h) (Or.inl ⟨by kernel_rfl, ?_⟩) hS ?_
      rotate_left
      · (intro wS hSw; (try dsimp only at hSw); go_simp; (try rw [if_neg (by omega)]); try with_reducible rfl)
      simp only [Act.put, List.setIfInBounds_toArray, List.set_cons_zero, List.set_cons_succ]
      refine AtT.taked (i := 5) (v := ?_) (some 22) rfl rfl (by kernel_rfl) (by kernel_rfl) (by kernel_rfl) (by kernel_rfl) (fun _ _ _ h => h) (Or.inl ⟨by kernel_rfl, ?_⟩) hS ?_
      rotate_left
      · (intro wS hSw; (try dsimp only at hSw); go_simp; (try rw [if_neg (by omega)]); try with_reducible rfl)
      simp only [Act.put, List.setIfInBounds_toArray, List.set_cons_zero, List.set_cons_succ]
      refine AtT.taked (i := 6) (v := ?_) (some 23) rfl rfl (by kernel_rfl) (by kernel_rfl) (by kernel_rfl) (by kernel_rfl) (fun _ _ _ h => h) (Or.inl ⟨by kernel_rfl, ?_⟩) hS ?_
      rotate_left
      · (intro wS hSw; (try dsimp only at hSw); obtain ⟨-, hc0, hc1⟩ := (h.ext hSw.below).cellRec hlt; obtain ⟨-, hd0, hd1⟩ := (h2.ext hSw.below).cellRec hlt; rw [HY.out] at hc0 hc1 hd0 hd1; go_simp; (try rw [if_neg (by omega)]); try with_reducible rfl)
      simp only [Act.put, List.setIfInBounds_toArray, List.set_cons_zero, List.set_cons_succ]
      refine AtT.taked (i := 7) (v := ?_) (some 24) rfl rfl (by kernel_rfl) (by kernel_rfl) (by kernel_rfl) (by kernel_rfl) (fun _ _ _ h => h) (Or.inl ⟨by kernel_rfl, ?_⟩) hS ?_
      rotate_left
      · (intro wS hSw; (try dsimp only at hSw); obtain ⟨-, hc0, hc1⟩ := (h.ext hSw.below).cellRec hlt; obtain ⟨-, hd0, hd1⟩ := (h2.ext hSw.below).cellRec hlt; rw [HY.out] at hc0 hc1 hd0 hd1; go_simp; (try rw [if_neg (by omega)]); try with_reducible rfl)
      simp only [Act.put, List.setIfInBounds_toArray, List.set_cons_zero, List.set_cons_succ]
      refine AtT.only (i := 8) (by kernel_rfl) rfl rfl ?_
      intro K hK
      go_simp
      refine (eqRec_same yc yr _).mono ?_
      rintro e w5 ⟨rfl, hb⟩
      replace hM := hM.ext hb
      clear hb
      try dsimp only
      refine hK.out _ _ (hM) ?_
      clear hK K hS
      have hS := hM
      refine AtT.last (by kernel_rfl) rfl (by kernel_rfl) ?_
      intro K hK
      clear hS
      go_simp
      refine hK.out _ _ ?_
      clear hK K
      go_wp2
      go_roundw
      case rel => exact ⟨k + 1, by omega, by go_num, by (repeat' (first | with_reducible exact hM | with_reducible exact hMp | with_reducible apply Mem.drew | with_reducible apply Mem.drewN | with_reducible apply Mem.alloc | with_reducible apply Mem.set | with_reducible exact Sto.row | ((with_reducible refine Sto.rowEq2 ?_ ?_); omega; rfl) | ((with_reducible refine Sto.rowEq ?_); omega) | with_reducible apply Sto.int | with_reducible apply Sto.there | with_reducible assumption | (unfold I64; omega) | (with_reducible (have hMx := Mem.undrew hM; exact hMx)) | (with_reducible (have hMx := Mem.undrew hMp; exact hMx))))⟩
      case measure => simp [intOf]; omega
    · go_wp2
      go_ret
      exact ⟨rfl, (by apply Mem.below; (repeat' (first | with_reducible exact hM | with_reducible exact hMp | with_reducible apply Mem.drew | with_reducible apply Mem.drewN | with_reducible apply Mem.alloc | with_reducible apply Mem.set | with_reducible exact Sto.row | ((with_reducible refine Sto.rowEq2 ?_ ?_); omega; rfl) | ((with_reducible refine Sto.rowEq ?_); omega) | with_reducible apply Sto.int | with_reducible apply Sto.there | with_reducible assumption | (unfold I64; omega) | (with_reducible (have hMx := Mem.undrew hM; exact hMx)) | (with_reducible (have hMx := Mem.undrew hMp; exact hMx)))))⟩

def fromR (q : Nat) (m : Nat) : List RecB := (List.range m).map fun i => ⟨mkT (q + 2 * i), mkT (q + 2 * i + 1)⟩
theorem fromR_length (q m : Nat) : (fromR q m).length = m := by simp [fromR]
theorem fromR_get {q m k : Nat} (h : k < m) : (fromR q m).getD k FRec.z = ⟨mkT (q + 2 * k), mkT (q + 2 * k + 1)⟩ := by
  simp [fromR, List.getD, h]
theorem Mem.setStr0 {E : TypeId} {B : Nat} {w0 w : World} {G : List Ent} {g n c : Nat} {xs : List RecB} (h : Mem B w0 w (owE FRec E (some ⟨g, 0, none⟩) n c xs :: G)) {k : Nat} (hk : k < n) (s : Bs) : Mem B w0 (w.setCell ⟨g, k * 2, none⟩ (.string (bsA s))) (owE FRec E (some ⟨g, 0, none⟩) n c (xs.set k ⟨s, (xs.getD k FRec.z).r⟩) :: G) :=
  by
  have h2 := h.setR (F := FRec) (xs := xs) (i := k) (j := 0) (v := .string (bsA s)) (⟨s, (xs.getD k FRec.z).r⟩ : RecB) .here hk (by decide) rfl trivial
  exact h2
theorem Mem.setStr1 {E : TypeId} {B : Nat} {w0 w : World} {G : List Ent} {g n c : Nat} {xs : List RecB} (h : Mem B w0 w (owE FRec E (some ⟨g, 0, none⟩) n c xs :: G)) {k : Nat} (hk : k < n) (s : Bs) : Mem B w0 (w.setCell ⟨g, k * 2 + 1, none⟩ (.string (bsA s))) (owE FRec E (some ⟨g, 0, none⟩) n c (xs.set k ⟨(xs.getD k FRec.z).c, s⟩) :: G) :=
  by
  have h2 := h.setR (F := FRec) (xs := xs) (i := k) (j := 1) (v := .string (bsA s)) (⟨(xs.getD k FRec.z).c, s⟩ : RecB) .here hk (by decide) rfl trivial
  exact h2
theorem set_both {xs : List RecB} {k : Nat} (hk : k < xs.length) (a b r : Bs) : (xs.set k ⟨a, r⟩).set k ⟨((xs.set k ⟨a, r⟩).getD k FRec.z).c, b⟩ = xs.set k ⟨a, b⟩ := by
  simp [List.getD, hk]

set_option maxRecDepth 100000 in
set_option maxHeartbeats 2000000 in
theorem markRecS_any (B : Nat) (w0 : World) (G : List Ent) (a : Option Addr) (n c : Nat) (xs : List RecB) (q : Nat) (w : World) (hM : Mem B w0 w (owE FRec 27 a n c xs :: G)) (hq : 0 < q) (hq2 : q + 2 * n ≤ 900000) :
    Calls Tryd.prog 34 #[.slice a n c, .int .i64 q] w fun e w' => e = .returned (.int .i64 ((q + 2 * n : Nat) : Int)) ∧ Mem B w0 w' (owE FRec 27 a n c (fromR q n) :: G) := by
  have HL := Lib.hid ((hM.ow .here).len)
  go_enter Tryd.func34, Tryd.ntmps34
  go_wp2
  go_loopw [1, 5] (fun v i wr => ∃ k : Nat, k ≤ n ∧ i = .int .i64 k ∧ v = .int .i64 ((q + 2 * k : Nat) : Int) ∧ Mem B w0 wr (owE FRec 27 a n c (fromR q k ++ xs.drop k) :: G)) (fun _ i _ => n - (intOf i).toNat)
  case atStart => exact ⟨0, Nat.zero_le _, rfl, rfl, by simpa [fromR] using hM⟩
  case round =>
    clear hM
    obtain ⟨k, hk, rfl, rfl, hM⟩ := hrel
    by_cases hlt : k < n
    · obtain ⟨g, rfl, -⟩ := (hM.ow .here).head (by omega)
      have hfz := (hM.ow .here).free
      have hd0 := (hM.ow .here).cell hlt (j := 0) (by decide)
      have hd1 := (hM.ow .here).cell hlt (j := 1) (by decide)
      have hlen : (fromR q k ++ xs.drop k).length = n := by rw [List.length_append, fromR_length, List.length_drop, HL.out]; omega
      obtain ⟨ys, hys⟩ : ∃ ys, fromR q k ++ xs.drop k = ys := ⟨_, rfl⟩
      rw [hys] at hd0 hd1 hlen hM
      have HYS := Lib.hid hys; clear hys
      obtain ⟨p, hp⟩ : ∃ p, p = q + 2 * k := ⟨_, rfl⟩
      rw [← hp]
      have i0 : (0 : Int) ≤ (k : Int) := by omega
      have i1 : (k : Int) < (n : Int) := by omega
      have hw1 : IntKind.i64.wrap ((p : Int) + 1) = ((p + 1 : Nat) : Int) := by rw [wrap_in (by omega)]; omega
      have hw2 : IntKind.i64.wrap (((p + 1 : Nat) : Int) + 1) = ((p + 2 : Nat) : Int) := by rw [wrap_in (by omega)]; omega
      have HM1 := Lib.hid (fun w => markText_any p w (by omega) (by omega))
      have HM2 := Lib.hid (fun w => markText_any (p + 1) w (by omega) (by omega))
      have HP2 := Lib.hid (show ((p + 2 : Nat) : Int) = ((q + 2 * (k + 1) : Nat) : Int) by omega)
      have HF := Lib.hid (show fromR q (k + 1) = fromR q k ++ [⟨mkT p, mkT (p + 1)⟩] by rw [hp]; simp [fromR, List.range_succ])
      clear hp
      generalize mkT p = s at HM1 HF
      generalize mkT (p + 1) = t at HM2 HF
      generalize p + 1 = p1 at hw1 hw2 HM2
      generalize p + 2 = p2 at hw2 HP2
      go_wp2_with fail
      refine (HM1.out _).mono ?_
      rintro e w5 ⟨rfl, hb⟩
      replace hM := hM.drewN 0 |>.ext hb
      clear hb hd0 hd1 hfz
      have hfz := (hM.ow .here).free
      have hd0 := (hM.ow .here).cell hlt (j := 0) (by decide)
      have hd1 := (hM.ow .here).cell hlt (j := 1) (by decide)
      generalize ys.getD k FRec.z = y at hd0 hd1
      obtain ⟨yc, yr⟩ := y
      replace hd0 : w5.cell? ⟨g, k * 2, none⟩ = some (.string (bsA yc)) := hd0
      replace hd1 : w5.cell? ⟨g, k * 2 + 1, none⟩ = some (.string (bsA yr)) := hd1
      go_wp2_with fail
      replace hM := hM.setStr0 hlt s
      apply Mem.atA hM
      clear hM hd0 hd1 hfz
      intro w6 hM
      refine (HM2.out _).mono ?_
      rintro e w7 ⟨rfl, hb⟩
      replace hM := hM.ext hb
      clear hb
      have hfz := (hM.ow .here).free
      have hd0 := (hM.ow .here).cell hlt (j := 0) (by decide)
      have hd1 := (hM.ow .here).cell hlt (j := 1) (by decide)
      generalize hzz : (ys.set k ⟨s, (ys.getD k FRec.z).r⟩).getD k FRec.z = z at hd0 hd1
      have HZ := Lib.hid hzz; clear hzz
      obtain ⟨zc, zr⟩ := z
      replace hd0 : w7.cell? ⟨g, k * 2, none⟩ = some (.string (bsA zc)) := hd0
      replace hd1 : w7.cell? ⟨g, k * 2 + 1, none⟩ = some (.string (bsA zr)) := hd1
      have HM3 := Lib.hid (hM.setStr1 hlt t)
      rw [set_both (by omega), ← HYS.out, set_fromV (fromR q k) (fromR_length q k) (by rw [HL.out]; exact hlt), ← HF.out] at HM3
      go_wp2
      go_roundw
      case rel => exact ⟨k + 1, by omega, by go_num, by rw [HP2.out], HM3.out⟩
      case measure => simp [intOf]; omega
    · obtain rfl : k = n := by omega
      rw [List.drop_of_length_le (by rw [HL.out]; exact Nat.le_refl _), List.append_nil] at hM
      go_wp2
      go_ret
      exact ⟨rfl, by (repeat' (first | with_reducible exact hM | with_reducible exact hMp | with_reducible apply Mem.drew | with_reducible apply Mem.drewN | with_reducible apply Mem.alloc | with_reducible apply Mem.set | with_reducible exact Sto.row | ((with_reducible refine Sto.rowEq2 ?_ ?_); omega; rfl) | ((with_reducible refine Sto.rowEq ?_); omega) | with_reducible apply Sto.int | with_reducible apply Sto.there | with_reducible assumption | (unfold I64; omega) | (with_reducible (have hMx := Mem.undrew hM; exact hMx)) | (with_reducible (have hMx := Mem.undrew hMp; exact hMx))))⟩

set_option maxRecDepth 100000 in
set_option maxHeartbeats 2000000 in
theorem heldRecS_any (a : Option Addr) (n c : Nat) (q : Nat) (w : World) (h : Rd FRec w a n c (fromR q n)) (hq : 0 < q) (hq2 : q + 2 * n ≤ 900000) :
    Calls Tryd.prog 35 #[.slice a n c, .int .i64 q] w fun e w' => e = .returned (.int .i64 ((q + 2 * n : Nat) : Int)) ∧ Below w.heap.size w w' := by
  have hM := Mem.start w
  have hr := h.nroom
  have S3 := bsA_list
  go_enter Tryd.func35, Tryd.ntmps35
  go_wp2
  go_loopw [1, 5] (fun v i wr => ∃ k : Nat, k ≤ n ∧ i = .int .i64 k ∧ v = .int .i64 ((q + 2 * k : Nat) : Int) ∧ Mem w.heap.size w wr []) (fun _ i _ => n - (intOf i).toNat)
  case atStart => exact ⟨0, Nat.zero_le _, rfl, rfl, hM⟩
  case round =>
    clear hM
    obtain ⟨k, hk, rfl, rfl, hM⟩ := hrel
    by_cases hlt : k < n
    · obtain ⟨b, off, rfl, -, -⟩ := (h.ext hM.below).at' _ hlt
      have i0 : (0 : Int) ≤ (k : Int) := by omega
      have i1 : (k : Int) < (n : Int) := by omega
      have HY := Lib.hid (fromR_get (q := q) hlt)
      obtain ⟨p, hp⟩ : ∃ p, p = q + 2 * k := ⟨_, rfl⟩
      rw [← hp] at HY ⊢
      have hw1 : IntKind.i64.wrap ((p : Int) + 1) = ((p + 1 : Nat) : Int) := by rw [wrap_in (by omega)]; omega
      have hw2 : IntKind.i64.wrap (((p + 1 : Nat) : Int) + 1) = ((p + 2 : Nat) : Int) := by rw [wrap_in (by omega)]; omega
      have HM1 := Lib.hid (fun w => markText_any p w (by omega) (by omega))
      have HM2 := Lib.hid (fun w => markText_any (p + 1) w (by omega) (by omega))
      have hp2 : ((p + 2 : Nat) : Int) = ((q + 2 * (k + 1) : Nat) : Int) := by omega
      have HP2 := Lib.hid hp2
      clear hp2 hp
      generalize mkT p = s at HM1 HY
      generalize mkT (p + 1) = t at HM2 HY
      generalize p + 1 = p1 at hw1 hw2 HM2
      generalize p + 2 = p2 at hw2 HP2
      have hss : (s != s) = false := by simp
      have htt : (t != t) = false := by simp
      go_wp2_with fail
      refine AtT.startA hM hM 7 (by kernel_rfl) ?_
      clear hM
      intro wd hM
      have hS := hM
      refine AtT.taked (i := 0) (v := ?_) (some 12) rfl rfl (by kernel_rfl) (by kernel_rfl) (by kernel_rfl) (by kernel_rfl) (fun _ _ _ h => h) (Or.inl ⟨by kernel_rfl, ?_⟩) hS ?_
      rotate_left
      · (intro wS hSw; (try dsimp only at hSw); go_simp; (try rw [if_neg (by omega)]); try with_reducible rfl)
      simp only [Act.put, List.setIfInBounds_toArray, List.set_cons_zero, List.set_cons_succ]
      refine AtT.taked (i := 1) (v := ?_) (some 13) rfl rfl (by kernel_rfl) (by kernel_rfl) (by kernel_rfl) (by kernel_rfl) (fun _ _ _ h => h) (Or.inl ⟨by kernel_rfl, ?_⟩) hS ?_
      rotate_left
      · (intro wS hSw; (try dsimp only at hSw); go_simp; (try rw [if_neg (by omega)]); try with_reducible rfl)
      simp only [Act.put, List.setIfInBounds_toArray, List.set_cons_zero, List.set_cons_succ]
      refine AtT.taked (i := 2) (v := ?_) (some 14) rfl rfl (by kernel_rfl) (by kernel_rfl) (by kernel_rfl) (by kernel_rfl) (fun _ _ _ h => h) (Or.inl ⟨by kernel_rfl, ?_⟩) hS ?_
      rotate_left
      · (intro wS hSw; (try dsimp only at hSw); obtain ⟨-, hc0, hc1⟩ := (h.ext hSw.below).cellRec hlt; rw [HY.out] at hc0 hc1; go_simp; (try rw [if_neg (by omega)]); try with_reducible rfl)
      simp only [Act.put, List.setIfInBounds_toArray, List.set_cons_zero, List.set_cons_succ]
      refine AtT.taked (i := 3) (v := ?_) (some 15) rfl rfl (by kernel_rfl) (by kernel_rfl) (by kernel_rfl) (by kernel_rfl) (fun _ _ _ h => h) (Or.inl ⟨by kernel_rfl, ?_⟩) hS ?_
      rotate_left
      · (intro wS hSw; (try dsimp only at hSw); go_simp; (try rw [if_neg (by omega)]); try with_reducible rfl)
      simp only [Act.put, List.setIfInBounds_toArray, List.set_cons_zero, List.set_cons_succ]
      refine AtT.taked (i := 4) (v := ?_) (some 16) rfl rfl (by kernel_rfl) (by kernel_rfl) (by kernel_rfl) (by kernel_rfl) (fun _ _ _ h => h) (Or.inl ⟨by kernel_rfl, ?_⟩) hS ?_
      rotate_left
      · (intro wS hSw; (try dsimp only at hSw); obtain ⟨-, hc0, hc1⟩ := (h.ext hSw.below).cellRec hlt; rw [HY.out] at hc0 hc1; go_simp; (try rw [if_neg (by omega)]); try with_reducible rfl)
      simp only [Act.put, List.setIfInBounds_toArray, List.set_cons_zero, List.set_cons_succ]
      refine AtT.taked (i := 5) (v := ?_) (some 17) rfl rfl (by kernel_rfl) (by kernel_rfl) (by kernel_rfl) (by kernel_rfl) (fun _ _ _ h => h) (Or.inl ⟨by kernel_rfl, ?_⟩) hS ?_
      rotate_left
      · (intro wS hSw; (try dsimp only at hSw); go_simp; (try rw [if_neg (by omega)]); try with_reducible rfl)
      simp only [Act.put, List.setIfInBounds_toArray, List.set_cons_zero, List.set_cons_succ]
      refine AtT.only (i := 6) (by kernel_rfl) rfl rfl ?_
      intro K hK
      go_simp
      refine (HM1.out _).mono ?_
      rintro e w5 ⟨rfl, hb⟩
      replace hM := hM.ext hb
      clear hb
      try dsimp only
      refine hK.out _ _ (hM) ?_
      clear hK K hS
      have hS := hM
      refine AtT.last (by kernel_rfl) rfl (by kernel_rfl) ?_
      intro K hK
      clear hS
      go_simp
      refine hK.out _ _ ?_
      clear hK K
      apply Mem.atEx
      · (repeat' (first | with_reducible exact hM | with_reducible exact hMp | with_reducible apply Mem.drew | with_reducible apply Mem.drewN | with_reducible apply Mem.alloc | with_reducible apply Mem.set | with_reducible exact Sto.row | ((with_reducible refine Sto.rowEq2 ?_ ?_); omega; rfl) | ((with_reducible refine Sto.rowEq ?_); omega) | with_reducible apply Sto.int | with_reducible apply Sto.there | with_reducible assumption | (unfold I64; omega) | (with_reducible (have hMx := Mem.undrew hM; exact hMx)) | (with_reducible (have hMx := Mem.undrew hMp; exact hMx))))
      clear hM
      intro wst hM
      (try simp only [World.size_alloc, World.size_setCell, World.heap_drewN, heapDrew, Nat.add_assoc, Nat.reduceAdd, List.setIfInBounds_toArray, List.set_cons_zero, List.set_cons_succ, List.cons_append, List.nil_append] at hM)
      go_wp2_with fail
      refine AtT.startA hM hM 7 (by kernel_rfl) ?_
      clear hM
      intro wd hM
      have hS := hM
      refine AtT.taked (i := 0) (v := ?_) (some 22) rfl rfl (by kernel_rfl) (by kernel_rfl) (by kernel_rfl) (by kernel_rfl) (fun _ _ _ h => h) (Or.inl ⟨by kernel_rfl, ?_⟩) hS ?_
      rotate_left
      · (intro wS hSw; (try dsimp only at hSw); go_simp; (try rw [if_neg (by omega)]); try with_reducible rfl)
      simp only [Act.put, List.setIfInBounds_toArray, List.set_cons_zero, List.set_cons_succ]
      refine AtT.taked (i := 1) (v := ?_) (some 23) rfl rfl (by kernel_rfl) (by kernel_rfl) (by kernel_rfl) (by kernel_rfl) (fun _ _ _ h => h) (Or.inl ⟨by kernel_rfl, ?_⟩) hS ?_
      rotate_left
      · (intro wS hSw; (try dsimp only at hSw); go_simp; (try rw [if_neg (by omega)]); try with_reducible rfl)
      simp only [Act.put, List.setIfInBounds_toArray, List.set_cons_zero, List.set_cons_succ]
      refine AtT.taked (i := 2) (v := ?_) (some 24) rfl rfl (by kernel_rfl) (by kernel_rfl) (by kernel_rfl) (by kernel_rfl) (fun _ _ _ h => h) (Or.inl ⟨by kernel_rfl, ?_⟩) hS ?_
      rotate_left
      · (intro wS hSw; (try dsimp only at hSw); obtain ⟨-, hc0, hc1⟩ := (h.ext hSw.below).cellRec hlt; rw [HY.out] at hc0 hc1; go_simp; (try rw [if_neg (by omega)]); try with_reducible rfl)
      simp only [Act.put, List.setIfInBounds_toArray, List.set_cons_zero, List.set_cons_succ]
      refine AtT.taked (i := 3) (v := ?_) (some 25) rfl rfl (by kernel_rfl) (by kernel_rfl) (by kernel_rfl) (by kernel_rfl) (fun _ _ _ h => h) (Or.inl ⟨by kernel_rfl, ?_⟩) hS ?_
      rotate_left
      · (intro wS hSw; (try dsimp only at hSw); go_simp; (try rw [if_neg (by omega)]); try with_reducible rfl)
      simp only [Act.put, List.setIfInBounds_toArray, List.set_cons_zero, List.set_cons_succ]
      refine AtT.taked (i := 4) (v := ?_) (some 26) rfl rfl (by kernel_rfl) (by kernel_rfl) (by kernel_rfl) (by kernel_rfl) (fun _ _ _ h => h) (Or.inl ⟨by kernel_rfl, ?_⟩) hS ?_
      rotate_left
      · (intro wS hSw; (try dsimp only at hSw); obtain ⟨-, hc0, hc1⟩ := (h.ext hSw.below).cellRec hlt; rw [HY.out] at hc0 hc1; go_simp; (try rw [if_neg (by omega)]); try with_reducible rfl)
      simp only [Act.put, List.setIfInBounds_toArray, List.set_cons_zero, List.set_cons_succ]
      refine AtT.taked (i := 5) (v := ?_) (some 27) rfl rfl (by kernel_rfl) (by kernel_rfl) (by kernel_rfl) (by kernel_rfl) (fun _ _ _ h => h) (Or.inl ⟨by kernel_rfl, ?_⟩) hS ?_
      rotate_left
      · (intro wS hSw; (try dsimp only at hSw); go_simp; (try rw [if_neg (by omega)]); try with_reducible rfl)
      simp only [Act.put, List.setIfInBounds_toArray, List.set_cons_zero, List.set_cons_succ]
      refine AtT.only (i := 6) (by kernel_rfl) rfl rfl ?_
      intro K hK
      go_simp
      refine (HM2.out _).mono ?_
      rintro e w5 ⟨rfl, hb⟩
      replace hM := hM.ext hb
      clear hb
      try dsimp only
      refine hK.out _ _ (hM) ?_
      clear hK K hS
      have hS := hM
      refine AtT.last (by kernel_rfl) rfl (by kernel_rfl) ?_
      intro K hK
      clear hS
      go_simp
      refine hK.out _ _ ?_
      clear hK K
      go_wp2
      go_roundw
      case rel => exact ⟨k + 1, by omega, by go_num, by rw [HP2.out], by (repeat' (first | with_reducible exact hM | with_reducible exact hMp | with_reducible apply Mem.drew | with_reducible apply Mem.drewN | with_reducible apply Mem.alloc | with_reducible apply Mem.set | with_reducible exact Sto.row | ((with_reducible refine Sto.rowEq2 ?_ ?_); omega; rfl) | ((with_reducible refine Sto.rowEq ?_); omega) | with_reducible apply Sto.int | with_reducible apply Sto.there | with_reducible assumption | (unfold I64; omega) | (with_reducible (have hMx := Mem.undrew hM; exact hMx)) | (with_reducible (have hMx := Mem.undrew hMp; exact hMx))))⟩
      case measure => simp [intOf]; omega
    · obtain rfl : k = n := by omega
      go_wp2
      go_ret
      exact ⟨rfl, (by apply Mem.below; (repeat' (first | with_reducible exact hM | with_reducible exact hMp | with_reducible apply Mem.drew | with_reducible apply Mem.drewN | with_reducible apply Mem.alloc | with_reducible apply Mem.set | with_reducible exact Sto.row | ((with_reducible refine Sto.rowEq2 ?_ ?_); omega; rfl) | ((with_reducible refine Sto.rowEq ?_); omega) | with_reducible apply Sto.int | with_reducible apply Sto.there | with_reducible assumption | (unfold I64; omega) | (with_reducible (have hMx := Mem.undrew hM; exact hMx)) | (with_reducible (have hMx := Mem.undrew hMp; exact hMx)))))⟩
end Go.Proofs.YtkpicemjiokdpaaDoor
