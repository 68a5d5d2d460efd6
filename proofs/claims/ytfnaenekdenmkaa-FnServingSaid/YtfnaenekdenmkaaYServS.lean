/-
  Orders: the order in which they are served, the reference's.
-/
import Derived.Test.YtfnaenekdenmkaaYServ
import Derived.Deep.CutBlock
import Derived.Deep.LoopGhost
/-
  Orders: the order in which they are served, the reference's.
-/
namespace Go.Proofs.Ytfnaenekdenmkaa
set_option linter.unusedSimpArgs false
set_option linter.unusedVariables false
open Go.RowKit

theorem Ints.take {w : World} {a : Option Addr} {n c : Nat} {xs : List Int} (h : Ints w a n c xs) {k : Nat} (hk : k ≤ n) : Ints w a k c (xs.take k) := by
  have hl := h.len
  refine ⟨by rw [List.length_take]; omega, by have := h.cap; omega, h.capm, h.nil, by have := h.room; omega, fun x hx => h.wf x (List.mem_of_mem_take hx), fun j hj => ?_⟩
  obtain ⟨b, off, ha, hb, hc⟩ := h.at' j (by omega)
  refine ⟨b, off, ha, hb, fun i hi => ?_⟩
  rw [hc i (by omega), List.getD_eq_getElem?_getD, List.getD_eq_getElem?_getD, List.getElem?_take, if_pos hi]
theorem Ints.drop {w : World} {g n c : Nat} {xs : List Int} (h : Ints w (some ⟨g, 0, none⟩) n c xs) {k : Nat} (hk : k ≤ n) : Ints w (some ⟨g, k, none⟩) (n - k) (c - k) (xs.drop k) := by
  have hl := h.len
  refine ⟨by rw [List.length_drop]; omega, by have := h.cap; omega, by have := h.capm; omega, by simp, by have := h.room; omega, fun x hx => h.wf x (List.mem_of_mem_drop hx), fun j hj => ?_⟩
  obtain ⟨b, off, ha, hb, hc⟩ := h.at' (k + j) (by omega)
  simp only [Option.some.injEq, Addr.mk.injEq] at ha
  obtain ⟨rfl, rfl, _⟩ := ha
  refine ⟨g, k, rfl, hb, fun i hi => ?_⟩
  have := hc (k + i) (by omega)
  rw [Nat.zero_add] at this
  rw [this, List.getD_eq_getElem?_getD, List.getD_eq_getElem?_getD, List.getElem?_drop]
theorem Ints.none' {w : World} {a : Option Addr} {c : Nat} (hc : c ≤ maxLen) (h : a = none → c = 0) : Ints w a 0 c [] :=
  ⟨rfl, Nat.zero_le _, hc, h, by omega, by simp, fun k hk => by omega⟩

/-- a is served before b -/
def l15B (a b : OrderI) : Bool := if a.ur = b.ur then decide (a.tk < b.tk) || (decide (a.tk = b.tk) && decide (a.id < b.id)) else decide (b.ur < a.ur)
theorem l15B_eq {a b : OrderI} (h : b.id < a.id) : l15B a b = (decide (b.ur < a.ur) || (decide (b.ur = a.ur) && decide (a.tk < b.tk))) := by
  unfold l15B
  have h1 : ¬ a.id < b.id := by omega
  by_cases h2 : a.ur = b.ur
  · rw [if_pos h2, h2]
    simp [h1]
  · rw [if_neg h2]
    have h3 : ¬ b.ur = a.ur := fun e => h2 e.symm
    simp [h3]

set_option maxRecDepth 100000 in
set_option maxHeartbeats 4000000 in
theorem l15Before_any (a b : OrderI) (w : World) :
    Calls Try.prog 131 #[a.val, b.val] w fun e w' => e = .returned (.bool (l15B a b)) ∧ Below w.heap.size w w' := by
  have hM := Mem.start w
  obtain ⟨ai, ak, ac, au, at'⟩ := a
  obtain ⟨bi, bk, bc, bu, bt⟩ := b
  by_cases h1 : au = bu
  · subst h1
    have hn : (au != au) = false := by simp
    have HF := Lib.hid (show l15B ⟨ai, ak, ac, au, at'⟩ ⟨bi, bk, bc, au, bt⟩ = (decide (at' < bt) || (decide (at' = bt) && decide (ai < bi))) from if_pos rfl)
    by_cases h2 : at' < bt
    · skip
      go_enter Try.func131, Try.ntmps131
      go_wp2
      go_ret
      exact ⟨rb (by rw [HF.out]; simp [h2]), by (repeat' (first | exact Below.refl _ _ | with_reducible refine Below.setCell ?_ (by first | omega | (simp; done) | (simp; omega)) _ | with_reducible refine Below.alloc ?_ (by first | omega | (simp; done) | (simp; omega)) _ | with_reducible refine Below.drew ?_ | with_reducible refine bdrewN ?_ _))⟩
    · by_cases h3 : at' = bt
      · subst h3
        go_enter Try.func131, Try.ntmps131
        go_wp2
        go_ret
        exact ⟨rb (by rw [HF.out]; simp), by (repeat' (first | exact Below.refl _ _ | with_reducible refine Below.setCell ?_ (by first | omega | (simp; done) | (simp; omega)) _ | with_reducible refine Below.alloc ?_ (by first | omega | (simp; done) | (simp; omega)) _ | with_reducible refine Below.drew ?_ | with_reducible refine bdrewN ?_ _))⟩
      · have h4 : (at' == bt) = false := by simpa using h3
        go_enter Try.func131, Try.ntmps131
        go_wp2
        go_ret
        exact ⟨rb (by rw [HF.out]; simp [h2, h3]), by (repeat' (first | exact Below.refl _ _ | with_reducible refine Below.setCell ?_ (by first | omega | (simp; done) | (simp; omega)) _ | with_reducible refine Below.alloc ?_ (by first | omega | (simp; done) | (simp; omega)) _ | with_reducible refine Below.drew ?_ | with_reducible refine bdrewN ?_ _))⟩
  · have hn : (au != bu) = true := by simpa using h1
    have HF := Lib.hid (show l15B ⟨ai, ak, ac, au, at'⟩ ⟨bi, bk, bc, bu, bt⟩ = decide (bu < au) from if_neg h1)
    go_enter Try.func131, Try.ntmps131
    go_wp2
    go_ret
    exact ⟨rb (by rw [HF.out]), by (repeat' (first | exact Below.refl _ _ | with_reducible refine Below.setCell ?_ (by first | omega | (simp; done) | (simp; omega)) _ | with_reducible refine Below.alloc ?_ (by first | omega | (simp; done) | (simp; omega)) _ | with_reducible refine Below.drew ?_ | with_reducible refine bdrewN ?_ _))⟩

set_option maxRecDepth 100000 in
set_option maxHeartbeats 8000000 in
theorem l15Queue_any (a : Option Addr) (n c : Nat) (xs : List OrderI) (w : World) (h : Rd FOrder w a n c xs) (hv : ordersB xs = true) :
    Calls Try.prog 83 #[.slice a n c] w fun e w' => ∃ a' c', e = .returned (.slice a' n c') ∧ Mem w.heap.size w w' [intE a' n c' (servL xs)] := by
  have hn := h.cap
  have hc := h.nroom
  have HL := Lib.hid h.len
  have h15 : n ≤ 15 := by have := ord_len hv; rw [h.len] at this; omega
  have HID := Lib.hid (ord_lt hv)
  have hM := Mem.start w
  obtain ⟨i0, hi, hz0, hz1, hz2⟩ := info_parts Try.info3
  go_enter Try.func83, Try.ntmps83
  go_wp2
  go_loopg [3, 4] n (fun gh s3 s4 wr => ∃ (i g c' : Nat), i ≤ n ∧ gh = n - i ∧ s4 = .int .i64 i ∧ s3 = .slice (some ⟨g, 0, none⟩) i c' ∧ Mem w.heap.size w wr [intE (some ⟨g, 0, none⟩) i c' (outS (befO xs) i)])
  case atStart =>
    refine ⟨0, _, _, Nat.zero_le _, rfl, rfl, rfl, ?_⟩
    apply Mem.toInts0
    (repeat' (first | with_reducible exact hM | with_reducible exact hMp | with_reducible apply Mem.drew | with_reducible apply Mem.drewN | with_reducible apply Mem.alloc | with_reducible apply Mem.set | with_reducible exact Sto.row | ((with_reducible refine Sto.rowEq2 ?_ ?_); omega; rfl) | ((with_reducible refine Sto.rowEq ?_); omega) | with_reducible apply Sto.int | with_reducible apply Sto.there | with_reducible assumption | (unfold I64; omega) | (with_reducible (have hMx := Mem.undrew hM; exact hMx)) | (with_reducible (have hMx := Mem.undrew hMp; exact hMx))))
  case round =>
    clear hM
    obtain ⟨i, g, c', hin, rfl, rfl, rfl, hM⟩ := hrel
    obtain ⟨os, hos⟩ : ∃ os, outS (befO xs) i = os := ⟨_, rfl⟩
    have hol : os.length = i := by rw [← hos]; exact outS_length _ _
    have hom : ∀ x ∈ os, 0 ≤ x ∧ x < i := by rw [← hos]; exact outS_mem _ _
    have hnx : outS (befO xs) (i + 1) = os.take (scanK (befO xs) i os i) ++ (i : Int) :: os.drop (scanK (befO xs) i os i) := by rw [outS, hos]
    rw [hos] at hM
    have HOS := Lib.hid hos; clear hos
    have HOL := Lib.hid hol; clear hol
    have HOM := Lib.hid hom; clear hom
    have HNX := Lib.hid hnx; clear hnx
    by_cases hlt : i < n
    · obtain ⟨bb, off, rfl, _⟩ := h.at' _ hlt
      have hbl : bb < w.heap.size := (h.cellOrder hlt).1
      obtain ⟨xv, hxv⟩ : ∃ xv, xs.getD i OrderI.zero = xv := ⟨_, rfl⟩
      have HXV := Lib.hid hxv; clear hxv
      have hi15 : i ≤ 15 := by omega
      go_upto_block 2 with fail
      go_cut [5] (fun s5 wx => s5 = .int .i64 ((scanK (befO xs) i os i : Nat) : Int) ∧ Mem w.heap.size w wx [intE (some ⟨g, 0, none⟩) i c' os])
      case first =>
        go_wp2_with fail
        go_loopg [5] i (fun gh s5 wq => ∃ k : Nat, k ≤ i ∧ k = gh ∧ s5 = .int .i64 k ∧ scanK (befO xs) i os i = scanK (befO xs) i os k ∧ Mem w.heap.size w wq [intE (some ⟨g, 0, none⟩) i c' os])
        case atStart => exact ⟨i, Nat.le_refl _, rfl, rfl, rfl, hM⟩
        case round =>
          clear hM
          obtain ⟨k, hk, rfl, rfl, hsk, hM⟩ := hrel
          have HSK := Lib.hid hsk; clear hsk
          by_cases hk0 : k = 0
          · have kz : decide (0 < k) = false := decide_eq_false (by omega)
            have HK := Lib.hid hk0; clear hk0
            go_wp2_with fail
            apply Mem.atWp
            · (repeat' (first | with_reducible exact hM | with_reducible exact hMp | with_reducible apply Mem.drew | with_reducible apply Mem.drewN | with_reducible apply Mem.alloc | with_reducible apply Mem.set | with_reducible exact Sto.row | ((with_reducible refine Sto.rowEq2 ?_ ?_); omega; rfl) | ((with_reducible refine Sto.rowEq ?_); omega) | with_reducible apply Sto.int | with_reducible apply Sto.there | with_reducible assumption | (unfold I64; omega) | (with_reducible (have hMx := Mem.undrew hM; exact hMx)) | (with_reducible (have hMx := Mem.undrew hMp; exact hMx))))
            clear hM
            intro hM
            refine AtT.startA hM hM 16 (by kernel_rfl) ?_
            clear hM
            intro wd hM
            have hS := hM
            refine AtT.taked (i := 0) (v := ?_) (some 15) rfl rfl (by kernel_rfl) (by kernel_rfl) (by kernel_rfl) (by kernel_rfl) (fun _ _ _ h => h) (Or.inl ⟨by kernel_rfl, ?_⟩) hS ?_
            rotate_left
            · (intro wS hSw; (try dsimp only at hSw); go_simp; (try rw [if_neg (by omega)]); try with_reducible rfl)
            simp only [Act.put, List.setIfInBounds_toArray, List.set_cons_zero, List.set_cons_succ]
            refine AtT.taked (i := 1) (v := ?_) (some 16) rfl rfl (by kernel_rfl) (by kernel_rfl) (by kernel_rfl) (by kernel_rfl) (fun _ _ _ h => h) (Or.inl ⟨by kernel_rfl, ?_⟩) hS ?_
            rotate_left
            · (intro wS hSw; (try dsimp only at hSw); go_simp; (try rw [if_neg (by omega)]); try with_reducible rfl)
            simp only [Act.put, List.setIfInBounds_toArray, List.set_cons_zero, List.set_cons_succ]
            refine AtT.taked (i := 2) (v := ?_) (some 17) rfl rfl (by kernel_rfl) (by kernel_rfl) (by kernel_rfl) (by kernel_rfl) (fun _ _ _ h => h) (Or.inl ⟨by kernel_rfl, ?_⟩) hS ?_
            rotate_left
            · (intro wS hSw; (try dsimp only at hSw); go_simp; (try rw [if_neg (by omega)]); try with_reducible rfl)
            simp only [Act.put, List.setIfInBounds_toArray, List.set_cons_zero, List.set_cons_succ]
            refine AtT.taked (i := 3) (v := undef) (some 18) rfl rfl (by kernel_rfl) (by kernel_rfl) (by kernel_rfl) (by kernel_rfl) (fun _ _ _ h => h) (Or.inr ⟨by kernel_rfl, rfl⟩) hS ?_
            simp only [Act.put, List.setIfInBounds_toArray, List.set_cons_zero, List.set_cons_succ]
            refine AtT.taked (i := 4) (v := undef) (some 19) rfl rfl (by kernel_rfl) (by kernel_rfl) (by kernel_rfl) (by kernel_rfl) (fun _ _ _ h => h) (Or.inr ⟨by kernel_rfl, rfl⟩) hS ?_
            simp only [Act.put, List.setIfInBounds_toArray, List.set_cons_zero, List.set_cons_succ]
            refine AtT.taked (i := 5) (v := undef) (some 20) rfl rfl (by kernel_rfl) (by kernel_rfl) (by kernel_rfl) (by kernel_rfl) (fun _ _ _ h => h) (Or.inr ⟨by kernel_rfl, rfl⟩) hS ?_
            simp only [Act.put, List.setIfInBounds_toArray, List.set_cons_zero, List.set_cons_succ]
            refine AtT.taked (i := 6) (v := undef) (some 21) rfl rfl (by kernel_rfl) (by kernel_rfl) (by kernel_rfl) (by kernel_rfl) (fun _ _ _ h => h) (Or.inr ⟨by kernel_rfl, rfl⟩) hS ?_
            simp only [Act.put, List.setIfInBounds_toArray, List.set_cons_zero, List.set_cons_succ]
            refine AtT.taked (i := 7) (v := undef) (some 22) rfl rfl (by kernel_rfl) (by kernel_rfl) (by kernel_rfl) (by kernel_rfl) (fun _ _ _ h => h) (Or.inr ⟨by kernel_rfl, rfl⟩) hS ?_
            simp only [Act.put, List.setIfInBounds_toArray, List.set_cons_zero, List.set_cons_succ]
            refine AtT.taked (i := 8) (v := undef) (some 23) rfl rfl (by kernel_rfl) (by kernel_rfl) (by kernel_rfl) (by kernel_rfl) (fun _ _ _ h => h) (Or.inr ⟨by kernel_rfl, rfl⟩) hS ?_
            simp only [Act.put, List.setIfInBounds_toArray, List.set_cons_zero, List.set_cons_succ]
            refine AtT.taked (i := 9) (v := undef) (some 24) rfl rfl (by kernel_rfl) (by kernel_rfl) (by kernel_rfl) (by kernel_rfl) (fun _ _ _ h => h) (Or.inr ⟨by kernel_rfl, rfl⟩) hS ?_
            simp only [Act.put, List.setIfInBounds_toArray, List.set_cons_zero, List.set_cons_succ]
            refine AtT.taked (i := 10) (v := undef) (some 25) rfl rfl (by kernel_rfl) (by kernel_rfl) (by kernel_rfl) (by kernel_rfl) (fun _ _ _ h => h) (Or.inr ⟨by kernel_rfl, rfl⟩) hS ?_
            simp only [Act.put, List.setIfInBounds_toArray, List.set_cons_zero, List.set_cons_succ]
            refine AtT.taked (i := 11) (v := undef) (some 26) rfl rfl (by kernel_rfl) (by kernel_rfl) (by kernel_rfl) (by kernel_rfl) (fun _ _ _ h => h) (Or.inr ⟨by kernel_rfl, rfl⟩) hS ?_
            simp only [Act.put, List.setIfInBounds_toArray, List.set_cons_zero, List.set_cons_succ]
            refine AtT.taked (i := 12) (v := undef) (some 27) rfl rfl (by kernel_rfl) (by kernel_rfl) (by kernel_rfl) (by kernel_rfl) (fun _ _ _ h => h) (Or.inr ⟨by kernel_rfl, rfl⟩) hS ?_
            simp only [Act.put, List.setIfInBounds_toArray, List.set_cons_zero, List.set_cons_succ]
            refine AtT.taked (i := 13) (v := undef) (some 28) rfl rfl (by kernel_rfl) (by kernel_rfl) (by kernel_rfl) (by kernel_rfl) (fun _ _ _ h => h) (Or.inr ⟨by kernel_rfl, rfl⟩) hS ?_
            simp only [Act.put, List.setIfInBounds_toArray, List.set_cons_zero, List.set_cons_succ]
            refine AtT.taked (i := 14) (v := undef) (some 29) rfl rfl (by kernel_rfl) (by kernel_rfl) (by kernel_rfl) (by kernel_rfl) (fun _ _ _ h => h) (Or.inr ⟨by kernel_rfl, rfl⟩) hS ?_
            simp only [Act.put, List.setIfInBounds_toArray, List.set_cons_zero, List.set_cons_succ]
            refine AtT.taked (i := 15) (v := undef) (some 30) rfl rfl (by kernel_rfl) (by kernel_rfl) (by kernel_rfl) (by kernel_rfl) (fun _ _ _ h => h) (Or.inr ⟨by kernel_rfl, rfl⟩) hS ?_
            simp only [Act.put, List.setIfInBounds_toArray, List.set_cons_zero, List.set_cons_succ]
            refine AtT.last (by kernel_rfl) rfl (by kernel_rfl) ?_
            intro K hK
            clear hS
            go_simp
            refine hK.out _ _ ?_
            clear hK K
            go_wp2
            go_meet
            exact ⟨by rw [HSK.out, HK.out]; rfl, hM⟩
          · obtain ⟨j, hj⟩ : ∃ j, k = j + 1 := ⟨k - 1, by omega⟩
            have hmem := HOM.out _ (getD_mem (xs := os) (k := j) (by rw [HOL.out]; omega))
            have hst : scanK (befO xs) i os k = if befO xs i (os.getD j 0) then scanK (befO xs) i os j else k := by subst hj; rfl
            obtain ⟨y, hy⟩ : ∃ y, os.getD j 0 = y := ⟨_, rfl⟩
            rw [hy] at hmem hst
            obtain ⟨yn, rfl⟩ : ∃ yn : Nat, y = yn := ⟨y.toNat, by omega⟩
            have hyn : yn < n := by omega
            obtain ⟨yv, hyv⟩ : ∃ yv, xs.getD yn OrderI.zero = yv := ⟨_, rfl⟩
            have HG : Hid (befO xs i yn = l15B xv yv) := by
              have hlt2 := HID.out i yn (by omega) (by rw [HL.out]; exact hlt)
              rw [HXV.out, hyv] at hlt2
              show _ = _
              unfold befO
              rw [Int.toNat_natCast, Int.toNat_natCast, HXV.out, hyv]
              exact (l15B_eq hlt2).symm
            have HS : Hid (∀ w1 : World, Mem w.heap.size w w1 [intE (some ⟨g, 0, none⟩) i c' os] → w1.cell? ⟨g, j, none⟩ = some (.int .i64 yn)) := by
              intro w1 h1
              rw [← hy]; exact (h1.ints .here).cellAt (by omega)
            have HYV := Lib.hid hyv
            obtain ⟨xi, xk, xc, xu, xt⟩ := xv
            obtain ⟨yi, yk, yc, yu, yt⟩ := yv
            have HST := Lib.hid hst; clear hst
            have hjI : IntKind.i64.wrap ((k : Int) - 1) = (j : Int) := by rw [wrap_in (by omega)]; omega
            have a0 : (0 : Int) ≤ (j : Int) := by omega
            have a1 : (j : Int) < (i : Int) := by omega
            have b0 : (0 : Int) ≤ (yn : Int) := by omega
            have b1 : (yn : Int) < (n : Int) := by omega
            have c0 : (0 : Int) ≤ (i : Int) := by omega
            have c1 : (i : Int) < (n : Int) := by omega
            have kp : decide (0 < k) = true := decide_eq_true (by omega)
            have HJ := Lib.hid hj; clear hj hy hyv hmem
            go_wp2_with fail
            apply Mem.atWp
            · (repeat' (first | with_reducible exact hM | with_reducible exact hMp | with_reducible apply Mem.drew | with_reducible apply Mem.drewN | with_reducible apply Mem.alloc | with_reducible apply Mem.set | with_reducible exact Sto.row | ((with_reducible refine Sto.rowEq2 ?_ ?_); omega; rfl) | ((with_reducible refine Sto.rowEq ?_); omega) | with_reducible apply Sto.int | with_reducible apply Sto.there | with_reducible assumption | (unfold I64; omega) | (with_reducible (have hMx := Mem.undrew hM; exact hMx)) | (with_reducible (have hMx := Mem.undrew hMp; exact hMx))))
            clear hM
            intro hM
            refine AtT.startA hM hM 16 (by kernel_rfl) ?_
            clear hM
            intro wd hM
            have hS := hM
            refine AtT.taked (i := 0) (v := ?_) (some 15) rfl rfl (by kernel_rfl) (by kernel_rfl) (by kernel_rfl) (by kernel_rfl) (fun _ _ _ h => h) (Or.inl ⟨by kernel_rfl, ?_⟩) hS ?_
            rotate_left
            · (intro wS hSw; (try dsimp only at hSw); go_simp; (try rw [if_neg (by omega)]); try with_reducible rfl)
            simp only [Act.put, List.setIfInBounds_toArray, List.set_cons_zero, List.set_cons_succ]
            refine AtT.taked (i := 1) (v := ?_) (some 16) rfl rfl (by kernel_rfl) (by kernel_rfl) (by kernel_rfl) (by kernel_rfl) (fun _ _ _ h => h) (Or.inl ⟨by kernel_rfl, ?_⟩) hS ?_
            rotate_left
            · (intro wS hSw; (try dsimp only at hSw); go_simp; (try rw [if_neg (by omega)]); try with_reducible rfl)
            simp only [Act.put, List.setIfInBounds_toArray, List.set_cons_zero, List.set_cons_succ]
            refine AtT.taked (i := 2) (v := ?_) (some 17) rfl rfl (by kernel_rfl) (by kernel_rfl) (by kernel_rfl) (by kernel_rfl) (fun _ _ _ h => h) (Or.inl ⟨by kernel_rfl, ?_⟩) hS ?_
            rotate_left
            · (intro wS hSw; (try dsimp only at hSw); go_simp; (try rw [if_neg (by omega)]); try with_reducible rfl)
            simp only [Act.put, List.setIfInBounds_toArray, List.set_cons_zero, List.set_cons_succ]
            refine AtT.taked (i := 3) (v := ?_) (some 18) rfl rfl (by kernel_rfl) (by kernel_rfl) (by kernel_rfl) (by kernel_rfl) (fun _ _ _ h => h) (Or.inl ⟨by kernel_rfl, ?_⟩) hS ?_
            rotate_left
            · (intro wS hSw; (try dsimp only at hSw); go_simp; (try rw [if_neg (by omega)]); try with_reducible rfl)
            simp only [Act.put, List.setIfInBounds_toArray, List.set_cons_zero, List.set_cons_succ]
            refine AtT.taked (i := 4) (v := ?_) (some 19) rfl rfl (by kernel_rfl) (by kernel_rfl) (by kernel_rfl) (by kernel_rfl) (fun _ _ _ h => h) (Or.inl ⟨by kernel_rfl, ?_⟩) hS ?_
            rotate_left
            · (intro wS hSw; (try dsimp only at hSw); go_simp; (try rw [if_neg (by omega)]); try with_reducible rfl)
            simp only [Act.put, List.setIfInBounds_toArray, List.set_cons_zero, List.set_cons_succ]
            refine AtT.taked (i := 5) (v := ?_) (some 20) rfl rfl (by kernel_rfl) (by kernel_rfl) (by kernel_rfl) (by kernel_rfl) (fun _ _ _ h => h) (Or.inl ⟨by kernel_rfl, ?_⟩) hS ?_
            rotate_left
            · (intro wS hSw; (try dsimp only at hSw); have q1 := HS.out _ hSw; have hcx := (h.ext hSw.below).cellOrder hlt; have hcy := (h.ext hSw.below).cellOrder hyn; rw [HXV.out] at hcx; rw [HYV.out] at hcy; have x0 := hcx.2.1; have x1 := hcx.2.2.1; have x2 := hcx.2.2.2.1; have x3 := hcx.2.2.2.2.1; have x4 := hcx.2.2.2.2.2; have y0 := hcy.2.1; have y1 := hcy.2.2.1; have y2 := hcy.2.2.2.1; have y3 := hcy.2.2.2.2.1; have y4 := hcy.2.2.2.2.2; dsimp only at x0 x1 x2 x3 x4 y0 y1 y2 y3 y4; go_simp; (try rw [if_neg (by omega)]); try with_reducible rfl)
            simp only [Act.put, List.setIfInBounds_toArray, List.set_cons_zero, List.set_cons_succ]
            refine AtT.taked (i := 6) (v := ?_) (some 21) rfl rfl (by kernel_rfl) (by kernel_rfl) (by kernel_rfl) (by kernel_rfl) (fun _ _ _ h => h) (Or.inl ⟨by kernel_rfl, ?_⟩) hS ?_
            rotate_left
            · (intro wS hSw; (try dsimp only at hSw); have q1 := HS.out _ hSw; have hcx := (h.ext hSw.below).cellOrder hlt; have hcy := (h.ext hSw.below).cellOrder hyn; rw [HXV.out] at hcx; rw [HYV.out] at hcy; have x0 := hcx.2.1; have x1 := hcx.2.2.1; have x2 := hcx.2.2.2.1; have x3 := hcx.2.2.2.2.1; have x4 := hcx.2.2.2.2.2; have y0 := hcy.2.1; have y1 := hcy.2.2.1; have y2 := hcy.2.2.2.1; have y3 := hcy.2.2.2.2.1; have y4 := hcy.2.2.2.2.2; dsimp only at x0 x1 x2 x3 x4 y0 y1 y2 y3 y4; go_simp; (try rw [if_neg (by omega)]); try with_reducible rfl)
            simp only [Act.put, List.setIfInBounds_toArray, List.set_cons_zero, List.set_cons_succ]
            refine AtT.taked (i := 7) (v := ?_) (some 22) rfl rfl (by kernel_rfl) (by kernel_rfl) (by kernel_rfl) (by kernel_rfl) (fun _ _ _ h => h) (Or.inl ⟨by kernel_rfl, ?_⟩) hS ?_
            rotate_left
            · (intro wS hSw; (try dsimp only at hSw); go_simp; (try rw [if_neg (by omega)]); try with_reducible rfl)
            simp only [Act.put, List.setIfInBounds_toArray, List.set_cons_zero, List.set_cons_succ]
            refine AtT.taked (i := 8) (v := ?_) (some 23) rfl rfl (by kernel_rfl) (by kernel_rfl) (by kernel_rfl) (by kernel_rfl) (fun _ _ _ h => h) (Or.inl ⟨by kernel_rfl, ?_⟩) hS ?_
            rotate_left
            · (intro wS hSw; (try dsimp only at hSw); go_simp; (try rw [if_neg (by omega)]); try with_reducible rfl)
            simp only [Act.put, List.setIfInBounds_toArray, List.set_cons_zero, List.set_cons_succ]
            refine AtT.taked (i := 9) (v := ?_) (some 24) rfl rfl (by kernel_rfl) (by kernel_rfl) (by kernel_rfl) (by kernel_rfl) (fun _ _ _ h => h) (Or.inl ⟨by kernel_rfl, ?_⟩) hS ?_
            rotate_left
            · (intro wS hSw; (try dsimp only at hSw); go_simp; (try rw [if_neg (by omega)]); try with_reducible rfl)
            simp only [Act.put, List.setIfInBounds_toArray, List.set_cons_zero, List.set_cons_succ]
            refine AtT.taked (i := 10) (v := ?_) (some 25) rfl rfl (by kernel_rfl) (by kernel_rfl) (by kernel_rfl) (by kernel_rfl) (fun _ _ _ h => h) (Or.inl ⟨by kernel_rfl, ?_⟩) hS ?_
            rotate_left
            · (intro wS hSw; (try dsimp only at hSw); go_simp; (try rw [if_neg (by omega)]); try with_reducible rfl)
            simp only [Act.put, List.setIfInBounds_toArray, List.set_cons_zero, List.set_cons_succ]
            refine AtT.taked (i := 11) (v := ?_) (some 26) rfl rfl (by kernel_rfl) (by kernel_rfl) (by kernel_rfl) (by kernel_rfl) (fun _ _ _ h => h) (Or.inl ⟨by kernel_rfl, ?_⟩) hS ?_
            rotate_left
            · (intro wS hSw; (try dsimp only at hSw); have q1 := HS.out _ hSw; have hcx := (h.ext hSw.below).cellOrder hlt; have hcy := (h.ext hSw.below).cellOrder hyn; rw [HXV.out] at hcx; rw [HYV.out] at hcy; have x0 := hcx.2.1; have x1 := hcx.2.2.1; have x2 := hcx.2.2.2.1; have x3 := hcx.2.2.2.2.1; have x4 := hcx.2.2.2.2.2; have y0 := hcy.2.1; have y1 := hcy.2.2.1; have y2 := hcy.2.2.2.1; have y3 := hcy.2.2.2.2.1; have y4 := hcy.2.2.2.2.2; dsimp only at x0 x1 x2 x3 x4 y0 y1 y2 y3 y4; go_simp; (try rw [if_neg (by omega)]); try with_reducible rfl)
            simp only [Act.put, List.setIfInBounds_toArray, List.set_cons_zero, List.set_cons_succ]
            refine AtT.taked (i := 12) (v := ?_) (some 27) rfl rfl (by kernel_rfl) (by kernel_rfl) (by kernel_rfl) (by kernel_rfl) (fun _ _ _ h => h) (Or.inl ⟨by kernel_rfl, ?_⟩) hS ?_
            rotate_left
            · (intro wS hSw; (try dsimp only at hSw); have q1 := HS.out _ hSw; have hcx := (h.ext hSw.below).cellOrder hlt; have hcy := (h.ext hSw.below).cellOrder hyn; rw [HXV.out] at hcx; rw [HYV.out] at hcy; have x0 := hcx.2.1; have x1 := hcx.2.2.1; have x2 := hcx.2.2.2.1; have x3 := hcx.2.2.2.2.1; have x4 := hcx.2.2.2.2.2; have y0 := hcy.2.1; have y1 := hcy.2.2.1; have y2 := hcy.2.2.2.1; have y3 := hcy.2.2.2.2.1; have y4 := hcy.2.2.2.2.2; dsimp only at x0 x1 x2 x3 x4 y0 y1 y2 y3 y4; go_simp; (try rw [if_neg (by omega)]); try with_reducible rfl)
            simp only [Act.put, List.setIfInBounds_toArray, List.set_cons_zero, List.set_cons_succ]
            refine AtT.taked (i := 13) (v := ?_) (some 28) rfl rfl (by kernel_rfl) (by kernel_rfl) (by kernel_rfl) (by kernel_rfl) (fun _ _ _ h => h) (Or.inl ⟨by kernel_rfl, ?_⟩) hS ?_
            rotate_left
            · (intro wS hSw; (try dsimp only at hSw); have q1 := HS.out _ hSw; have hcx := (h.ext hSw.below).cellOrder hlt; have hcy := (h.ext hSw.below).cellOrder hyn; rw [HXV.out] at hcx; rw [HYV.out] at hcy; have x0 := hcx.2.1; have x1 := hcx.2.2.1; have x2 := hcx.2.2.2.1; have x3 := hcx.2.2.2.2.1; have x4 := hcx.2.2.2.2.2; have y0 := hcy.2.1; have y1 := hcy.2.2.1; have y2 := hcy.2.2.2.1; have y3 := hcy.2.2.2.2.1; have y4 := hcy.2.2.2.2.2; dsimp only at x0 x1 x2 x3 x4 y0 y1 y2 y3 y4; go_simp; (try rw [if_neg (by omega)]); try with_reducible rfl)
            simp only [Act.put, List.setIfInBounds_toArray, List.set_cons_zero, List.set_cons_succ]
            refine AtT.taked (i := 14) (v := ?_) (some 29) rfl rfl (by kernel_rfl) (by kernel_rfl) (by kernel_rfl) (by kernel_rfl) (fun _ _ _ h => h) (Or.inl ⟨by kernel_rfl, ?_⟩) hS ?_
            rotate_left
            · (intro wS hSw; (try dsimp only at hSw); have q1 := HS.out _ hSw; have hcx := (h.ext hSw.below).cellOrder hlt; have hcy := (h.ext hSw.below).cellOrder hyn; rw [HXV.out] at hcx; rw [HYV.out] at hcy; have x0 := hcx.2.1; have x1 := hcx.2.2.1; have x2 := hcx.2.2.2.1; have x3 := hcx.2.2.2.2.1; have x4 := hcx.2.2.2.2.2; have y0 := hcy.2.1; have y1 := hcy.2.2.1; have y2 := hcy.2.2.2.1; have y3 := hcy.2.2.2.2.1; have y4 := hcy.2.2.2.2.2; dsimp only at x0 x1 x2 x3 x4 y0 y1 y2 y3 y4; go_simp; (try rw [if_neg (by omega)]); try with_reducible rfl)
            simp only [Act.put, List.setIfInBounds_toArray, List.set_cons_zero, List.set_cons_succ]
            refine AtT.only (i := 15) (by kernel_rfl) rfl rfl ?_
            intro K hK
            go_simp
            refine (l15Before_any ⟨xi, xk, xc, xu, xt⟩ ⟨yi, yk, yc, yu, yt⟩ _).mono ?_
            rintro e w3 ⟨rfl, hb⟩
            replace hM := hM.ext hb
            clear hb
            try dsimp only
            refine hK.out _ _ (hM) ?_
            clear hK K hS
            have hS := hM
            refine AtT.last (by kernel_rfl) rfl (by kernel_rfl) ?_
            intro K hK
            clear hS
            go_simp
            refine hK.out _ _ ?_
            clear hK K
            cases hyx : l15B ⟨xi, xk, xc, xu, xt⟩ ⟨yi, yk, yc, yu, yt⟩
            · have HY : Hid (scanK (befO xs) i os k = k) := by
                show _ = _
                rw [HST.out, HG.out, if_neg (by rw [hyx]; simp)]
              go_wp2
              go_meet
              exact ⟨by rw [HSK.out, HY.out], hM⟩
            · have HY : Hid (scanK (befO xs) i os k = scanK (befO xs) i os j) := by
                show _ = _
                rw [HST.out, HG.out, if_pos hyx]
              go_wp2
              go_roundg j
              case measure => have := HJ.out; omega
              case rel => exact ⟨j, by omega, rfl, rfl, by rw [HSK.out, HY.out], hM⟩
      case rest =>
        clear hM
        obtain ⟨rfl, hM⟩ := hcut
        have hki := scanK_le (befO xs) i os i
        obtain ⟨k, hk⟩ : ∃ k, scanK (befO xs) i os i = k := ⟨_, rfl⟩
        rw [hk] at hki ⊢
        have HK := Lib.hid hk; clear hk
        have HLN : Hid (os.take k ++ [(i : Int)] ++ os.drop k = outS (befO xs) (i + 1)) := by
          show _ = _
          rw [HNX.out, HK.out]
          simp
        have HWN : Hid (∀ x ∈ outS (befO xs) (i + 1), I64 x) := fun x hx => by
          have := outS_mem _ _ x hx
          unfold I64; omega
        have HWO : ∀ x ∈ os, I64 x := fun x hx => by
          have := HOM.out x hx
          unfold I64; omega
        have HWT : Hid (∀ x ∈ os.take k, I64 x) := fun x hx => HWO x (List.mem_of_mem_take hx)
        have HWI : Hid (∀ x ∈ os.take k ++ [(i : Int)], I64 x) := fun x hx => by
          rcases List.mem_append.1 hx with hx | hx
          · exact HWT.out x hx
          · obtain rfl : x = i := by simpa using hx
            unfold I64; omega
        clear HWO
        have hol := HOL.out
        have hoc := (hM.ints .here).ints.cap
        have hom := (hM.ints .here).ints.capm
        unfold maxLen at hom
        have k0 : (0 : Int) ≤ (k : Int) := by omega
        have k1 : (k : Int) ≤ (i : Int) := by omega
        have k2 : (k : Int) ≤ (c' : Int) := by omega
        have HLO := Lib.hid hol; clear hol
        by_cases hcap : k = c'
        · obtain rfl : i = c' := by omega
          obtain rfl : i = k := by omega
          clear hcap
          go_wp2_with fail
          apply Mem.atWp
          · (repeat' (first | with_reducible exact hM | with_reducible exact hMp | with_reducible apply Mem.drew | with_reducible apply Mem.drewN | with_reducible apply Mem.alloc | with_reducible apply Mem.set | with_reducible exact Sto.row | ((with_reducible refine Sto.rowEq2 ?_ ?_); omega; rfl) | ((with_reducible refine Sto.rowEq ?_); omega) | with_reducible apply Sto.int | with_reducible apply Sto.there | with_reducible assumption | (unfold I64; omega) | (with_reducible (have hMx := Mem.undrew hM; exact hMx)) | (with_reducible (have hMx := Mem.undrew hMp; exact hMx))))
          clear hM
          intro hM
          refine AtT.startA hM hM 12 (by kernel_rfl) ?_
          clear hM
          intro wd hM
          have hS := hM
          refine AtT.taked (i := 1) (v := ?_) (some 35) rfl rfl (by kernel_rfl) (by kernel_rfl) (by kernel_rfl) (by kernel_rfl) (fun _ _ _ h => h) (Or.inl ⟨by kernel_rfl, ?_⟩) hS ?_
          rotate_left
          · (intro wS hSw; (try dsimp only at hSw); go_simp; (try rw [if_neg (by omega)]); try with_reducible rfl)
          simp only [Act.put, List.setIfInBounds_toArray, List.set_cons_zero, List.set_cons_succ]
          refine AtT.taked (i := 2) (v := ?_) (some 36) rfl rfl (by kernel_rfl) (by kernel_rfl) (by kernel_rfl) (by kernel_rfl) (fun _ _ _ h => h) (Or.inl ⟨by kernel_rfl, ?_⟩) hS ?_
          rotate_left
          · (intro wS hSw; (try dsimp only at hSw); go_simp; (try rw [if_neg (by omega)]); try with_reducible rfl)
          simp only [Act.put, List.setIfInBounds_toArray, List.set_cons_zero, List.set_cons_succ]
          refine AtT.taked (i := 3) (v := ?_) (some 37) rfl rfl (by kernel_rfl) (by kernel_rfl) (by kernel_rfl) (by kernel_rfl) (fun _ _ _ h => h) (Or.inl ⟨by kernel_rfl, ?_⟩) hS ?_
          rotate_left
          · (intro wS hSw; (try dsimp only at hSw); go_simp; (try rw [if_neg (by omega)]); try with_reducible rfl)
          simp only [Act.put, List.setIfInBounds_toArray, List.set_cons_zero, List.set_cons_succ]
          refine AtT.taked (i := 5) (v := ?_) (some 39) rfl rfl (by kernel_rfl) (by kernel_rfl) (by kernel_rfl) (by kernel_rfl) (fun _ _ _ h => h) (Or.inl ⟨by kernel_rfl, ?_⟩) hS ?_
          rotate_left
          · (intro wS hSw; (try dsimp only at hSw); go_simp; (try rw [if_neg (by omega)]); try with_reducible rfl)
          simp only [Act.put, List.setIfInBounds_toArray, List.set_cons_zero, List.set_cons_succ]
          refine AtT.taked (i := 8) (v := ?_) (some 42) rfl rfl (by kernel_rfl) (by kernel_rfl) (by kernel_rfl) (by kernel_rfl) (fun _ _ _ h => h) (Or.inl ⟨by kernel_rfl, ?_⟩) hS ?_
          rotate_left
          · (intro wS hSw; (try dsimp only at hSw); go_simp; (try rw [if_neg (by omega)]); try with_reducible rfl)
          simp only [Act.put, List.setIfInBounds_toArray, List.set_cons_zero, List.set_cons_succ]
          refine AtT.taked (i := 9) (v := ?_) (some 43) rfl rfl (by kernel_rfl) (by kernel_rfl) (by kernel_rfl) (by kernel_rfl) (fun _ _ _ h => h) (Or.inl ⟨by kernel_rfl, ?_⟩) hS ?_
          rotate_left
          · (intro wS hSw; (try dsimp only at hSw); go_simp; (try rw [if_neg (by omega)]); try with_reducible rfl)
          simp only [Act.put, List.setIfInBounds_toArray, List.set_cons_zero, List.set_cons_succ]
          refine AtT.taked (i := 10) (v := ?_) (some 44) rfl rfl (by kernel_rfl) (by kernel_rfl) (by kernel_rfl) (by kernel_rfl) (fun _ _ _ h => h) (Or.inl ⟨by kernel_rfl, ?_⟩) hS ?_
          rotate_left
          · (intro wS hSw; (try dsimp only at hSw); go_simp; (try rw [if_neg (by omega)]); try with_reducible rfl)
          simp only [Act.put, List.setIfInBounds_toArray, List.set_cons_zero, List.set_cons_succ]
          refine AtT.two (i := 0) (j := 6) (by kernel_rfl) rfl rfl rfl rfl ?_ ?_
          · skip
            intro K hK
            go_simp
            refine hK.out _ _ (by apply Mem.tail; (repeat' (first | with_reducible exact hM | with_reducible exact hMp | with_reducible apply Mem.drew | with_reducible apply Mem.drewN | with_reducible apply Mem.alloc | with_reducible apply Mem.set | with_reducible exact Sto.row | ((with_reducible refine Sto.rowEq2 ?_ ?_); omega; rfl) | ((with_reducible refine Sto.rowEq ?_); omega) | with_reducible apply Sto.int | with_reducible apply Sto.there | with_reducible assumption | (unfold I64; omega) | (with_reducible (have hMx := Mem.undrew hM; exact hMx)) | (with_reducible (have hMx := Mem.undrew hMp; exact hMx))))) ?_
            clear hK K hS
            have hMp := hM
            apply Mem.atT
            · (repeat' (first | with_reducible exact hM | with_reducible exact hMp | with_reducible apply Mem.drew | with_reducible apply Mem.drewN | with_reducible apply Mem.alloc | with_reducible apply Mem.set | with_reducible exact Sto.row | ((with_reducible refine Sto.rowEq2 ?_ ?_); omega; rfl) | ((with_reducible refine Sto.rowEq ?_); omega) | with_reducible apply Sto.int | with_reducible apply Sto.there | with_reducible assumption | (unfold I64; omega) | (with_reducible (have hMx := Mem.undrew hM; exact hMx)) | (with_reducible (have hMx := Mem.undrew hMp; exact hMx))))
            clear hM
            intro hM
            (try simp only [World.size_alloc, World.size_setCell, World.heap_drewN, heapDrew, Nat.add_assoc, Nat.reduceAdd, List.setIfInBounds_toArray, List.set_cons_zero, List.set_cons_succ, List.cons_append, List.nil_append] at hM)
            have hS := hM.tail
            refine AtT.two (i := 4) (j := 6) (by kernel_rfl) rfl rfl rfl rfl ?_ ?_
            · skip
              intro K hK
              replace hM := hM.toInts (xs := []) .here rfl (by simp) (by simp)
              refine step_appendI rfl (.tmp 34) (.tmp 37) 41 rfl 3 i0 Try.underlying41 hi hz0 hz1 hz2 w.heap.size _ 0 _ [] rfl (hM.ints .here).row (some ⟨g, 0, none⟩) i i (os.take i) rfl ((hM.ints (.there .here)).ints.take hki) (by omega) hM.size ?_
              intro a2 c2 w2 hrow hg hbl
              rw [Nat.zero_add, List.nil_append] at hrow
              rw [Nat.zero_add]
              have hO := own_of hrow (by rw [List.length_take, HLO.out]; omega) (by omega) HWT.out
              replace hM := hM.appended .here hO hg (fun k hk => by simpa using hbl k hk)
              clear hO hrow hg hbl
              try dsimp only
              refine hK.out _ _ (hM.tail) ?_
              clear hK K hS
              have hS := hM.tail
              refine AtT.only (i := 6) (by kernel_rfl) rfl rfl ?_
              intro K hK
              go_simp
              refine hK.out _ _ (by apply Mem.tail; apply Mem.tail; (repeat' (first | with_reducible exact hM | with_reducible exact hMp | with_reducible apply Mem.drew | with_reducible apply Mem.drewN | with_reducible apply Mem.alloc | with_reducible apply Mem.set | with_reducible exact Sto.row | ((with_reducible refine Sto.rowEq2 ?_ ?_); omega; rfl) | ((with_reducible refine Sto.rowEq ?_); omega) | with_reducible apply Sto.int | with_reducible apply Sto.there | with_reducible assumption | (unfold I64; omega) | (with_reducible (have hMx := Mem.undrew hM; exact hMx)) | (with_reducible (have hMx := Mem.undrew hMp; exact hMx))))) ?_
              clear hK K hS
              have hMp := hM
              apply Mem.atT
              · (repeat' (first | with_reducible exact hM | with_reducible exact hMp | with_reducible apply Mem.drew | with_reducible apply Mem.drewN | with_reducible apply Mem.alloc | with_reducible apply Mem.set | with_reducible exact Sto.row | ((with_reducible refine Sto.rowEq2 ?_ ?_); omega; rfl) | ((with_reducible refine Sto.rowEq ?_); omega) | with_reducible apply Sto.int | with_reducible apply Sto.there | with_reducible assumption | (unfold I64; omega) | (with_reducible (have hMx := Mem.undrew hM; exact hMx)) | (with_reducible (have hMx := Mem.undrew hMp; exact hMx))))
              clear hM
              intro hM
              (try simp only [World.size_alloc, World.size_setCell, World.heap_drewN, heapDrew, Nat.add_assoc, Nat.reduceAdd, List.setIfInBounds_toArray, List.set_cons_zero, List.set_cons_succ, List.cons_append, List.nil_append] at hM)
              have hS := hM.tail.tail
              refine AtT.only (i := 7) (by kernel_rfl) rfl rfl ?_
              intro K hK
              refine step_appendI rfl (.tmp 38) (.tmp 40) 41 rfl 3 i0 Try.underlying41 hi hz0 hz1 hz2 w.heap.size _ _ _ _ rfl (hM.ints (.there .here)).row _ 1 1 [(i : Int)] rfl (hM.oneInt .here (by unfold I64; omega)) (by omega) hM.size ?_
              intro a3 c3 w3 hrow hg hbl
              have hO := own_of hrow (by first | (simp [HLO.out]; done) | (simp [HLO.out]; omega)) (by omega) HWI.out
              replace hM := hM.appended (.there .here) hO hg (fun k hk => by simpa using hbl k hk)
              clear hO hrow hg hbl
              try dsimp only
              refine hK.out _ _ (hM.tail.tail) ?_
              clear hK K hS
              have hS := hM.tail.tail
              refine AtT.only (i := 11) (by kernel_rfl) rfl rfl ?_
              intro K hK
              refine step_appendI rfl (.tmp 41) (.tmp 44) 41 rfl 3 i0 Try.underlying41 hi hz0 hz1 hz2 w.heap.size _ _ _ _ rfl (hM.ints (.there .here)).row (some ⟨g, 0, none⟩) 0 0 (os.drop i) rfl (by rw [List.drop_of_length_le (by rw [HLO.out]; exact Nat.le_refl _)]; exact Ints.none' (by unfold maxLen; omega) (by simp)) (by omega) hM.size ?_
              intro a4 c4 w4 hrow hg hbl
              rw [show i + 1 + 0 = i + 1 by omega] at hrow ⊢
              rw [HLN.out] at hrow
              have hO := own_of hrow (outS_length _ _) (by omega) HWN.out
              replace hM := hM.appended (.there .here) hO hg (fun k hk => by simpa using hbl k hk)
              obtain ⟨g4, rfl, _⟩ := hO.head (by omega)
              clear hO hrow hg hbl
              try dsimp only
              refine hK.out _ _ (hM.tail.tail) ?_
              clear hK K hS
              have hS := hM.tail.tail
              refine AtT.last (by kernel_rfl) rfl (by kernel_rfl) ?_
              intro K hK
              clear hS
              go_simp
              refine hK.out _ _ ?_
              clear hK K
              go_wp2
              go_roundg (n - (i + 1))
              case measure => omega
              case rel =>
              refine ⟨i + 1, g4, c4, by omega, rfl, by go_num, rfl, ?_⟩
              apply Mem.pick (is := [1])
              · (repeat' (first | with_reducible exact hM | with_reducible exact hMp | with_reducible apply Mem.drew | with_reducible apply Mem.drewN | with_reducible apply Mem.alloc | with_reducible apply Mem.set | with_reducible exact Sto.row | ((with_reducible refine Sto.rowEq2 ?_ ?_); omega; rfl) | ((with_reducible refine Sto.rowEq ?_); omega) | with_reducible apply Sto.int | with_reducible apply Sto.there | with_reducible assumption | (unfold I64; omega) | (with_reducible (have hMx := Mem.undrew hM; exact hMx)) | (with_reducible (have hMx := Mem.undrew hMp; exact hMx))))
              · decide
              · rfl
            · skip
              intro K hK
              go_simp
              refine hK.out _ _ (by apply Mem.tail; apply Mem.tail; (repeat' (first | with_reducible exact hM | with_reducible exact hMp | with_reducible apply Mem.drew | with_reducible apply Mem.drewN | with_reducible apply Mem.alloc | with_reducible apply Mem.set | with_reducible exact Sto.row | ((with_reducible refine Sto.rowEq2 ?_ ?_); omega; rfl) | ((with_reducible refine Sto.rowEq ?_); omega) | with_reducible apply Sto.int | with_reducible apply Sto.there | with_reducible assumption | (unfold I64; omega) | (with_reducible (have hMx := Mem.undrew hM; exact hMx)) | (with_reducible (have hMx := Mem.undrew hMp; exact hMx))))) ?_
              clear hK K hS
              have hMp := hM
              apply Mem.atT
              · (repeat' (first | with_reducible exact hM | with_reducible exact hMp | with_reducible apply Mem.drew | with_reducible apply Mem.drewN | with_reducible apply Mem.alloc | with_reducible apply Mem.set | with_reducible exact Sto.row | ((with_reducible refine Sto.rowEq2 ?_ ?_); omega; rfl) | ((with_reducible refine Sto.rowEq ?_); omega) | with_reducible apply Sto.int | with_reducible apply Sto.there | with_reducible assumption | (unfold I64; omega) | (with_reducible (have hMx := Mem.undrew hM; exact hMx)) | (with_reducible (have hMx := Mem.undrew hMp; exact hMx))))
              clear hM
              intro hM
              (try simp only [World.size_alloc, World.size_setCell, World.heap_drewN, heapDrew, Nat.add_assoc, Nat.reduceAdd, List.setIfInBounds_toArray, List.set_cons_zero, List.set_cons_succ, List.cons_append, List.nil_append] at hM)
              have hS := hM.tail.tail
              refine AtT.only (i := 4) (by kernel_rfl) rfl rfl ?_
              intro K hK
              replace hM := hM.toInts (xs := []) (.there .here) rfl (by simp) (by simp)
              refine step_appendI rfl (.tmp 34) (.tmp 37) 41 rfl 3 i0 Try.underlying41 hi hz0 hz1 hz2 w.heap.size _ 0 _ [] rfl (hM.ints (.there .here)).row (some ⟨g, 0, none⟩) i i (os.take i) rfl ((hM.ints (.there (.there .here))).ints.take hki) (by omega) hM.size ?_
              intro a2 c2 w2 hrow hg hbl
              rw [Nat.zero_add, List.nil_append] at hrow
              rw [Nat.zero_add]
              have hO := own_of hrow (by rw [List.length_take, HLO.out]; omega) (by omega) HWT.out
              replace hM := hM.appended (.there .here) hO hg (fun k hk => by simpa using hbl k hk)
              clear hO hrow hg hbl
              try dsimp only
              refine hK.out _ _ (hM.tail.tail) ?_
              clear hK K hS
              have hS := hM.tail.tail
              refine AtT.only (i := 7) (by kernel_rfl) rfl rfl ?_
              intro K hK
              refine step_appendI rfl (.tmp 38) (.tmp 40) 41 rfl 3 i0 Try.underlying41 hi hz0 hz1 hz2 w.heap.size _ _ _ _ rfl (hM.ints (.there .here)).row _ 1 1 [(i : Int)] rfl (hM.oneInt .here (by unfold I64; omega)) (by omega) hM.size ?_
              intro a3 c3 w3 hrow hg hbl
              have hO := own_of hrow (by first | (simp [HLO.out]; done) | (simp [HLO.out]; omega)) (by omega) HWI.out
              replace hM := hM.appended (.there .here) hO hg (fun k hk => by simpa using hbl k hk)
              clear hO hrow hg hbl
              try dsimp only
              refine hK.out _ _ (hM.tail.tail) ?_
              clear hK K hS
              have hS := hM.tail.tail
              refine AtT.only (i := 11) (by kernel_rfl) rfl rfl ?_
              intro K hK
              refine step_appendI rfl (.tmp 41) (.tmp 44) 41 rfl 3 i0 Try.underlying41 hi hz0 hz1 hz2 w.heap.size _ _ _ _ rfl (hM.ints (.there .here)).row (some ⟨g, 0, none⟩) 0 0 (os.drop i) rfl (by rw [List.drop_of_length_le (by rw [HLO.out]; exact Nat.le_refl _)]; exact Ints.none' (by unfold maxLen; omega) (by simp)) (by omega) hM.size ?_
              intro a4 c4 w4 hrow hg hbl
              rw [show i + 1 + 0 = i + 1 by omega] at hrow ⊢
              rw [HLN.out] at hrow
              have hO := own_of hrow (outS_length _ _) (by omega) HWN.out
              replace hM := hM.appended (.there .here) hO hg (fun k hk => by simpa using hbl k hk)
              obtain ⟨g4, rfl, _⟩ := hO.head (by omega)
              clear hO hrow hg hbl
              try dsimp only
              refine hK.out _ _ (hM.tail.tail) ?_
              clear hK K hS
              have hS := hM.tail.tail
              refine AtT.last (by kernel_rfl) rfl (by kernel_rfl) ?_
              intro K hK
              clear hS
              go_simp
              refine hK.out _ _ ?_
              clear hK K
              go_wp2
              go_roundg (n - (i + 1))
              case measure => omega
              case rel =>
              refine ⟨i + 1, g4, c4, by omega, rfl, by go_num, rfl, ?_⟩
              apply Mem.pick (is := [1])
              · (repeat' (first | with_reducible exact hM | with_reducible exact hMp | with_reducible apply Mem.drew | with_reducible apply Mem.drewN | with_reducible apply Mem.alloc | with_reducible apply Mem.set | with_reducible exact Sto.row | ((with_reducible refine Sto.rowEq2 ?_ ?_); omega; rfl) | ((with_reducible refine Sto.rowEq ?_); omega) | with_reducible apply Sto.int | with_reducible apply Sto.there | with_reducible assumption | (unfold I64; omega) | (with_reducible (have hMx := Mem.undrew hM; exact hMx)) | (with_reducible (have hMx := Mem.undrew hMp; exact hMx))))
              · decide
              · rfl
          · skip
            intro K hK
            go_simp
            refine hK.out _ _ (by apply Mem.tail; (repeat' (first | with_reducible exact hM | with_reducible exact hMp | with_reducible apply Mem.drew | with_reducible apply Mem.drewN | with_reducible apply Mem.alloc | with_reducible apply Mem.set | with_reducible exact Sto.row | ((with_reducible refine Sto.rowEq2 ?_ ?_); omega; rfl) | ((with_reducible refine Sto.rowEq ?_); omega) | with_reducible apply Sto.int | with_reducible apply Sto.there | with_reducible assumption | (unfold I64; omega) | (with_reducible (have hMx := Mem.undrew hM; exact hMx)) | (with_reducible (have hMx := Mem.undrew hMp; exact hMx))))) ?_
            clear hK K hS
            have hMp := hM
            apply Mem.atT
            · (repeat' (first | with_reducible exact hM | with_reducible exact hMp | with_reducible apply Mem.drew | with_reducible apply Mem.drewN | with_reducible apply Mem.alloc | with_reducible apply Mem.set | with_reducible exact Sto.row | ((with_reducible refine Sto.rowEq2 ?_ ?_); omega; rfl) | ((with_reducible refine Sto.rowEq ?_); omega) | with_reducible apply Sto.int | with_reducible apply Sto.there | with_reducible assumption | (unfold I64; omega) | (with_reducible (have hMx := Mem.undrew hM; exact hMx)) | (with_reducible (have hMx := Mem.undrew hMp; exact hMx))))
            clear hM
            intro hM
            (try simp only [World.size_alloc, World.size_setCell, World.heap_drewN, heapDrew, Nat.add_assoc, Nat.reduceAdd, List.setIfInBounds_toArray, List.set_cons_zero, List.set_cons_succ, List.cons_append, List.nil_append] at hM)
            have hS := hM.tail
            refine AtT.only (i := 0) (by kernel_rfl) rfl rfl ?_
            intro K hK
            go_simp
            refine hK.out _ _ (by apply Mem.tail; apply Mem.tail; (repeat' (first | with_reducible exact hM | with_reducible exact hMp | with_reducible apply Mem.drew | with_reducible apply Mem.drewN | with_reducible apply Mem.alloc | with_reducible apply Mem.set | with_reducible exact Sto.row | ((with_reducible refine Sto.rowEq2 ?_ ?_); omega; rfl) | ((with_reducible refine Sto.rowEq ?_); omega) | with_reducible apply Sto.int | with_reducible apply Sto.there | with_reducible assumption | (unfold I64; omega) | (with_reducible (have hMx := Mem.undrew hM; exact hMx)) | (with_reducible (have hMx := Mem.undrew hMp; exact hMx))))) ?_
            clear hK K hS
            have hMp := hM
            apply Mem.atT
            · (repeat' (first | with_reducible exact hM | with_reducible exact hMp | with_reducible apply Mem.drew | with_reducible apply Mem.drewN | with_reducible apply Mem.alloc | with_reducible apply Mem.set | with_reducible exact Sto.row | ((with_reducible refine Sto.rowEq2 ?_ ?_); omega; rfl) | ((with_reducible refine Sto.rowEq ?_); omega) | with_reducible apply Sto.int | with_reducible apply Sto.there | with_reducible assumption | (unfold I64; omega) | (with_reducible (have hMx := Mem.undrew hM; exact hMx)) | (with_reducible (have hMx := Mem.undrew hMp; exact hMx))))
            clear hM
            intro hM
            (try simp only [World.size_alloc, World.size_setCell, World.heap_drewN, heapDrew, Nat.add_assoc, Nat.reduceAdd, List.setIfInBounds_toArray, List.set_cons_zero, List.set_cons_succ, List.cons_append, List.nil_append] at hM)
            have hS := hM.tail.tail
            refine AtT.only (i := 4) (by kernel_rfl) rfl rfl ?_
            intro K hK
            replace hM := hM.toInts (xs := []) .here rfl (by simp) (by simp)
            refine step_appendI rfl (.tmp 34) (.tmp 37) 41 rfl 3 i0 Try.underlying41 hi hz0 hz1 hz2 w.heap.size _ 0 _ [] rfl (hM.ints .here).row (some ⟨g, 0, none⟩) i i (os.take i) rfl ((hM.ints (.there (.there .here))).ints.take hki) (by omega) hM.size ?_
            intro a2 c2 w2 hrow hg hbl
            rw [Nat.zero_add, List.nil_append] at hrow
            rw [Nat.zero_add]
            have hO := own_of hrow (by rw [List.length_take, HLO.out]; omega) (by omega) HWT.out
            replace hM := hM.appended .here hO hg (fun k hk => by simpa using hbl k hk)
            clear hO hrow hg hbl
            try dsimp only
            refine hK.out _ _ (hM.tail.tail) ?_
            clear hK K hS
            have hS := hM.tail.tail
            refine AtT.only (i := 7) (by kernel_rfl) rfl rfl ?_
            intro K hK
            refine step_appendI rfl (.tmp 38) (.tmp 40) 41 rfl 3 i0 Try.underlying41 hi hz0 hz1 hz2 w.heap.size _ _ _ _ rfl (hM.ints .here).row _ 1 1 [(i : Int)] rfl (hM.oneInt (.there .here) (by unfold I64; omega)) (by omega) hM.size ?_
            intro a3 c3 w3 hrow hg hbl
            have hO := own_of hrow (by first | (simp [HLO.out]; done) | (simp [HLO.out]; omega)) (by omega) HWI.out
            replace hM := hM.appended .here hO hg (fun k hk => by simpa using hbl k hk)
            clear hO hrow hg hbl
            try dsimp only
            refine hK.out _ _ (hM.tail.tail) ?_
            clear hK K hS
            have hS := hM.tail.tail
            refine AtT.only (i := 11) (by kernel_rfl) rfl rfl ?_
            intro K hK
            refine step_appendI rfl (.tmp 41) (.tmp 44) 41 rfl 3 i0 Try.underlying41 hi hz0 hz1 hz2 w.heap.size _ _ _ _ rfl (hM.ints .here).row (some ⟨g, 0, none⟩) 0 0 (os.drop i) rfl (by rw [List.drop_of_length_le (by rw [HLO.out]; exact Nat.le_refl _)]; exact Ints.none' (by unfold maxLen; omega) (by simp)) (by omega) hM.size ?_
            intro a4 c4 w4 hrow hg hbl
            rw [show i + 1 + 0 = i + 1 by omega] at hrow ⊢
            rw [HLN.out] at hrow
            have hO := own_of hrow (outS_length _ _) (by omega) HWN.out
            replace hM := hM.appended .here hO hg (fun k hk => by simpa using hbl k hk)
            obtain ⟨g4, rfl, _⟩ := hO.head (by omega)
            clear hO hrow hg hbl
            try dsimp only
            refine hK.out _ _ (hM.tail.tail) ?_
            clear hK K hS
            have hS := hM.tail.tail
            refine AtT.last (by kernel_rfl) rfl (by kernel_rfl) ?_
            intro K hK
            clear hS
            go_simp
            refine hK.out _ _ ?_
            clear hK K
            go_wp2
            go_roundg (n - (i + 1))
            case measure => omega
            case rel =>
            refine ⟨i + 1, g4, c4, by omega, rfl, by go_num, rfl, ?_⟩
            apply Mem.pick (is := [0])
            · (repeat' (first | with_reducible exact hM | with_reducible exact hMp | with_reducible apply Mem.drew | with_reducible apply Mem.drewN | with_reducible apply Mem.alloc | with_reducible apply Mem.set | with_reducible exact Sto.row | ((with_reducible refine Sto.rowEq2 ?_ ?_); omega; rfl) | ((with_reducible refine Sto.rowEq ?_); omega) | with_reducible apply Sto.int | with_reducible apply Sto.there | with_reducible assumption | (unfold I64; omega) | (with_reducible (have hMx := Mem.undrew hM; exact hMx)) | (with_reducible (have hMx := Mem.undrew hMp; exact hMx))))
            · decide
            · rfl
        · have hki2 : k < c' := by omega
          have hck : ¬ c' = k := by omega
          go_wp2_with fail
          apply Mem.atWp
          · (repeat' (first | with_reducible exact hM | with_reducible exact hMp | with_reducible apply Mem.drew | with_reducible apply Mem.drewN | with_reducible apply Mem.alloc | with_reducible apply Mem.set | with_reducible exact Sto.row | ((with_reducible refine Sto.rowEq2 ?_ ?_); omega; rfl) | ((with_reducible refine Sto.rowEq ?_); omega) | with_reducible apply Sto.int | with_reducible apply Sto.there | with_reducible assumption | (unfold I64; omega) | (with_reducible (have hMx := Mem.undrew hM; exact hMx)) | (with_reducible (have hMx := Mem.undrew hMp; exact hMx))))
          clear hM
          intro hM
          refine AtT.startA hM hM 12 (by kernel_rfl) ?_
          clear hM
          intro wd hM
          have hS := hM
          refine AtT.taked (i := 1) (v := ?_) (some 35) rfl rfl (by kernel_rfl) (by kernel_rfl) (by kernel_rfl) (by kernel_rfl) (fun _ _ _ h => h) (Or.inl ⟨by kernel_rfl, ?_⟩) hS ?_
          rotate_left
          · (intro wS hSw; (try dsimp only at hSw); go_simp; (try rw [if_neg (by omega)]); try with_reducible rfl)
          simp only [Act.put, List.setIfInBounds_toArray, List.set_cons_zero, List.set_cons_succ]
          refine AtT.taked (i := 2) (v := ?_) (some 36) rfl rfl (by kernel_rfl) (by kernel_rfl) (by kernel_rfl) (by kernel_rfl) (fun _ _ _ h => h) (Or.inl ⟨by kernel_rfl, ?_⟩) hS ?_
          rotate_left
          · (intro wS hSw; (try dsimp only at hSw); go_simp; (try rw [if_neg (by omega)]); try with_reducible rfl)
          simp only [Act.put, List.setIfInBounds_toArray, List.set_cons_zero, List.set_cons_succ]
          refine AtT.taked (i := 3) (v := ?_) (some 37) rfl rfl (by kernel_rfl) (by kernel_rfl) (by kernel_rfl) (by kernel_rfl) (fun _ _ _ h => h) (Or.inl ⟨by kernel_rfl, ?_⟩) hS ?_
          rotate_left
          · (intro wS hSw; (try dsimp only at hSw); go_simp; (try rw [if_neg (by omega)]); try with_reducible rfl)
          simp only [Act.put, List.setIfInBounds_toArray, List.set_cons_zero, List.set_cons_succ]
          refine AtT.taked (i := 5) (v := ?_) (some 39) rfl rfl (by kernel_rfl) (by kernel_rfl) (by kernel_rfl) (by kernel_rfl) (fun _ _ _ h => h) (Or.inl ⟨by kernel_rfl, ?_⟩) hS ?_
          rotate_left
          · (intro wS hSw; (try dsimp only at hSw); go_simp; (try rw [if_neg (by omega)]); try with_reducible rfl)
          simp only [Act.put, List.setIfInBounds_toArray, List.set_cons_zero, List.set_cons_succ]
          refine AtT.taked (i := 8) (v := ?_) (some 42) rfl rfl (by kernel_rfl) (by kernel_rfl) (by kernel_rfl) (by kernel_rfl) (fun _ _ _ h => h) (Or.inl ⟨by kernel_rfl, ?_⟩) hS ?_
          rotate_left
          · (intro wS hSw; (try dsimp only at hSw); go_simp; (try rw [if_neg (by omega)]); try with_reducible rfl)
          simp only [Act.put, List.setIfInBounds_toArray, List.set_cons_zero, List.set_cons_succ]
          refine AtT.taked (i := 9) (v := ?_) (some 43) rfl rfl (by kernel_rfl) (by kernel_rfl) (by kernel_rfl) (by kernel_rfl) (fun _ _ _ h => h) (Or.inl ⟨by kernel_rfl, ?_⟩) hS ?_
          rotate_left
          · (intro wS hSw; (try dsimp only at hSw); go_simp; (try rw [if_neg (by omega)]); try with_reducible rfl)
          simp only [Act.put, List.setIfInBounds_toArray, List.set_cons_zero, List.set_cons_succ]
          refine AtT.taked (i := 10) (v := ?_) (some 44) rfl rfl (by kernel_rfl) (by kernel_rfl) (by kernel_rfl) (by kernel_rfl) (fun _ _ _ h => h) (Or.inl ⟨by kernel_rfl, ?_⟩) hS ?_
          rotate_left
          · (intro wS hSw; (try dsimp only at hSw); go_simp; (try rw [if_neg (by omega)]); try with_reducible rfl)
          simp only [Act.put, List.setIfInBounds_toArray, List.set_cons_zero, List.set_cons_succ]
          refine AtT.two (i := 0) (j := 6) (by kernel_rfl) rfl rfl rfl rfl ?_ ?_
          · skip
            intro K hK
            go_simp
            refine hK.out _ _ (by apply Mem.tail; (repeat' (first | with_reducible exact hM | with_reducible exact hMp | with_reducible apply Mem.drew | with_reducible apply Mem.drewN | with_reducible apply Mem.alloc | with_reducible apply Mem.set | with_reducible exact Sto.row | ((with_reducible refine Sto.rowEq2 ?_ ?_); omega; rfl) | ((with_reducible refine Sto.rowEq ?_); omega) | with_reducible apply Sto.int | with_reducible apply Sto.there | with_reducible assumption | (unfold I64; omega) | (with_reducible (have hMx := Mem.undrew hM; exact hMx)) | (with_reducible (have hMx := Mem.undrew hMp; exact hMx))))) ?_
            clear hK K hS
            have hMp := hM
            apply Mem.atT
            · (repeat' (first | with_reducible exact hM | with_reducible exact hMp | with_reducible apply Mem.drew | with_reducible apply Mem.drewN | with_reducible apply Mem.alloc | with_reducible apply Mem.set | with_reducible exact Sto.row | ((with_reducible refine Sto.rowEq2 ?_ ?_); omega; rfl) | ((with_reducible refine Sto.rowEq ?_); omega) | with_reducible apply Sto.int | with_reducible apply Sto.there | with_reducible assumption | (unfold I64; omega) | (with_reducible (have hMx := Mem.undrew hM; exact hMx)) | (with_reducible (have hMx := Mem.undrew hMp; exact hMx))))
            clear hM
            intro hM
            (try simp only [World.size_alloc, World.size_setCell, World.heap_drewN, heapDrew, Nat.add_assoc, Nat.reduceAdd, List.setIfInBounds_toArray, List.set_cons_zero, List.set_cons_succ, List.cons_append, List.nil_append] at hM)
            have hS := hM.tail
            refine AtT.two (i := 4) (j := 6) (by kernel_rfl) rfl rfl rfl rfl ?_ ?_
            · skip
              intro K hK
              replace hM := hM.toInts (xs := []) .here rfl (by simp) (by simp)
              refine step_appendI rfl (.tmp 34) (.tmp 37) 41 rfl 3 i0 Try.underlying41 hi hz0 hz1 hz2 w.heap.size _ 0 _ [] rfl (hM.ints .here).row (some ⟨g, 0, none⟩) k c' (os.take k) rfl ((hM.ints (.there .here)).ints.take hki) (by omega) hM.size ?_
              intro a2 c2 w2 hrow hg hbl
              rw [Nat.zero_add, List.nil_append] at hrow
              rw [Nat.zero_add]
              have hO := own_of hrow (by rw [List.length_take, HLO.out]; omega) (by omega) HWT.out
              replace hM := hM.appended .here hO hg (fun k hk => by simpa using hbl k hk)
              clear hO hrow hg hbl
              try dsimp only
              refine hK.out _ _ (hM.tail) ?_
              clear hK K hS
              have hS := hM.tail
              refine AtT.only (i := 6) (by kernel_rfl) rfl rfl ?_
              intro K hK
              go_simp
              refine hK.out _ _ (by apply Mem.tail; apply Mem.tail; (repeat' (first | with_reducible exact hM | with_reducible exact hMp | with_reducible apply Mem.drew | with_reducible apply Mem.drewN | with_reducible apply Mem.alloc | with_reducible apply Mem.set | with_reducible exact Sto.row | ((with_reducible refine Sto.rowEq2 ?_ ?_); omega; rfl) | ((with_reducible refine Sto.rowEq ?_); omega) | with_reducible apply Sto.int | with_reducible apply Sto.there | with_reducible assumption | (unfold I64; omega) | (with_reducible (have hMx := Mem.undrew hM; exact hMx)) | (with_reducible (have hMx := Mem.undrew hMp; exact hMx))))) ?_
              clear hK K hS
              have hMp := hM
              apply Mem.atT
              · (repeat' (first | with_reducible exact hM | with_reducible exact hMp | with_reducible apply Mem.drew | with_reducible apply Mem.drewN | with_reducible apply Mem.alloc | with_reducible apply Mem.set | with_reducible exact Sto.row | ((with_reducible refine Sto.rowEq2 ?_ ?_); omega; rfl) | ((with_reducible refine Sto.rowEq ?_); omega) | with_reducible apply Sto.int | with_reducible apply Sto.there | with_reducible assumption | (unfold I64; omega) | (with_reducible (have hMx := Mem.undrew hM; exact hMx)) | (with_reducible (have hMx := Mem.undrew hMp; exact hMx))))
              clear hM
              intro hM
              (try simp only [World.size_alloc, World.size_setCell, World.heap_drewN, heapDrew, Nat.add_assoc, Nat.reduceAdd, List.setIfInBounds_toArray, List.set_cons_zero, List.set_cons_succ, List.cons_append, List.nil_append] at hM)
              have hS := hM.tail.tail
              refine AtT.only (i := 7) (by kernel_rfl) rfl rfl ?_
              intro K hK
              refine step_appendI rfl (.tmp 38) (.tmp 40) 41 rfl 3 i0 Try.underlying41 hi hz0 hz1 hz2 w.heap.size _ _ _ _ rfl (hM.ints (.there .here)).row _ 1 1 [(i : Int)] rfl (hM.oneInt .here (by unfold I64; omega)) (by omega) hM.size ?_
              intro a3 c3 w3 hrow hg hbl
              have hO := own_of hrow (by first | (simp [HLO.out]; done) | (simp [HLO.out]; omega)) (by omega) HWI.out
              replace hM := hM.appended (.there .here) hO hg (fun k hk => by simpa using hbl k hk)
              clear hO hrow hg hbl
              try dsimp only
              refine hK.out _ _ (hM.tail.tail) ?_
              clear hK K hS
              have hS := hM.tail.tail
              refine AtT.only (i := 11) (by kernel_rfl) rfl rfl ?_
              intro K hK
              refine step_appendI rfl (.tmp 41) (.tmp 44) 41 rfl 3 i0 Try.underlying41 hi hz0 hz1 hz2 w.heap.size _ _ _ _ rfl (hM.ints (.there .here)).row (some ⟨g, k, none⟩) (i - k) (c' - k) (os.drop k) rfl ((hM.ints (.there (.there .here))).ints.drop hki) (by omega) hM.size ?_
              intro a4 c4 w4 hrow hg hbl
              rw [show k + 1 + (i - k) = i + 1 by omega] at hrow ⊢
              rw [HLN.out] at hrow
              have hO := own_of hrow (outS_length _ _) (by omega) HWN.out
              replace hM := hM.appended (.there .here) hO hg (fun k hk => by simpa using hbl k hk)
              obtain ⟨g4, rfl, _⟩ := hO.head (by omega)
              clear hO hrow hg hbl
              try dsimp only
              refine hK.out _ _ (hM.tail.tail) ?_
              clear hK K hS
              have hS := hM.tail.tail
              refine AtT.last (by kernel_rfl) rfl (by kernel_rfl) ?_
              intro K hK
              clear hS
              go_simp
              refine hK.out _ _ ?_
              clear hK K
              go_wp2
              go_roundg (n - (i + 1))
              case measure => omega
              case rel =>
              refine ⟨i + 1, g4, c4, by omega, rfl, by go_num, rfl, ?_⟩
              apply Mem.pick (is := [1])
              · (repeat' (first | with_reducible exact hM | with_reducible exact hMp | with_reducible apply Mem.drew | with_reducible apply Mem.drewN | with_reducible apply Mem.alloc | with_reducible apply Mem.set | with_reducible exact Sto.row | ((with_reducible refine Sto.rowEq2 ?_ ?_); omega; rfl) | ((with_reducible refine Sto.rowEq ?_); omega) | with_reducible apply Sto.int | with_reducible apply Sto.there | with_reducible assumption | (unfold I64; omega) | (with_reducible (have hMx := Mem.undrew hM; exact hMx)) | (with_reducible (have hMx := Mem.undrew hMp; exact hMx))))
              · decide
              · rfl
            · skip
              intro K hK
              go_simp
              refine hK.out _ _ (by apply Mem.tail; apply Mem.tail; (repeat' (first | with_reducible exact hM | with_reducible exact hMp | with_reducible apply Mem.drew | with_reducible apply Mem.drewN | with_reducible apply Mem.alloc | with_reducible apply Mem.set | with_reducible exact Sto.row | ((with_reducible refine Sto.rowEq2 ?_ ?_); omega; rfl) | ((with_reducible refine Sto.rowEq ?_); omega) | with_reducible apply Sto.int | with_reducible apply Sto.there | with_reducible assumption | (unfold I64; omega) | (with_reducible (have hMx := Mem.undrew hM; exact hMx)) | (with_reducible (have hMx := Mem.undrew hMp; exact hMx))))) ?_
              clear hK K hS
              have hMp := hM
              apply Mem.atT
              · (repeat' (first | with_reducible exact hM | with_reducible exact hMp | with_reducible apply Mem.drew | with_reducible apply Mem.drewN | with_reducible apply Mem.alloc | with_reducible apply Mem.set | with_reducible exact Sto.row | ((with_reducible refine Sto.rowEq2 ?_ ?_); omega; rfl) | ((with_reducible refine Sto.rowEq ?_); omega) | with_reducible apply Sto.int | with_reducible apply Sto.there | with_reducible assumption | (unfold I64; omega) | (with_reducible (have hMx := Mem.undrew hM; exact hMx)) | (with_reducible (have hMx := Mem.undrew hMp; exact hMx))))
              clear hM
              intro hM
              (try simp only [World.size_alloc, World.size_setCell, World.heap_drewN, heapDrew, Nat.add_assoc, Nat.reduceAdd, List.setIfInBounds_toArray, List.set_cons_zero, List.set_cons_succ, List.cons_append, List.nil_append] at hM)
              have hS := hM.tail.tail
              refine AtT.only (i := 4) (by kernel_rfl) rfl rfl ?_
              intro K hK
              replace hM := hM.toInts (xs := []) (.there .here) rfl (by simp) (by simp)
              refine step_appendI rfl (.tmp 34) (.tmp 37) 41 rfl 3 i0 Try.underlying41 hi hz0 hz1 hz2 w.heap.size _ 0 _ [] rfl (hM.ints (.there .here)).row (some ⟨g, 0, none⟩) k c' (os.take k) rfl ((hM.ints (.there (.there .here))).ints.take hki) (by omega) hM.size ?_
              intro a2 c2 w2 hrow hg hbl
              rw [Nat.zero_add, List.nil_append] at hrow
              rw [Nat.zero_add]
              have hO := own_of hrow (by rw [List.length_take, HLO.out]; omega) (by omega) HWT.out
              replace hM := hM.appended (.there .here) hO hg (fun k hk => by simpa using hbl k hk)
              clear hO hrow hg hbl
              try dsimp only
              refine hK.out _ _ (hM.tail.tail) ?_
              clear hK K hS
              have hS := hM.tail.tail
              refine AtT.only (i := 7) (by kernel_rfl) rfl rfl ?_
              intro K hK
              refine step_appendI rfl (.tmp 38) (.tmp 40) 41 rfl 3 i0 Try.underlying41 hi hz0 hz1 hz2 w.heap.size _ _ _ _ rfl (hM.ints (.there .here)).row _ 1 1 [(i : Int)] rfl (hM.oneInt .here (by unfold I64; omega)) (by omega) hM.size ?_
              intro a3 c3 w3 hrow hg hbl
              have hO := own_of hrow (by first | (simp [HLO.out]; done) | (simp [HLO.out]; omega)) (by omega) HWI.out
              replace hM := hM.appended (.there .here) hO hg (fun k hk => by simpa using hbl k hk)
              clear hO hrow hg hbl
              try dsimp only
              refine hK.out _ _ (hM.tail.tail) ?_
              clear hK K hS
              have hS := hM.tail.tail
              refine AtT.only (i := 11) (by kernel_rfl) rfl rfl ?_
              intro K hK
              refine step_appendI rfl (.tmp 41) (.tmp 44) 41 rfl 3 i0 Try.underlying41 hi hz0 hz1 hz2 w.heap.size _ _ _ _ rfl (hM.ints (.there .here)).row (some ⟨g, k, none⟩) (i - k) (c' - k) (os.drop k) rfl ((hM.ints (.there (.there .here))).ints.drop hki) (by omega) hM.size ?_
              intro a4 c4 w4 hrow hg hbl
              rw [show k + 1 + (i - k) = i + 1 by omega] at hrow ⊢
              rw [HLN.out] at hrow
              have hO := own_of hrow (outS_length _ _) (by omega) HWN.out
              replace hM := hM.appended (.there .here) hO hg (fun k hk => by simpa using hbl k hk)
              obtain ⟨g4, rfl, _⟩ := hO.head (by omega)
              clear hO hrow hg hbl
              try dsimp only
              refine hK.out _ _ (hM.tail.tail) ?_
              clear hK K hS
              have hS := hM.tail.tail
              refine AtT.last (by kernel_rfl) rfl (by kernel_rfl) ?_
              intro K hK
              clear hS
              go_simp
              refine hK.out _ _ ?_
              clear hK K
              go_wp2
              go_roundg (n - (i + 1))
              case measure => omega
              case rel =>
              refine ⟨i + 1, g4, c4, by omega, rfl, by go_num, rfl, ?_⟩
              apply Mem.pick (is := [1])
              · (repeat' (first | with_reducible exact hM | with_reducible exact hMp | with_reducible apply Mem.drew | with_reducible apply Mem.drewN | with_reducible apply Mem.alloc | with_reducible apply Mem.set | with_reducible exact Sto.row | ((with_reducible refine Sto.rowEq2 ?_ ?_); omega; rfl) | ((with_reducible refine Sto.rowEq ?_); omega) | with_reducible apply Sto.int | with_reducible apply Sto.there | with_reducible assumption | (unfold I64; omega) | (with_reducible (have hMx := Mem.undrew hM; exact hMx)) | (with_reducible (have hMx := Mem.undrew hMp; exact hMx))))
              · decide
              · rfl
          · skip
            intro K hK
            go_simp
            refine hK.out _ _ (by apply Mem.tail; (repeat' (first | with_reducible exact hM | with_reducible exact hMp | with_reducible apply Mem.drew | with_reducible apply Mem.drewN | with_reducible apply Mem.alloc | with_reducible apply Mem.set | with_reducible exact Sto.row | ((with_reducible refine Sto.rowEq2 ?_ ?_); omega; rfl) | ((with_reducible refine Sto.rowEq ?_); omega) | with_reducible apply Sto.int | with_reducible apply Sto.there | with_reducible assumption | (unfold I64; omega) | (with_reducible (have hMx := Mem.undrew hM; exact hMx)) | (with_reducible (have hMx := Mem.undrew hMp; exact hMx))))) ?_
            clear hK K hS
            have hMp := hM
            apply Mem.atT
            · (repeat' (first | with_reducible exact hM | with_reducible exact hMp | with_reducible apply Mem.drew | with_reducible apply Mem.drewN | with_reducible apply Mem.alloc | with_reducible apply Mem.set | with_reducible exact Sto.row | ((with_reducible refine Sto.rowEq2 ?_ ?_); omega; rfl) | ((with_reducible refine Sto.rowEq ?_); omega) | with_reducible apply Sto.int | with_reducible apply Sto.there | with_reducible assumption | (unfold I64; omega) | (with_reducible (have hMx := Mem.undrew hM; exact hMx)) | (with_reducible (have hMx := Mem.undrew hMp; exact hMx))))
            clear hM
            intro hM
            (try simp only [World.size_alloc, World.size_setCell, World.heap_drewN, heapDrew, Nat.add_assoc, Nat.reduceAdd, List.setIfInBounds_toArray, List.set_cons_zero, List.set_cons_succ, List.cons_append, List.nil_append] at hM)
            have hS := hM.tail
            refine AtT.only (i := 0) (by kernel_rfl) rfl rfl ?_
            intro K hK
            go_simp
            refine hK.out _ _ (by apply Mem.tail; apply Mem.tail; (repeat' (first | with_reducible exact hM | with_reducible exact hMp | with_reducible apply Mem.drew | with_reducible apply Mem.drewN | with_reducible apply Mem.alloc | with_reducible apply Mem.set | with_reducible exact Sto.row | ((with_reducible refine Sto.rowEq2 ?_ ?_); omega; rfl) | ((with_reducible refine Sto.rowEq ?_); omega) | with_reducible apply Sto.int | with_reducible apply Sto.there | with_reducible assumption | (unfold I64; omega) | (with_reducible (have hMx := Mem.undrew hM; exact hMx)) | (with_reducible (have hMx := Mem.undrew hMp; exact hMx))))) ?_
            clear hK K hS
            have hMp := hM
            apply Mem.atT
            · (repeat' (first | with_reducible exact hM | with_reducible exact hMp | with_reducible apply Mem.drew | with_reducible apply Mem.drewN | with_reducible apply Mem.alloc | with_reducible apply Mem.set | with_reducible exact Sto.row | ((with_reducible refine Sto.rowEq2 ?_ ?_); omega; rfl) | ((with_reducible refine Sto.rowEq ?_); omega) | with_reducible apply Sto.int | with_reducible apply Sto.there | with_reducible assumption | (unfold I64; omega) | (with_reducible (have hMx := Mem.undrew hM; exact hMx)) | (with_reducible (have hMx := Mem.undrew hMp; exact hMx))))
            clear hM
            intro hM
            (try simp only [World.size_alloc, World.size_setCell, World.heap_drewN, heapDrew, Nat.add_assoc, Nat.reduceAdd, List.setIfInBounds_toArray, List.set_cons_zero, List.set_cons_succ, List.cons_append, List.nil_append] at hM)
            have hS := hM.tail.tail
            refine AtT.only (i := 4) (by kernel_rfl) rfl rfl ?_
            intro K hK
            replace hM := hM.toInts (xs := []) .here rfl (by simp) (by simp)
            refine step_appendI rfl (.tmp 34) (.tmp 37) 41 rfl 3 i0 Try.underlying41 hi hz0 hz1 hz2 w.heap.size _ 0 _ [] rfl (hM.ints .here).row (some ⟨g, 0, none⟩) k c' (os.take k) rfl ((hM.ints (.there (.there .here))).ints.take hki) (by omega) hM.size ?_
            intro a2 c2 w2 hrow hg hbl
            rw [Nat.zero_add, List.nil_append] at hrow
            rw [Nat.zero_add]
            have hO := own_of hrow (by rw [List.length_take, HLO.out]; omega) (by omega) HWT.out
            replace hM := hM.appended .here hO hg (fun k hk => by simpa using hbl k hk)
            clear hO hrow hg hbl
            try dsimp only
            refine hK.out _ _ (hM.tail.tail) ?_
            clear hK K hS
            have hS := hM.tail.tail
            refine AtT.only (i := 7) (by kernel_rfl) rfl rfl ?_
            intro K hK
            refine step_appendI rfl (.tmp 38) (.tmp 40) 41 rfl 3 i0 Try.underlying41 hi hz0 hz1 hz2 w.heap.size _ _ _ _ rfl (hM.ints .here).row _ 1 1 [(i : Int)] rfl (hM.oneInt (.there .here) (by unfold I64; omega)) (by omega) hM.size ?_
            intro a3 c3 w3 hrow hg hbl
            have hO := own_of hrow (by first | (simp [HLO.out]; done) | (simp [HLO.out]; omega)) (by omega) HWI.out
            replace hM := hM.appended .here hO hg (fun k hk => by simpa using hbl k hk)
            clear hO hrow hg hbl
            try dsimp only
            refine hK.out _ _ (hM.tail.tail) ?_
            clear hK K hS
            have hS := hM.tail.tail
            refine AtT.only (i := 11) (by kernel_rfl) rfl rfl ?_
            intro K hK
            refine step_appendI rfl (.tmp 41) (.tmp 44) 41 rfl 3 i0 Try.underlying41 hi hz0 hz1 hz2 w.heap.size _ _ _ _ rfl (hM.ints .here).row (some ⟨g, k, none⟩) (i - k) (c' - k) (os.drop k) rfl ((hM.ints (.there (.there .here))).ints.drop hki) (by omega) hM.size ?_
            intro a4 c4 w4 hrow hg hbl
            rw [show k + 1 + (i - k) = i + 1 by omega] at hrow ⊢
            rw [HLN.out] at hrow
            have hO := own_of hrow (outS_length _ _) (by omega) HWN.out
            replace hM := hM.appended .here hO hg (fun k hk => by simpa using hbl k hk)
            obtain ⟨g4, rfl, _⟩ := hO.head (by omega)
            clear hO hrow hg hbl
            try dsimp only
            refine hK.out _ _ (hM.tail.tail) ?_
            clear hK K hS
            have hS := hM.tail.tail
            refine AtT.last (by kernel_rfl) rfl (by kernel_rfl) ?_
            intro K hK
            clear hS
            go_simp
            refine hK.out _ _ ?_
            clear hK K
            go_wp2
            go_roundg (n - (i + 1))
            case measure => omega
            case rel =>
            refine ⟨i + 1, g4, c4, by omega, rfl, by go_num, rfl, ?_⟩
            apply Mem.pick (is := [0])
            · (repeat' (first | with_reducible exact hM | with_reducible exact hMp | with_reducible apply Mem.drew | with_reducible apply Mem.drewN | with_reducible apply Mem.alloc | with_reducible apply Mem.set | with_reducible exact Sto.row | ((with_reducible refine Sto.rowEq2 ?_ ?_); omega; rfl) | ((with_reducible refine Sto.rowEq ?_); omega) | with_reducible apply Sto.int | with_reducible apply Sto.there | with_reducible assumption | (unfold I64; omega) | (with_reducible (have hMx := Mem.undrew hM; exact hMx)) | (with_reducible (have hMx := Mem.undrew hMp; exact hMx))))
            · decide
            · rfl
    · obtain rfl : i = n := by omega
      go_wp2
      go_ret
      exact ⟨_, _, rfl, by rw [servL, HL.out, HOS.out]; exact hM⟩
end Go.Proofs.Ytfnaenekdenmkaa
