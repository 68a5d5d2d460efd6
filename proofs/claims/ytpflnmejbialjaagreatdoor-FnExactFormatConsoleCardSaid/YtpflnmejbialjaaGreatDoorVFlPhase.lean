/- Lemmas. -/
import Derived.Test.YtpflnmejbialjaaGreatDoorVRd
import Derived.Test.YtpflnmejbialjaaGreatDoorVLaw
namespace Go.Proofs.YtpflnmejbialjaaGreatDoor
set_option linter.unusedSimpArgs false
set_option linter.unusedVariables false
open Go.RowKit

structure PhaseI where
  fr : Int
  sp : Int
instance : DecidableEq PhaseI := fun a b => decidable_of_iff (a.fr = b.fr ∧ a.sp = b.sp) (by cases a; cases b; simp [and_assoc])
def PhaseI.zero : PhaseI := ⟨0, 0⟩
def FPhase : Fl PhaseI where
  sz := 2
  enc x := [.int .i64 x.fr, .int .i64 x.sp]
  z := PhaseI.zero
  wf x := I64 x.fr ∧ I64 x.sp
  pos := by decide
  len _ := rfl
  one := by intro x v hv; simp at hv; rcases hv with rfl | rfl <;> rfl
abbrev PhaseI.val (x : PhaseI) : Value := .agg #[.int .i64 x.fr, .int .i64 x.sp]
theorem Rd.cellPhase {w : World} {b off n c : Nat} {xs : List PhaseI} (h : Rd FPhase w (some ⟨b, off, none⟩) n c xs) {k : Nat} (hk : k < n) : b < w.heap.size ∧ w.cell? ⟨b, off + k * 2, none⟩ = some (.int .i64 (xs.getD k PhaseI.zero).fr) ∧ w.cell? ⟨b, off + k * 2 + 1, none⟩ = some (.int .i64 (xs.getD k PhaseI.zero).sp) := by
  obtain ⟨b', off', e, hl, hc⟩ := h.at' k hk
  simp only [Option.some.injEq, Addr.mk.injEq] at e
  obtain ⟨rfl, rfl, _⟩ := e
  exact ⟨hl, by rw [show off + k * 2 = off + (k * FPhase.sz + 0) by show _ = off + (k * 2 + 0); omega]; exact hc k hk 0 (by decide), by rw [show off + k * 2 + 1 = off + (k * FPhase.sz + 1) by show _ = off + (k * 2 + 1); omega]; exact hc k hk 1 (by decide)⟩
theorem Ow.cellPhase {E : TypeId} {B : Nat} {w : World} {g n c : Nat} {xs : List PhaseI} (h : Ow FPhase E B w (some ⟨g, 0, none⟩) n c xs) {k : Nat} (hk : k < n) : w.cell? ⟨g, k * 2, none⟩ = some (.int .i64 (xs.getD k PhaseI.zero).fr) ∧ w.cell? ⟨g, k * 2 + 1, none⟩ = some (.int .i64 (xs.getD k PhaseI.zero).sp) := by
  exact ⟨h.cell hk (j := 0) (by decide), h.cell hk (j := 1) (by decide)⟩
theorem Ow.putPhase {E : TypeId} {B : Nat} {w : World} {g n c : Nat} {xs : List PhaseI} (h : Ow FPhase E B w (some ⟨g, 0, none⟩) n c xs) {k : Nat} (hk : k < n) (y : PhaseI) (hw : FPhase.wf y) : Ow FPhase E B ((w.setCell ⟨g, k * 2, none⟩ (.int .i64 y.fr)).setCell ⟨g, k * 2 + 1, none⟩ (.int .i64 y.sp)) (some ⟨g, 0, none⟩) n c (xs.set k y) :=
  h.putRec hk y hw
theorem Mem.putPhase {E : TypeId} {B : Nat} {w0 w : World} {G G' : List Ent} {g n c : Nat} {xs : List PhaseI} (h : Mem B w0 w G) {k : Nat} (hk : k < n) (y : PhaseI) (hw : FPhase.wf y) (p : Put G (owE FPhase E (some ⟨g, 0, none⟩) n c xs) (owE FPhase E (some ⟨g, 0, none⟩) n c (xs.set k y)) G') : Mem B w0 ((w.setCell ⟨g, k * 2, none⟩ (.int .i64 y.fr)).setCell ⟨g, k * 2 + 1, none⟩ (.int .i64 y.sp)) G' :=
  h.put p (setRec_keeps (d := blockOf (some ⟨g, 0, none⟩)) g ⟨_, rfl, rfl⟩ (FPhase.enc y) (k * 2) w) ((h.ow p.mem').putPhase hk y hw) (fun k hk => .inl hk)
set_option maxRecDepth 100000 in
set_option maxHeartbeats 1000000 in
theorem toPhase_any (x0 x1 : Int) (w : World) :
    Calls Tryz.prog 35 #[.agg #[.int .i64 x0, .int .i64 x1]] w fun o w' => o = .returned (.agg #[.int .i64 x0, .int .i64 x1]) ∧ Below w.heap.size w w' := by
  go_enter Tryz.func35, Tryz.ntmps35
  have R1 := (Row.new (w.alloc (.cells #[.int .i64 x0, .int .i64 x1] 71)) (w.heap.size + 1) (by simp) #[.int .i64 0, .int .i64 0] 69)
  go_wp2
  refine bodyPost_ret (v := .agg #[.int .i64 x0, .int .i64 x1]) (by simp [results, Tryz.results35, go_sem, R1.cell]) rfl ⟨rfl, ?_⟩
  (repeat' (first | exact Below.refl _ _ | with_reducible refine Below.setCell ?_ (by first | omega | (simp; done) | (simp; omega)) _ | with_reducible refine Below.alloc ?_ (by first | omega | (simp; done) | (simp; omega)) _ | with_reducible refine Below.drew ?_ | with_reducible refine bdrewN ?_ _))
set_option maxRecDepth 100000 in
set_option maxHeartbeats 1000000 in
theorem eqPhase_any (x y : PhaseI) (w : World) :
    Calls Tryz.prog 44 #[x.val, y.val] w fun o w' => o = .returned (.bool (decide (x = y))) ∧ Below w.heap.size w w' := by
  obtain ⟨x0, x1⟩ := x
  obtain ⟨y0, y1⟩ := y
  by_cases h0 : x0 = y0
  case neg =>
    have HF := Lib.hid (show decide ((⟨x0, x1⟩ : PhaseI) = ⟨y0, y1⟩) = false by simp [h0])
    have hn : (x0 != y0) = true := by simpa using h0
    go_enter Tryz.func44, Tryz.ntmps44
    go_wp2
    go_ret
    exact ⟨rb HF.out.symm, by (repeat' (first | exact Below.refl _ _ | with_reducible refine Below.setCell ?_ (by first | omega | (simp; done) | (simp; omega)) _ | with_reducible refine Below.alloc ?_ (by first | omega | (simp; done) | (simp; omega)) _ | with_reducible refine Below.drew ?_ | with_reducible refine bdrewN ?_ _))⟩
  subst h0
  by_cases h1 : x1 = y1
  case neg =>
    have HF := Lib.hid (show decide ((⟨x0, x1⟩ : PhaseI) = ⟨x0, y1⟩) = false by simp [h1])
    have hn : (x1 != y1) = true := by simpa using h1
    have hn0 : (x0 != x0) = false := by simp
    go_enter Tryz.func44, Tryz.ntmps44
    go_wp2
    go_ret
    exact ⟨rb HF.out.symm, by (repeat' (first | exact Below.refl _ _ | with_reducible refine Below.setCell ?_ (by first | omega | (simp; done) | (simp; omega)) _ | with_reducible refine Below.alloc ?_ (by first | omega | (simp; done) | (simp; omega)) _ | with_reducible refine Below.drew ?_ | with_reducible refine bdrewN ?_ _))⟩
  subst h1
  have HF := Lib.hid (show decide ((⟨x0, x1⟩ : PhaseI) = ⟨x0, x1⟩) = true by simp)
  have hn0 : (x0 != x0) = false := by simp
  have hn1 : (x1 != x1) = false := by simp
  go_enter Tryz.func44, Tryz.ntmps44
  go_wp2
  go_ret
  exact ⟨rb HF.out.symm, by (repeat' (first | exact Below.refl _ _ | with_reducible refine Below.setCell ?_ (by first | omega | (simp; done) | (simp; omega)) _ | with_reducible refine Below.alloc ?_ (by first | omega | (simp; done) | (simp; omega)) _ | with_reducible refine Below.drew ?_ | with_reducible refine bdrewN ?_ _))⟩
set_option maxHeartbeats 400000 in
theorem szPhaseS_any (a : Option Addr) (n c : Nat) (l : Int) (w : World) (hc : n ≤ 17592186044416) (hl : -1 ≤ l ∧ l ≤ 1048576) :
    Calls Tryz.prog 10 #[.slice a n c, .int .i64 l] w fun e w' => e = .returned (.int .i64 (szF n l)) ∧ w = w' := by
  by_cases h : l - n < 0
  all_goals
    go_enter Tryz.func10, Tryz.ntmps10
    go_wp2
    go_ret
    exact ⟨ri (by unfold szF; first | rw [if_pos (by omega)] | rw [if_neg (by omega)]), rfl⟩
theorem Tryz.info69 : (Tryz.prog.info? 69).map (fun i => (i.zero, i.size, i.bytes)) = some (some (.agg #[.int .i64 0, .int .i64 0]), 2, 16) := by kernel_rfl
set_option maxRecDepth 100000 in
set_option maxHeartbeats 1000000 in
theorem toPhaseS_any (a : Option Addr) (n c : Nat) (xs : List PhaseI) (w : World) (h : Rd FPhase w a n c xs) :
    Calls Tryz.prog 17 #[.slice a n c] w fun e w' => ∃ a' c', e = .returned (.slice a' n c') ∧ Ow FPhase 69 w.heap.size w' a' n c' xs ∧ Below w.heap.size w w' := by
  have hn := h.cap
  have hc := h.nroom
  have hr : n * 2 ≤ 17592186044416 := h.room
  have HL := Lib.hid h.len
  have HW := Lib.hid h.wf
  obtain ⟨i0, hi, hz0, hz1, hz2⟩ := info_parts Tryz.info69
  go_enter Tryz.func17, Tryz.ntmps17
  go_wp2_with (at_make; refine wpList_make_full _ rfl _ _ 38 rfl w.heap.size 69 i0 (.agg #[.int .i64 0, .int .i64 0]) 2 Tryz.underlying38 hi hz0 hz1 .i64 .i64 n n n rfl rfl rfl rfl ?b1 ?b2 ?b3 ?_)
  case b1 => rw [hz2]; omega
  case b2 => unfold maxLen; omega
  case b3 => exact Nat.le_refl _
  intro w1 hown hg
  have hO : Ow FPhase 69 w.heap.size w1 (some ⟨w.heap.size, 0, none⟩) n n (List.replicate n PhaseI.zero) := ow_made (zs := #[.int .i64 0, .int .i64 0]) rfl hown hr (by refine ⟨?_, ?_⟩ <;> (show I64 0; unfold I64; omega))
  have hb1 : Below w.heap.size w w1 := (Below.refl _ _).grown hg (Nat.le_refl _) (by intro k hk; cases hk)
  have hM0 : Mem w.heap.size w w1 [owE FPhase 69 (some ⟨w.heap.size, 0, none⟩) n n (List.replicate n PhaseI.zero)] := (Mem.start w).owned hb1 hO
  clear hown hg hO hb1
  go_wp2
  go_loopw [4] (fun i wr => ∃ k : Nat, k ≤ n ∧ i = .int .i64 k ∧ Mem w.heap.size w wr [owE FPhase 69 (some ⟨w.heap.size, 0, none⟩) n n (xs.take k ++ List.replicate (n - k) PhaseI.zero)]) (fun i _ => n - (intOf i).toNat)
  case atStart => exact ⟨0, Nat.zero_le _, rfl, by simpa using hM0⟩
  case round =>
    obtain ⟨k, hk, rfl, hM⟩ := hrel
    by_cases hlt : k < n
    · obtain ⟨b, off, rfl, _⟩ := (h.ext hM.below).at' _ hlt
      obtain ⟨hb, hc0, hc1⟩ := (h.ext hM.below).cellPhase hlt
      obtain ⟨hd0, hd1⟩ := (hM.ow .here).cellPhase hlt
      have hfz := (hM.ow .here).free
      have hmem := HW.out _ (List.mem_of_getElem? (show xs[k]? = some (xs.getD k PhaseI.zero) by rw [List.getD_eq_getElem?_getD, List.getElem?_eq_getElem (by rw [HL.out]; exact hlt)]; rfl))
      have HM := Lib.hid hmem; clear hmem
      obtain ⟨x, hx⟩ : ∃ x, xs.getD k PhaseI.zero = x := ⟨_, rfl⟩
      rw [hx] at hc0 hc1 HM
      obtain ⟨y, hy⟩ : ∃ y, (xs.take k ++ List.replicate (n - k) PhaseI.zero).getD k PhaseI.zero = y := ⟨_, rfl⟩
      rw [hy] at hd0 hd1
      clear hy
      have HX := Lib.hid hx; clear hx
      obtain ⟨x0, x1⟩ := x
      obtain ⟨y0, y1⟩ := y
      dsimp only at hc0 hc1 hd0 hd1
      have hwr : w.heap.size < wr.heap.size := ((hM.ow .here).till _ ⟨_, rfl, rfl⟩)
      go_wp2_with fail
      refine (toPhase_any x0 x1 _).mono ?_
      rintro e w2 ⟨rfl, hb2⟩
      replace hM := hM.ext hb2
      clear hc0 hc1 hd0 hd1 hfz hb2 hwr
      obtain ⟨y, hy⟩ : ∃ y, (xs.take k ++ List.replicate (n - k) PhaseI.zero).getD k PhaseI.zero = y := ⟨_, rfl⟩
      obtain ⟨hd0, hd1⟩ := (hM.ow .here).cellPhase hlt
      have hfz := (hM.ow .here).free
      rw [hy] at hd0 hd1
      clear hy
      obtain ⟨y0, y1⟩ := y
      dsimp only at hd0 hd1
      go_wp2
      go_roundw
      case rel => exact ⟨k + 1, by omega, by go_num, by
        have := hM.putPhase hlt _ HM.out .here
        rw [set_take_repV (by rw [HL.out]; exact hlt) hlt HX.out] at this
        exact this⟩
      case measure => simp [intOf]; omega
    · go_wp2
      go_ret
      obtain rfl : k = n := by omega
      have hO := hM.ow .here
      rw [List.take_of_length_le (by rw [HL.out]; exact Nat.le_refl _), Nat.sub_self, List.replicate_zero, List.append_nil] at hO
      exact ⟨_, _, rfl, hO, hM.below⟩
set_option maxRecDepth 100000 in
set_option maxHeartbeats 1000000 in
theorem eqPhaseS_any (a : Option Addr) (n c : Nat) (xs : List PhaseI) (a2 : Option Addr) (n2 c2 : Nat) (ys : List PhaseI) (w : World) (h : Rd FPhase w a n c xs) (h2 : Rd FPhase w a2 n2 c2 ys) :
    Calls Tryz.prog 26 #[.slice a n c, .slice a2 n2 c2] w fun e w' => e = .returned (.bool (decide (xs = ys))) ∧ Below w.heap.size w w' := by
  have hn := h.cap
  have hc := h.nroom
  have HL := Lib.hid h.len
  have HL2 := Lib.hid h2.len
  by_cases hne : n = n2
  · subst hne
    go_enter Tryz.func26, Tryz.ntmps26
    go_wp2
    go_loopw [5] (fun i wr => ∃ k : Nat, k ≤ n ∧ i = .int .i64 k ∧ xs.take k = ys.take k ∧ Below w.heap.size w wr) (fun i _ => n - (intOf i).toNat)
    case atStart => exact ⟨0, Nat.zero_le _, rfl, by simp, Below.refl _ _⟩
    case round =>
      obtain ⟨k, hk, rfl, hall, hbr⟩ := hrel
      have HA := Lib.hid hall; clear hall
      by_cases hlt : k < n
      · obtain ⟨b, off, rfl, _⟩ := (h.ext hbr).at' _ hlt
        obtain ⟨b2, off2, rfl, _⟩ := (h2.ext hbr).at' _ hlt
        obtain ⟨hb, hc0, hc1⟩ := (h.ext hbr).cellPhase hlt
        obtain ⟨hb2, hd0, hd1⟩ := (h2.ext hbr).cellPhase hlt
        obtain ⟨x, hx⟩ : ∃ x, xs.getD k PhaseI.zero = x := ⟨_, rfl⟩
        obtain ⟨y, hy⟩ : ∃ y, ys.getD k PhaseI.zero = y := ⟨_, rfl⟩
        rw [hx] at hc0 hc1
        rw [hy] at hd0 hd1
        have HX := Lib.hid hx; clear hx
        have HY := Lib.hid hy; clear hy
        go_wp2
        have hS : (fun w1 : World => w1.cell? ⟨b, off + k * 2, none⟩ = some (.int .i64 x.fr) ∧ w1.cell? ⟨b, off + k * 2 + 1, none⟩ = some (.int .i64 x.sp) ∧ w1.cell? ⟨b2, off2 + k * 2, none⟩ = some (.int .i64 y.fr) ∧ w1.cell? ⟨b2, off2 + k * 2 + 1, none⟩ = some (.int .i64 y.sp)) wr.drew := ⟨hc0, hc1, hd0, hd1⟩
        have i0 : (0 : Int) ≤ (k : Int) := by omega
        have i1 : (k : Int) < (n : Int) := by omega
        clear hc0 hc1 hd0 hd1
        refine AtT.start (S := (fun w1 : World => w1.cell? ⟨b, off + k * 2, none⟩ = some (.int .i64 x.fr) ∧ w1.cell? ⟨b, off + k * 2 + 1, none⟩ = some (.int .i64 x.sp) ∧ w1.cell? ⟨b2, off2 + k * 2, none⟩ = some (.int .i64 y.fr) ∧ w1.cell? ⟨b2, off2 + k * 2 + 1, none⟩ = some (.int .i64 y.sp))) 9 (by kernel_rfl) ?_
        refine AtT.take (i := 0) (v := ?_) rfl (by kernel_rfl) (by kernel_rfl) (by kernel_rfl) (by kernel_rfl) (fun _ _ _ h => h) (Or.inl ⟨by kernel_rfl, ?_⟩) (by assumption) ?_
        rotate_left
        · (intro w hSw; (try dsimp only at hSw); go_simp; try with_reducible rfl)
        simp only [Act.put, List.setIfInBounds_toArray, List.set_cons_zero, List.set_cons_succ]
        refine AtT.take (i := 1) (v := ?_) rfl (by kernel_rfl) (by kernel_rfl) (by kernel_rfl) (by kernel_rfl) (fun _ _ _ h => h) (Or.inl ⟨by kernel_rfl, ?_⟩) (by assumption) ?_
        rotate_left
        · (intro w hSw; (try dsimp only at hSw); go_simp; try with_reducible rfl)
        simp only [Act.put, List.setIfInBounds_toArray, List.set_cons_zero, List.set_cons_succ]
        refine AtT.take (i := 2) (v := ?_) rfl (by kernel_rfl) (by kernel_rfl) (by kernel_rfl) (by kernel_rfl) (fun _ _ _ h => h) (Or.inl ⟨by kernel_rfl, ?_⟩) (by assumption) ?_
        rotate_left
        · (intro w hSw; (try dsimp only at hSw); go_simp; try with_reducible rfl)
        simp only [Act.put, List.setIfInBounds_toArray, List.set_cons_zero, List.set_cons_succ]
        refine AtT.take (i := 3) (v := ?_) rfl (by kernel_rfl) (by kernel_rfl) (by kernel_rfl) (by kernel_rfl) (fun _ _ _ h => h) (Or.inl ⟨by kernel_rfl, ?_⟩) (by assumption) ?_
        rotate_left
        · (intro w hSw; (try dsimp only at hSw); go_simp; try with_reducible rfl)
        simp only [Act.put, List.setIfInBounds_toArray, List.set_cons_zero, List.set_cons_succ]
        refine AtT.take (i := 4) (v := ?_) rfl (by kernel_rfl) (by kernel_rfl) (by kernel_rfl) (by kernel_rfl) (fun _ _ _ h => h) (Or.inl ⟨by kernel_rfl, ?_⟩) (by assumption) ?_
        rotate_left
        · (intro w hSw; (try dsimp only at hSw); go_simp; try with_reducible rfl)
        simp only [Act.put, List.setIfInBounds_toArray, List.set_cons_zero, List.set_cons_succ]
        refine AtT.take (i := 5) (v := ?_) rfl (by kernel_rfl) (by kernel_rfl) (by kernel_rfl) (by kernel_rfl) (fun _ _ _ h => h) (Or.inl ⟨by kernel_rfl, ?_⟩) (by assumption) ?_
        rotate_left
        · (intro w hSw; (try dsimp only at hSw); go_simp; try with_reducible rfl)
        simp only [Act.put, List.setIfInBounds_toArray, List.set_cons_zero, List.set_cons_succ]
        refine AtT.take (i := 6) (v := ?_) rfl (by kernel_rfl) (by kernel_rfl) (by kernel_rfl) (by kernel_rfl) (fun _ _ _ h => h) (Or.inl ⟨by kernel_rfl, ?_⟩) (by assumption) ?_
        rotate_left
        · (intro w hSw; (try dsimp only at hSw); go_simp; try with_reducible rfl)
        simp only [Act.put, List.setIfInBounds_toArray, List.set_cons_zero, List.set_cons_succ]
        refine AtT.take (i := 7) (v := ?_) rfl (by kernel_rfl) (by kernel_rfl) (by kernel_rfl) (by kernel_rfl) (fun _ _ _ h => h) (Or.inl ⟨by kernel_rfl, ?_⟩) (by assumption) ?_
        rotate_left
        · (intro w hSw; (try dsimp only at hSw); go_simp; try with_reducible rfl)
        simp only [Act.put, List.setIfInBounds_toArray, List.set_cons_zero, List.set_cons_succ]
        refine AtT.only (i := 8) (by kernel_rfl) rfl rfl ?_
        intro K hK
        go_simp
        refine (eqPhase_any x y _).mono ?_
        obtain ⟨bb, hbb⟩ : ∃ bb, decide (x = y) = bb := ⟨_, rfl⟩
        rw [hbb]
        have HBB := Lib.hid hbb; clear hbb
        rintro e w2 ⟨rfl, hb3⟩
        obtain ⟨hc0, hc1, hd0, hd1⟩ := hS
        have hS : (fun w1 : World => w1.cell? ⟨b, off + k * 2, none⟩ = some (.int .i64 x.fr) ∧ w1.cell? ⟨b, off + k * 2 + 1, none⟩ = some (.int .i64 x.sp) ∧ w1.cell? ⟨b2, off2 + k * 2, none⟩ = some (.int .i64 y.fr) ∧ w1.cell? ⟨b2, off2 + k * 2 + 1, none⟩ = some (.int .i64 y.sp)) w2 := ⟨keepCell hb3 hc0, keepCell hb3 hc1, keepCell hb3 hd0, keepCell hb3 hd1⟩
        clear hc0 hc1 hd0 hd1
        dsimp only
        refine hK.out _ _ hS ?_
        clear hK K
        refine AtT.last (by kernel_rfl) rfl (by kernel_rfl) ?_
        intro K hK
        go_simp
        refine hK.out _ _ ?_
        clear hK K hS
        replace hbr : Below w.heap.size w w2 := hbr.trans (Below.trans (Below.refl _ _).drew (hb3.mono hbr.size))
        cases bb
        case true =>
          go_wp2
          have he : x = y := of_decide_eq_true HBB.out
          go_roundw
          case rel => exact ⟨k + 1, by omega, by go_num, by rw [take_succV (by rw [HL.out]; exact hlt), take_succV (by rw [HL2.out]; exact hlt), HA.out, HX.out, HY.out, he], hbr⟩
          case measure => simp [intOf]; omega
        case false =>
          go_wp2
          have he : ¬ x = y := of_decide_eq_false HBB.out
          go_ret
          refine ⟨rb ?_, hbr⟩
          symm
          rw [decide_eq_false_iff_not]
          rintro rfl
          exact he (HX.out.symm.trans HY.out)
      · go_wp2
        go_ret
        obtain rfl : k = n := by omega
        refine ⟨rb ?_, hbr⟩
        symm
        rw [decide_eq_true_iff, ← List.take_of_length_le (show xs.length ≤ k by rw [HL.out]; exact Nat.le_refl _), HA.out, List.take_of_length_le (by rw [HL2.out]; exact Nat.le_refl _)]
  · have hne' : ((n : Int) != n2) = true := by simp; omega
    go_enter Tryz.func26, Tryz.ntmps26
    go_wp2
    go_ret
    refine ⟨rb ?_, Below.refl _ _⟩
    symm
    rw [decide_eq_false_iff_not]
    rintro rfl
    exact hne (HL.out.symm.trans HL2.out)
end Go.Proofs.YtpflnmejbialjaaGreatDoor
