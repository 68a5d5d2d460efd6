import Derived.Test.YtdhgkfmehegeoaaRd
import Derived.Test.YtdhgkfmehegeoaaLaw
namespace Go.Proofs.Ytdhgkfmehegeoaa
set_option linter.unusedSimpArgs false
set_option linter.unusedVariables false
open Go.RowKit

structure FireI where
  day : Int
  cause : Int
  hect : Int
  hours : Int
instance : DecidableEq FireI := fun a b => decidable_of_iff (a.day = b.day ∧ a.cause = b.cause ∧ a.hect = b.hect ∧ a.hours = b.hours) (by cases a; cases b; simp [and_assoc])
def FireI.zero : FireI := ⟨0, 0, 0, 0⟩
def FFire : Fl FireI where
  sz := 4
  enc x := [.int .i64 x.day, .int .i64 x.cause, .int .i64 x.hect, .int .i64 x.hours]
  z := FireI.zero
  wf x := I64 x.day ∧ I64 x.cause ∧ I64 x.hect ∧ I64 x.hours
  pos := by decide
  len _ := rfl
  one := by intro x v hv; simp at hv; rcases hv with rfl | rfl | rfl | rfl <;> rfl
abbrev FireI.val (x : FireI) : Value := .agg #[.int .i64 x.day, .int .i64 x.cause, .int .i64 x.hect, .int .i64 x.hours]
theorem Rd.cellFire {w : World} {b off n c : Nat} {xs : List FireI} (h : Rd FFire w (some ⟨b, off, none⟩) n c xs) {k : Nat} (hk : k < n) : b < w.heap.size ∧ w.cell? ⟨b, off + k * 4, none⟩ = some (.int .i64 (xs.getD k FireI.zero).day) ∧ w.cell? ⟨b, off + k * 4 + 1, none⟩ = some (.int .i64 (xs.getD k FireI.zero).cause) ∧ w.cell? ⟨b, off + k * 4 + 2, none⟩ = some (.int .i64 (xs.getD k FireI.zero).hect) ∧ w.cell? ⟨b, off + k * 4 + 3, none⟩ = some (.int .i64 (xs.getD k FireI.zero).hours) := by
  obtain ⟨b', off', e, hl, hc⟩ := h.at' k hk
  simp only [Option.some.injEq, Addr.mk.injEq] at e
  obtain ⟨rfl, rfl, _⟩ := e
  exact ⟨hl, by rw [show off + k * 4 = off + (k * FFire.sz + 0) by show _ = off + (k * 4 + 0); omega]; exact hc k hk 0 (by decide), by rw [show off + k * 4 + 1 = off + (k * FFire.sz + 1) by show _ = off + (k * 4 + 1); omega]; exact hc k hk 1 (by decide), by rw [show off + k * 4 + 2 = off + (k * FFire.sz + 2) by show _ = off + (k * 4 + 2); omega]; exact hc k hk 2 (by decide), by rw [show off + k * 4 + 3 = off + (k * FFire.sz + 3) by show _ = off + (k * 4 + 3); omega]; exact hc k hk 3 (by decide)⟩
theorem Ow.cellFire {E : TypeId} {B : Nat} {w : World} {g n c : Nat} {xs : List FireI} (h : Ow FFire E B w (some ⟨g, 0, none⟩) n c xs) {k : Nat} (hk : k < n) : w.cell? ⟨g, k * 4, none⟩ = some (.int .i64 (xs.getD k FireI.zero).day) ∧ w.cell? ⟨g, k * 4 + 1, none⟩ = some (.int .i64 (xs.getD k FireI.zero).cause) ∧ w.cell? ⟨g, k * 4 + 2, none⟩ = some (.int .i64 (xs.getD k FireI.zero).hect) ∧ w.cell? ⟨g, k * 4 + 3, none⟩ = some (.int .i64 (xs.getD k FireI.zero).hours) := by
  exact ⟨h.cell hk (j := 0) (by decide), h.cell hk (j := 1) (by decide), h.cell hk (j := 2) (by decide), h.cell hk (j := 3) (by decide)⟩
theorem Ow.putFire {E : TypeId} {B : Nat} {w : World} {g n c : Nat} {xs : List FireI} (h : Ow FFire E B w (some ⟨g, 0, none⟩) n c xs) {k : Nat} (hk : k < n) (y : FireI) (hw : FFire.wf y) : Ow FFire E B ((((w.setCell ⟨g, k * 4, none⟩ (.int .i64 y.day)).setCell ⟨g, k * 4 + 1, none⟩ (.int .i64 y.cause)).setCell ⟨g, k * 4 + 2, none⟩ (.int .i64 y.hect)).setCell ⟨g, k * 4 + 3, none⟩ (.int .i64 y.hours)) (some ⟨g, 0, none⟩) n c (xs.set k y) :=
  h.putRec hk y hw
theorem Mem.putFire {E : TypeId} {B : Nat} {w0 w : World} {G G' : List Ent} {g n c : Nat} {xs : List FireI} (h : Mem B w0 w G) {k : Nat} (hk : k < n) (y : FireI) (hw : FFire.wf y) (p : Put G (owE FFire E (some ⟨g, 0, none⟩) n c xs) (owE FFire E (some ⟨g, 0, none⟩) n c (xs.set k y)) G') : Mem B w0 ((((w.setCell ⟨g, k * 4, none⟩ (.int .i64 y.day)).setCell ⟨g, k * 4 + 1, none⟩ (.int .i64 y.cause)).setCell ⟨g, k * 4 + 2, none⟩ (.int .i64 y.hect)).setCell ⟨g, k * 4 + 3, none⟩ (.int .i64 y.hours)) G' :=
  h.put p (setRec_keeps (d := blockOf (some ⟨g, 0, none⟩)) g ⟨_, rfl, rfl⟩ (FFire.enc y) (k * 4) w) ((h.ow p.mem').putFire hk y hw) (fun k hk => .inl hk)
set_option maxRecDepth 100000 in
set_option maxHeartbeats 1000000 in
theorem toFire_any (x0 x1 x2 x3 : Int) (w : World) :
    Calls Try.prog 90 #[.agg #[.int .i64 x0, .int .i64 x1, .int .i64 x2, .int .i64 x3]] w fun o w' => o = .returned (.agg #[.int .i64 x0, .int .i64 x1, .int .i64 x2, .int .i64 x3]) ∧ Below w.heap.size w w' := by
  go_enter Try.func90, Try.ntmps90
  have R1 := (Row.new (w.alloc (.cells #[.int .i64 x0, .int .i64 x1, .int .i64 x2, .int .i64 x3] 102)) (w.heap.size + 1) (by simp) #[.int .i64 0, .int .i64 0, .int .i64 0, .int .i64 0] 70)
  go_wp2
  refine bodyPost_ret (v := .agg #[.int .i64 x0, .int .i64 x1, .int .i64 x2, .int .i64 x3]) (by simp [results, Try.results90, go_sem, R1.cell]) rfl ⟨rfl, ?_⟩
  (repeat' (first | exact Below.refl _ _ | with_reducible refine Below.setCell ?_ (by first | omega | (simp; done) | (simp; omega)) _ | with_reducible refine Below.alloc ?_ (by first | omega | (simp; done) | (simp; omega)) _ | with_reducible refine Below.drew ?_ | with_reducible refine bdrewN ?_ _))
set_option maxRecDepth 100000 in
set_option maxHeartbeats 1000000 in
theorem eqFire_any (x y : FireI) (w : World) :
    Calls Try.prog 93 #[x.val, y.val] w fun o w' => o = .returned (.bool (decide (x = y))) ∧ Below w.heap.size w w' := by
  obtain ⟨x0, x1, x2, x3⟩ := x
  obtain ⟨y0, y1, y2, y3⟩ := y
  by_cases h0 : x0 = y0
  case neg =>
    have HF := Lib.hid (show decide ((⟨x0, x1, x2, x3⟩ : FireI) = ⟨y0, y1, y2, y3⟩) = false by simp [h0])
    have hn : (x0 != y0) = true := by simpa using h0
    go_enter Try.func93, Try.ntmps93
    go_wp2
    go_ret
    exact ⟨rb HF.out.symm, by (repeat' (first | exact Below.refl _ _ | with_reducible refine Below.setCell ?_ (by first | omega | (simp; done) | (simp; omega)) _ | with_reducible refine Below.alloc ?_ (by first | omega | (simp; done) | (simp; omega)) _ | with_reducible refine Below.drew ?_ | with_reducible refine bdrewN ?_ _))⟩
  subst h0
  by_cases h1 : x1 = y1
  case neg =>
    have HF := Lib.hid (show decide ((⟨x0, x1, x2, x3⟩ : FireI) = ⟨x0, y1, y2, y3⟩) = false by simp [h1])
    have hn : (x1 != y1) = true := by simpa using h1
    have hn0 : (x0 != x0) = false := by simp
    go_enter Try.func93, Try.ntmps93
    go_wp2
    go_ret
    exact ⟨rb HF.out.symm, by (repeat' (first | exact Below.refl _ _ | with_reducible refine Below.setCell ?_ (by first | omega | (simp; done) | (simp; omega)) _ | with_reducible refine Below.alloc ?_ (by first | omega | (simp; done) | (simp; omega)) _ | with_reducible refine Below.drew ?_ | with_reducible refine bdrewN ?_ _))⟩
  subst h1
  by_cases h2 : x2 = y2
  case neg =>
    have HF := Lib.hid (show decide ((⟨x0, x1, x2, x3⟩ : FireI) = ⟨x0, x1, y2, y3⟩) = false by simp [h2])
    have hn : (x2 != y2) = true := by simpa using h2
    have hn0 : (x0 != x0) = false := by simp
    have hn1 : (x1 != x1) = false := by simp
    go_enter Try.func93, Try.ntmps93
    go_wp2
    go_ret
    exact ⟨rb HF.out.symm, by (repeat' (first | exact Below.refl _ _ | with_reducible refine Below.setCell ?_ (by first | omega | (simp; done) | (simp; omega)) _ | with_reducible refine Below.alloc ?_ (by first | omega | (simp; done) | (simp; omega)) _ | with_reducible refine Below.drew ?_ | with_reducible refine bdrewN ?_ _))⟩
  subst h2
  by_cases h3 : x3 = y3
  case neg =>
    have HF := Lib.hid (show decide ((⟨x0, x1, x2, x3⟩ : FireI) = ⟨x0, x1, x2, y3⟩) = false by simp [h3])
    have hn : (x3 != y3) = true := by simpa using h3
    have hn0 : (x0 != x0) = false := by simp
    have hn1 : (x1 != x1) = false := by simp
    have hn2 : (x2 != x2) = false := by simp
    go_enter Try.func93, Try.ntmps93
    go_wp2
    go_ret
    exact ⟨rb HF.out.symm, by (repeat' (first | exact Below.refl _ _ | with_reducible refine Below.setCell ?_ (by first | omega | (simp; done) | (simp; omega)) _ | with_reducible refine Below.alloc ?_ (by first | omega | (simp; done) | (simp; omega)) _ | with_reducible refine Below.drew ?_ | with_reducible refine bdrewN ?_ _))⟩
  subst h3
  have HF := Lib.hid (show decide ((⟨x0, x1, x2, x3⟩ : FireI) = ⟨x0, x1, x2, x3⟩) = true by simp)
  have hn0 : (x0 != x0) = false := by simp
  have hn1 : (x1 != x1) = false := by simp
  have hn2 : (x2 != x2) = false := by simp
  have hn3 : (x3 != x3) = false := by simp
  go_enter Try.func93, Try.ntmps93
  go_wp2
  go_ret
  exact ⟨rb HF.out.symm, by (repeat' (first | exact Below.refl _ _ | with_reducible refine Below.setCell ?_ (by first | omega | (simp; done) | (simp; omega)) _ | with_reducible refine Below.alloc ?_ (by first | omega | (simp; done) | (simp; omega)) _ | with_reducible refine Below.drew ?_ | with_reducible refine bdrewN ?_ _))⟩
set_option maxHeartbeats 400000 in
theorem szFireS_any (a : Option Addr) (n c : Nat) (l : Int) (w : World) (hc : n ≤ 17592186044416) (hl : -1 ≤ l ∧ l ≤ 1048576) :
    Calls Try.prog 37 #[.slice a n c, .int .i64 l] w fun e w' => e = .returned (.int .i64 (szF n l)) ∧ w = w' := by
  by_cases h : l - n < 0
  all_goals
    go_enter Try.func37, Try.ntmps37
    go_wp2
    go_ret
    exact ⟨ri (by unfold szF; first | rw [if_pos (by omega)] | rw [if_neg (by omega)]), rfl⟩
theorem Try.info70 : (Try.prog.info? 70).map (fun i => (i.zero, i.size, i.bytes)) = some (some (.agg #[.int .i64 0, .int .i64 0, .int .i64 0, .int .i64 0]), 4, 32) := by kernel_rfl
set_option maxRecDepth 100000 in
set_option maxHeartbeats 1000000 in
theorem toFireS_any (a : Option Addr) (n c : Nat) (xs : List FireI) (w : World) (h : Rd FFire w a n c xs) :
    Calls Try.prog 39 #[.slice a n c] w fun e w' => ∃ a' c', e = .returned (.slice a' n c') ∧ Ow FFire 70 w.heap.size w' a' n c' xs ∧ Below w.heap.size w w' := by
  have hn := h.cap
  have hc := h.nroom
  have hr : n * 4 ≤ 17592186044416 := h.room
  have HL := Lib.hid h.len
  have HW := Lib.hid h.wf
  obtain ⟨i0, hi, hz0, hz1, hz2⟩ := info_parts Try.info70
  go_enter Try.func39, Try.ntmps39
  go_wp2_with (at_make; refine wpList_make_full _ rfl _ _ 60 rfl w.heap.size 70 i0 (.agg #[.int .i64 0, .int .i64 0, .int .i64 0, .int .i64 0]) 4 Try.underlying60 hi hz0 hz1 .i64 .i64 n n n rfl rfl rfl rfl ?b1 ?b2 ?b3 ?_)
  case b1 => rw [hz2]; omega
  case b2 => unfold maxLen; omega
  case b3 => exact Nat.le_refl _
  intro w1 hown hg
  have hO : Ow FFire 70 w.heap.size w1 (some ⟨w.heap.size, 0, none⟩) n n (List.replicate n FireI.zero) := ow_made (zs := #[.int .i64 0, .int .i64 0, .int .i64 0, .int .i64 0]) rfl hown hr (by refine ⟨?_, ?_, ?_, ?_⟩ <;> (show I64 0; unfold I64; omega))
  have hb1 : Below w.heap.size w w1 := (Below.refl _ _).grown hg (Nat.le_refl _) (by intro k hk; cases hk)
  have hM0 : Mem w.heap.size w w1 [owE FFire 70 (some ⟨w.heap.size, 0, none⟩) n n (List.replicate n FireI.zero)] := (Mem.start w).owned hb1 hO
  clear hown hg hO hb1
  go_wp2
  go_loopw [4] (fun i wr => ∃ k : Nat, k ≤ n ∧ i = .int .i64 k ∧ Mem w.heap.size w wr [owE FFire 70 (some ⟨w.heap.size, 0, none⟩) n n (xs.take k ++ List.replicate (n - k) FireI.zero)]) (fun i _ => n - (intOf i).toNat)
  case atStart => exact ⟨0, Nat.zero_le _, rfl, by simpa using hM0⟩
  case round =>
    obtain ⟨k, hk, rfl, hM⟩ := hrel
    by_cases hlt : k < n
    · obtain ⟨b, off, rfl, _⟩ := (h.ext hM.below).at' _ hlt
      obtain ⟨hb, hc0, hc1, hc2, hc3⟩ := (h.ext hM.below).cellFire hlt
      obtain ⟨hd0, hd1, hd2, hd3⟩ := (hM.ow .here).cellFire hlt
      have hfz := (hM.ow .here).free
      have hmem := HW.out _ (List.mem_of_getElem? (show xs[k]? = some (xs.getD k FireI.zero) by rw [List.getD_eq_getElem?_getD, List.getElem?_eq_getElem (by rw [HL.out]; exact hlt)]; rfl))
      have HM := Lib.hid hmem; clear hmem
      obtain ⟨x, hx⟩ : ∃ x, xs.getD k FireI.zero = x := ⟨_, rfl⟩
      rw [hx] at hc0 hc1 hc2 hc3 HM
      obtain ⟨y, hy⟩ : ∃ y, (xs.take k ++ List.replicate (n - k) FireI.zero).getD k FireI.zero = y := ⟨_, rfl⟩
      rw [hy] at hd0 hd1 hd2 hd3
      clear hy
      have HX := Lib.hid hx; clear hx
      obtain ⟨x0, x1, x2, x3⟩ := x
      obtain ⟨y0, y1, y2, y3⟩ := y
      dsimp only at hc0 hc1 hc2 hc3 hd0 hd1 hd2 hd3
      have hwr : w.heap.size < wr.heap.size := ((hM.ow .here).till _ ⟨_, rfl, rfl⟩)
      go_wp2_with fail
      refine (toFire_any x0 x1 x2 x3 _).mono ?_
      rintro e w2 ⟨rfl, hb2⟩
      replace hM := hM.ext hb2
      clear hc0 hc1 hc2 hc3 hd0 hd1 hd2 hd3 hfz hb2 hwr
      obtain ⟨y, hy⟩ : ∃ y, (xs.take k ++ List.replicate (n - k) FireI.zero).getD k FireI.zero = y := ⟨_, rfl⟩
      obtain ⟨hd0, hd1, hd2, hd3⟩ := (hM.ow .here).cellFire hlt
      have hfz := (hM.ow .here).free
      rw [hy] at hd0 hd1 hd2 hd3
      clear hy
      obtain ⟨y0, y1, y2, y3⟩ := y
      dsimp only at hd0 hd1 hd2 hd3
      go_wp2
      go_roundw
      case rel => exact ⟨k + 1, by omega, by go_num, by
        have := hM.putFire hlt _ HM.out .here
        rw [set_take_repV (by rw [HL.out]; exact hlt) hlt HX.out] at this
        exact this⟩
      case measure => simp [intOf]; omega
    · go_wp2
      go_ret
      obtain rfl : k = n := by omega
      have hO := hM.ow .here
      rw [List.take_of_length_le (by rw [HL.out]; exact Nat.le_refl _), Nat.sub_self, List.replicate_zero, List.append_nil] at hO
      exact ⟨_, _, rfl, hO, hM.below⟩
set_option maxRecDepth 100000 in
set_option maxHeartbeats 1000000 in
theorem eqFireS_any (a : Option Addr) (n c : Nat) (xs : List FireI) (a2 : Option Addr) (n2 c2 : Nat) (ys : List FireI) (w : World) (h : Rd FFire w a n c xs) (h2 : Rd FFire w a2 n2 c2 ys) :
    Calls Try.prog 42 #[.slice a n c, .slice a2 n2 c2] w fun e w' => e = .returned (.bool (decide (xs = ys))) ∧ Below w.heap.size w w' := by
  have hn := h.cap
  have hc := h.nroom
  have HL := Lib.hid h.len
  have HL2 := Lib.hid h2.len
  by_cases hne : n = n2
  · subst hne
    go_enter Try.func42, Try.ntmps42
    go_wp2
    go_loopw [5] (fun i wr => ∃ k : Nat, k ≤ n ∧ i = .int .i64 k ∧ xs.take k = ys.take k ∧ Below w.heap.size w wr) (fun i _ => n - (intOf i).toNat)
    case atStart => exact ⟨0, Nat.zero_le _, rfl, by simp, Below.refl _ _⟩
    case round =>
      obtain ⟨k, hk, rfl, hall, hbr⟩ := hrel
      have HA := Lib.hid hall; clear hall
      by_cases hlt : k < n
      · obtain ⟨b, off, rfl, _⟩ := (h.ext hbr).at' _ hlt
        obtain ⟨b2, off2, rfl, _⟩ := (h2.ext hbr).at' _ hlt
        obtain ⟨hb, hc0, hc1, hc2, hc3⟩ := (h.ext hbr).cellFire hlt
        obtain ⟨hb2, hd0, hd1, hd2, hd3⟩ := (h2.ext hbr).cellFire hlt
        obtain ⟨x, hx⟩ : ∃ x, xs.getD k FireI.zero = x := ⟨_, rfl⟩
        obtain ⟨y, hy⟩ : ∃ y, ys.getD k FireI.zero = y := ⟨_, rfl⟩
        rw [hx] at hc0 hc1 hc2 hc3
        rw [hy] at hd0 hd1 hd2 hd3
        have HX := Lib.hid hx; clear hx
        have HY := Lib.hid hy; clear hy
        go_wp2
        have hS : (fun w1 : World => w1.cell? ⟨b, off + k * 4, none⟩ = some (.int .i64 x.day) ∧ w1.cell? ⟨b, off + k * 4 + 1, none⟩ = some (.int .i64 x.cause) ∧ w1.cell? ⟨b, off + k * 4 + 2, none⟩ = some (.int .i64 x.hect) ∧ w1.cell? ⟨b, off + k * 4 + 3, none⟩ = some (.int .i64 x.hours) ∧ w1.cell? ⟨b2, off2 + k * 4, none⟩ = some (.int .i64 y.day) ∧ w1.cell? ⟨b2, off2 + k * 4 + 1, none⟩ = some (.int .i64 y.cause) ∧ w1.cell? ⟨b2, off2 + k * 4 + 2, none⟩ = some (.int .i64 y.hect) ∧ w1.cell? ⟨b2, off2 + k * 4 + 3, none⟩ = some (.int .i64 y.hours)) wr.drew := ⟨hc0, hc1, hc2, hc3, hd0, hd1, hd2, hd3⟩
        have i0 : (0 : Int) ≤ (k : Int) := by omega
        have i1 : (k : Int) < (n : Int) := by omega
        clear hc0 hc1 hc2 hc3 hd0 hd1 hd2 hd3
        refine AtT.start (S := (fun w1 : World => w1.cell? ⟨b, off + k * 4, none⟩ = some (.int .i64 x.day) ∧ w1.cell? ⟨b, off + k * 4 + 1, none⟩ = some (.int .i64 x.cause) ∧ w1.cell? ⟨b, off + k * 4 + 2, none⟩ = some (.int .i64 x.hect) ∧ w1.cell? ⟨b, off + k * 4 + 3, none⟩ = some (.int .i64 x.hours) ∧ w1.cell? ⟨b2, off2 + k * 4, none⟩ = some (.int .i64 y.day) ∧ w1.cell? ⟨b2, off2 + k * 4 + 1, none⟩ = some (.int .i64 y.cause) ∧ w1.cell? ⟨b2, off2 + k * 4 + 2, none⟩ = some (.int .i64 y.hect) ∧ w1.cell? ⟨b2, off2 + k * 4 + 3, none⟩ = some (.int .i64 y.hours))) 9 (by kernel_rfl) ?_
        refine AtT.take (i := 0) (v := ?_) rfl (by kernel_rfl) (by kernel_rfl) (by kernel_rfl) (by kernel_rfl) (fun _ _ _ h => h) (Or.inl ⟨by kernel_rfl, ?_⟩) (by assumption) ?_
        rotate_left
        · (intro w hSw; (try dsimp only at hSw); go_simp; try with_reducible rfl)
        simp only [Act.put, List.setIfInBounds_toArray, List.set_cons_zero, List.set_cons_succ]
        refine AtT.take (i := 1) (v := ?_) rfl (by kernel_rfl) (by kernel_rfl) (by kernel_rfl) (by kernel_rfl) (fun _ _ _ h => h) (Or.inl ⟨by kernel_rfl, ?_⟩) (by assumption) ?_
        rotate_left
        · (intro w hSw; (try dsimp only at hSw); go_simp; try with_reducible rfl)
        simp only [Act.put, List.setIfInBounds_toArray, List.set_cons_zero, List.set_cons_succ]
        refine AtT.take (i := 2) (v := ?_) rfl (by kernel_rfl) (by kernel_rfl) (by kernel_rfl) (by kernel_rfl) (fun _ _ _ h => h) (Or.inl ⟨by kernel_rfl, ?_⟩) (by assumption) ?_
        rotate_left
        · (intro w hSw; (try dsimp only at hSw); go_simp; try with_reducible rfl)
        simp only [Act.put, List.setIfInBounds_toArray, List.set_cons_zero, List.set_cons_succ]
        refine AtT.take (i := 3) (v := ?_) rfl (by kernel_rfl) (by kernel_rfl) (by kernel_rfl) (by kernel_rfl) (fun _ _ _ h => h) (Or.inl ⟨by kernel_rfl, ?_⟩) (by assumption) ?_
        rotate_left
        · (intro w hSw; (try dsimp only at hSw); go_simp; try with_reducible rfl)
        simp only [Act.put, List.setIfInBounds_toArray, List.set_cons_zero, List.set_cons_succ]
        refine AtT.take (i := 4) (v := ?_) rfl (by kernel_rfl) (by kernel_rfl) (by kernel_rfl) (by kernel_rfl) (fun _ _ _ h => h) (Or.inl ⟨by kernel_rfl, ?_⟩) (by assumption) ?_
        rotate_left
        · (intro w hSw; (try dsimp only at hSw); go_simp; try with_reducible rfl)
        simp only [Act.put, List.setIfInBounds_toArray, List.set_cons_zero, List.set_cons_succ]
        refine AtT.take (i := 5) (v := ?_) rfl (by kernel_rfl) (by kernel_rfl) (by kernel_rfl) (by kernel_rfl) (fun _ _ _ h => h) (Or.inl ⟨by kernel_rfl, ?_⟩) (by assumption) ?_
        rotate_left
        · (intro w hSw; (try dsimp only at hSw); go_simp; try with_reducible rfl)
        simp only [Act.put, List.setIfInBounds_toArray, List.set_cons_zero, List.set_cons_succ]
        refine AtT.take (i := 6) (v := ?_) rfl (by kernel_rfl) (by kernel_rfl) (by kernel_rfl) (by kernel_rfl) (fun _ _ _ h => h) (Or.inl ⟨by kernel_rfl, ?_⟩) (by assumption) ?_
        rotate_left
        · (intro w hSw; (try dsimp only at hSw); go_simp; try with_reducible rfl)
        simp only [Act.put, List.setIfInBounds_toArray, List.set_cons_zero, List.set_cons_succ]
        refine AtT.take (i := 7) (v := ?_) rfl (by kernel_rfl) (by kernel_rfl) (by kernel_rfl) (by kernel_rfl) (fun _ _ _ h => h) (Or.inl ⟨by kernel_rfl, ?_⟩) (by assumption) ?_
        rotate_left
        · (intro w hSw; (try dsimp only at hSw); go_simp; try with_reducible rfl)
        simp only [Act.put, List.setIfInBounds_toArray, List.set_cons_zero, List.set_cons_succ]
        refine AtT.only (i := 8) (by kernel_rfl) rfl rfl ?_
        intro K hK
        go_simp
        refine (eqFire_any x y _).mono ?_
        obtain ⟨bb, hbb⟩ : ∃ bb, decide (x = y) = bb := ⟨_, rfl⟩
        rw [hbb]
        have HBB := Lib.hid hbb; clear hbb
        rintro e w2 ⟨rfl, hb3⟩
        obtain ⟨hc0, hc1, hc2, hc3, hd0, hd1, hd2, hd3⟩ := hS
        have hS : (fun w1 : World => w1.cell? ⟨b, off + k * 4, none⟩ = some (.int .i64 x.day) ∧ w1.cell? ⟨b, off + k * 4 + 1, none⟩ = some (.int .i64 x.cause) ∧ w1.cell? ⟨b, off + k * 4 + 2, none⟩ = some (.int .i64 x.hect) ∧ w1.cell? ⟨b, off + k * 4 + 3, none⟩ = some (.int .i64 x.hours) ∧ w1.cell? ⟨b2, off2 + k * 4, none⟩ = some (.int .i64 y.day) ∧ w1.cell? ⟨b2, off2 + k * 4 + 1, none⟩ = some (.int .i64 y.cause) ∧ w1.cell? ⟨b2, off2 + k * 4 + 2, none⟩ = some (.int .i64 y.hect) ∧ w1.cell? ⟨b2, off2 + k * 4 + 3, none⟩ = some (.int .i64 y.hours)) w2 := ⟨keepCell hb3 hc0, keepCell hb3 hc1, keepCell hb3 hc2, keepCell hb3 hc3, keepCell hb3 hd0, keepCell hb3 hd1, keepCell hb3 hd2, keepCell hb3 hd3⟩
        clear hc0 hc1 hc2 hc3 hd0 hd1 hd2 hd3
        dsimp only
        refine hK.out _ _ hS ?_
        clear hK K
        refine AtT.last (by kernel_rfl) rfl (by kernel_rfl) ?_
        intro K hK
        go_simp
        refine hK.out _ _ ?_
        clear hK K hS
        replace hbr : Below w.heap.size w w2 := hbr.trans (Below.trans (Below.refl _ _).drew (hb3.mono hbr.size))
        cases bb
        case true =>
          go_wp2
          have he : x = y := of_decide_eq_true HBB.out
          go_roundw
          case rel => exact ⟨k + 1, by omega, by go_num, by rw [take_succV (by rw [HL.out]; exact hlt), take_succV (by rw [HL2.out]; exact hlt), HA.out, HX.out, HY.out, he], hbr⟩
          case measure => simp [intOf]; omega
        case false =>
          go_wp2
          have he : ¬ x = y := of_decide_eq_false HBB.out
          go_ret
          refine ⟨rb ?_, hbr⟩
          symm
          rw [decide_eq_false_iff_not]
          rintro rfl
          exact he (HX.out.symm.trans HY.out)
      · go_wp2
        go_ret
        obtain rfl : k = n := by omega
        refine ⟨rb ?_, hbr⟩
        symm
        rw [decide_eq_true_iff, ← List.take_of_length_le (show xs.length ≤ k by rw [HL.out]; exact Nat.le_refl _), HA.out, List.take_of_length_le (by rw [HL2.out]; exact Nat.le_refl _)]
  · have hne' : ((n : Int) != n2) = true := by simp; omega
    go_enter Try.func42, Try.ntmps42
    go_wp2
    go_ret
    refine ⟨rb ?_, Below.refl _ _⟩
    symm
    rw [decide_eq_false_iff_not]
    rintro rfl
    exact hne (HL.out.symm.trans HL2.out)
def fromFire (q : Int) (m : Nat) : List FireI := (List.range m).map fun (i : Nat) => ⟨q + 4 * i, q + 4 * i + 1, q + 4 * i + 1 + 1, q + 4 * i + 1 + 1 + 1⟩
set_option maxRecDepth 100000 in
set_option maxHeartbeats 1000000 in
theorem markFireS_any (B : Nat) (a : Option Addr) (n c : Nat) (xs : List FireI) (q : Int) (w : World) (h : Ow FFire 70 B w a n c xs) (hB : B ≤ w.heap.size) (hq : 0 ≤ q ∧ q ≤ 1152921504606846976) :
    Calls Try.prog 43 #[.slice a n c, .int .i64 q] w fun e w' => e = .returned (.int .i64 (q + 4 * n)) ∧ Ow FFire 70 B w' a n c (fromFire q n) ∧ Keeps (blockOf a) w w' := by
  have hn := h.rd.cap
  have hc : n * 4 ≤ 17592186044416 := h.room
  have HL := Lib.hid h.len
  go_enter Try.func43, Try.ntmps43
  go_wp2
  go_loopw [1, 5] (fun v i wr => ∃ k : Nat, k ≤ n ∧ i = .int .i64 k ∧ v = .int .i64 (q + 4 * k) ∧ Ow FFire 70 B wr a n c (fromFire q k ++ xs.drop k) ∧ Keeps (blockOf a) w wr) (fun _ i _ => n - (intOf i).toNat)
  case atStart => exact ⟨0, Nat.zero_le _, rfl, by simp, by simpa [fromFire] using h, Keeps.refl _ _⟩
  case round =>
    obtain ⟨k, hk, rfl, rfl, hO, hbr⟩ := hrel
    by_cases hlt : k < n
    · obtain ⟨g, rfl, _, hgs⟩ := hO.head (by omega)
      obtain ⟨hd0, hd1, hd2, hd3⟩ := hO.cellFire hlt
      have hfz := hO.free
      obtain ⟨y, hy⟩ : ∃ y, (fromFire q k ++ xs.drop k).getD k FireI.zero = y := ⟨_, rfl⟩
      rw [hy] at hd0 hd1 hd2 hd3
      clear hy
      go_wp2
      go_roundw
      case rel => exact ⟨k + 1, by omega, by go_num, by go_num, by
        have := hO.putFire hlt ⟨q + 4 * k, q + 4 * k + 1, q + 4 * k + 1 + 1, q + 4 * k + 1 + 1 + 1⟩ (by refine ⟨?_, ?_, ?_, ?_⟩ <;> (dsimp only; unfold I64; omega))
        rw [set_fromV (fromFire q k) (by simp [fromFire]) (by rw [HL.out]; exact hlt)] at this
        rw [show fromFire q (k + 1) = fromFire q k ++ [(⟨q + 4 * k, q + 4 * k + 1, q + 4 * k + 1 + 1, q + 4 * k + 1 + 1 + 1⟩ : FireI)] by simp [fromFire, List.range_succ]]
        simpa [Int.add_assoc] using this, hbr.trans (setRec_keeps (d := blockOf (some ⟨g, 0, none⟩)) g ⟨_, rfl, rfl⟩ (FFire.enc ⟨q + 4 * k, q + 4 * k + 1, q + 4 * k + 1 + 1, q + 4 * k + 1 + 1 + 1⟩) (k * 4) _)⟩
      case measure => simp [intOf]; omega
    · go_wp2
      go_ret
      obtain rfl : k = n := by omega
      rw [List.drop_of_length_le (by rw [HL.out]; exact Nat.le_refl _), List.append_nil] at hO
      exact ⟨rfl, hO, hbr⟩
end Go.Proofs.Ytdhgkfmehegeoaa
