/- Lemmas. -/
import Derived.Test.YtfnaenekdenmkaaJMarkT
import Derived.Test.YtfnaenekdenmkaaJPush
import Derived.Test.YtfnaenekdenmkaaJLst
namespace Go.Proofs.Ytfnaenekdenmkaa
set_option linter.unusedSimpArgs false
set_option linter.unusedVariables false
open Go.RowKit

structure StockI where
  kd : Bs
  ct : Int
instance : DecidableEq StockI := fun a b => decidable_of_iff (a.kd = b.kd ∧ a.ct = b.ct) (by cases a; cases b; simp [and_assoc])
def StockI.zero : StockI := ⟨[], 0⟩
def FStock : Fl StockI where
  sz := 2
  enc x := [.string (bsA x.kd), .int .i64 x.ct]
  z := StockI.zero
  wf x := x.kd.length ≤ maxLen ∧ I64 x.ct
  pos := by decide
  len _ := rfl
  one := by intro x v hv; simp at hv; rcases hv with rfl | rfl <;> rfl
abbrev StockI.val (x : StockI) : Value := .agg #[.string (bsA x.kd), .int .i64 x.ct]
theorem Rd.cellStock {w : World} {b off n c : Nat} {xs : List StockI} (h : Rd FStock w (some ⟨b, off, none⟩) n c xs) {k : Nat} (hk : k < n) : b < w.heap.size ∧ w.cell? ⟨b, off + k * 2, none⟩ = some (.string (bsA (xs.getD k StockI.zero).kd)) ∧ w.cell? ⟨b, off + k * 2 + 1, none⟩ = some (.int .i64 (xs.getD k StockI.zero).ct) := by
  obtain ⟨b', off', e, hl, hc⟩ := h.at' k hk
  simp only [Option.some.injEq, Addr.mk.injEq] at e
  obtain ⟨rfl, rfl, _⟩ := e
  exact ⟨hl, by rw [show off + k * 2 = off + (k * FStock.sz + 0) by show _ = off + (k * 2 + 0); omega]; exact hc k hk 0 (by decide), by rw [show off + k * 2 + 1 = off + (k * FStock.sz + 1) by show _ = off + (k * 2 + 1); omega]; exact hc k hk 1 (by decide)⟩
theorem Ow.cellStock {E : TypeId} {B : Nat} {w : World} {g n c : Nat} {xs : List StockI} (h : Ow FStock E B w (some ⟨g, 0, none⟩) n c xs) {k : Nat} (hk : k < n) : w.cell? ⟨g, k * 2, none⟩ = some (.string (bsA (xs.getD k StockI.zero).kd)) ∧ w.cell? ⟨g, k * 2 + 1, none⟩ = some (.int .i64 (xs.getD k StockI.zero).ct) := by
  exact ⟨h.cell hk (j := 0) (by decide), h.cell hk (j := 1) (by decide)⟩
theorem Ow.putStock {E : TypeId} {B : Nat} {w : World} {g n c : Nat} {xs : List StockI} (h : Ow FStock E B w (some ⟨g, 0, none⟩) n c xs) {k : Nat} (hk : k < n) (y : StockI) (hw : FStock.wf y) : Ow FStock E B ((w.setCell ⟨g, k * 2, none⟩ (.string (bsA y.kd))).setCell ⟨g, k * 2 + 1, none⟩ (.int .i64 y.ct)) (some ⟨g, 0, none⟩) n c (xs.set k y) :=
  h.putRec hk y hw
theorem Mem.putStock {E : TypeId} {B : Nat} {w0 w : World} {G G' : List Ent} {g n c : Nat} {xs : List StockI} (h : Mem B w0 w G) {k : Nat} (hk : k < n) (y : StockI) (hw : FStock.wf y) (p : Put G (owE FStock E (some ⟨g, 0, none⟩) n c xs) (owE FStock E (some ⟨g, 0, none⟩) n c (xs.set k y)) G') : Mem B w0 ((w.setCell ⟨g, k * 2, none⟩ (.string (bsA y.kd))).setCell ⟨g, k * 2 + 1, none⟩ (.int .i64 y.ct)) G' :=
  h.put p (setRec_keeps (d := blockOf (some ⟨g, 0, none⟩)) g ⟨_, rfl, rfl⟩ (FStock.enc y) (k * 2) w) ((h.ow p.mem').putStock hk y hw) (fun k hk => .inl hk)
theorem Mem.setStock0 {E : TypeId} {B : Nat} {w0 w : World} {G G' : List Ent} {g n c : Nat} {xs : List StockI} (h : Mem B w0 w G) {k : Nat} (hk : k < n) (s : Bs) (hs : s.length ≤ maxLen) (y : StockI) (hy : xs.getD k StockI.zero = y) (hwf : FStock.wf y) (p : Put G (owE FStock E (some ⟨g, 0, none⟩) n c xs) (owE FStock E (some ⟨g, 0, none⟩) n c (xs.set k { y with kd := s })) G') : Mem B w0 (w.setCell ⟨g, k * 2, none⟩ (.string (bsA s))) G' := by
  subst hy
  have h2 := h.setR (F := FStock) (xs := xs) (i := k) (j := 0) (v := .string (bsA s)) ({ xs.getD k StockI.zero with kd := s } : StockI) p hk (by decide) rfl ⟨hs, hwf.2⟩
  exact h2
theorem Mem.setStock1 {E : TypeId} {B : Nat} {w0 w : World} {G G' : List Ent} {g n c : Nat} {xs : List StockI} (h : Mem B w0 w G) {k : Nat} (hk : k < n) (s : Int) (hs : I64 s) (y : StockI) (hy : xs.getD k StockI.zero = y) (hwf : FStock.wf y) (p : Put G (owE FStock E (some ⟨g, 0, none⟩) n c xs) (owE FStock E (some ⟨g, 0, none⟩) n c (xs.set k { y with ct := s })) G') : Mem B w0 (w.setCell ⟨g, k * 2 + 1, none⟩ (.int .i64 s)) G' := by
  subst hy
  have h2 := h.setR (F := FStock) (xs := xs) (i := k) (j := 1) (v := .int .i64 s) ({ xs.getD k StockI.zero with ct := s } : StockI) p hk (by decide) rfl ⟨hwf.1, hs⟩
  exact h2
theorem szStock_any (x : StockI) (l : Int) (w : World) (hx : x.kd.length ≤ maxLen) (hl : 0 ≤ l ∧ l ≤ 1048576) :
    Calls Try.prog 58 #[x.val, .int .i64 l] w fun e w' => ∃ z : Int, (-1 ≤ z ∧ z ≤ l) ∧ e = .returned (.int .i64 z) ∧ Below w.heap.size w w' := by
  have hM := Mem.start w
  have S1 := bsA_size
  obtain ⟨x0, x1⟩ := x
  dsimp only at hx
  unfold maxLen at hx
  have hw0 : IntKind.i64.wrap (l - (x0.length : Int)) = l - x0.length := wrap_in (by omega)
  by_cases h0 : l - (x0.length : Int) < 0
  · skip
    go_enter Try.func58, Try.ntmps58
    go_wp2
    go_ret
    exact ⟨-1, by omega, rfl, (by apply Mem.below; (repeat' (first | with_reducible exact hM | with_reducible exact hMp | with_reducible apply Mem.drew | with_reducible apply Mem.drewN | with_reducible apply Mem.alloc | with_reducible apply Mem.set | with_reducible exact Sto.row | ((with_reducible refine Sto.rowEq2 ?_ ?_); omega; rfl) | ((with_reducible refine Sto.rowEq ?_); omega) | with_reducible apply Sto.int | with_reducible apply Sto.there | with_reducible assumption | (unfold I64; omega) | (with_reducible (have hMx := Mem.undrew hM; exact hMx)) | (with_reducible (have hMx := Mem.undrew hMp; exact hMx)))))⟩
  go_enter Try.func58, Try.ntmps58
  go_wp2
  go_ret
  exact ⟨l - (x0.length : Int), by omega, rfl, (by apply Mem.below; (repeat' (first | with_reducible exact hM | with_reducible exact hMp | with_reducible apply Mem.drew | with_reducible apply Mem.drewN | with_reducible apply Mem.alloc | with_reducible apply Mem.set | with_reducible exact Sto.row | ((with_reducible refine Sto.rowEq2 ?_ ?_); omega; rfl) | ((with_reducible refine Sto.rowEq ?_); omega) | with_reducible apply Sto.int | with_reducible apply Sto.there | with_reducible assumption | (unfold I64; omega) | (with_reducible (have hMx := Mem.undrew hM; exact hMx)) | (with_reducible (have hMx := Mem.undrew hMp; exact hMx)))))⟩
set_option maxRecDepth 100000 in
set_option maxHeartbeats 4000000 in
theorem szStockS_any (a : Option Addr) (n c : Nat) (xs : List StockI) (l : Int) (w : World) (h : Rd FStock w a n c xs) (hl : 0 ≤ l ∧ l ≤ 1048576) :
    Calls Try.prog 10 #[.slice a n c, .int .i64 l] w fun e w' => ∃ z : Int, (-1 ≤ z ∧ z ≤ l) ∧ (0 ≤ z → (n : Int) + z ≤ l) ∧ e = .returned (.int .i64 z) ∧ Below w.heap.size w w' := by
  have hM := Mem.start w
  have hrm := h.nroom
  have HL := Lib.hid h.len
  by_cases h0 : l - n < 0
  · skip
    go_enter Try.func10, Try.ntmps10
    go_wp2
    go_ret
    exact ⟨-1, by omega, fun h => by omega, rfl, (by apply Mem.below; (repeat' (first | with_reducible exact hM | with_reducible exact hMp | with_reducible apply Mem.drew | with_reducible apply Mem.drewN | with_reducible apply Mem.alloc | with_reducible apply Mem.set | with_reducible exact Sto.row | ((with_reducible refine Sto.rowEq2 ?_ ?_); omega; rfl) | ((with_reducible refine Sto.rowEq ?_); omega) | with_reducible apply Sto.int | with_reducible apply Sto.there | with_reducible assumption | (unfold I64; omega) | (with_reducible (have hMx := Mem.undrew hM; exact hMx)) | (with_reducible (have hMx := Mem.undrew hMp; exact hMx)))))⟩
  have hwr : IntKind.i64.wrap (l - (n : Int)) = l - n := wrap_in (by omega)
  go_enter Try.func10, Try.ntmps10
  go_wp2_with fail
  go_loopw [1, 5] (fun s1 s5 wr => ∃ (k : Nat) (z : Int), k ≤ n ∧ s5 = .int .i64 k ∧ s1 = .int .i64 z ∧ (0 ≤ z ∧ z + n ≤ l) ∧ Mem w.heap.size w wr []) (fun _ s5 _ => n - (intOf s5).toNat)
  case atStart => exact ⟨0, l - n, Nat.zero_le _, rfl, by rw [← hwr], by omega, hM⟩
  case round =>
    clear hM
    obtain ⟨k, z, hk, rfl, rfl, hz, hM⟩ := hrel
    by_cases hlt : k < n
    · obtain ⟨bl, offl, rfl, -, -⟩ := h.at' _ hlt
      obtain ⟨-, hc0, hc1⟩ := (h.ext hM.below).cellStock hlt
      have hwf := h.wf (xs.getD k StockI.zero) (by
        rw [List.getD_eq_getElem?_getD, List.getElem?_eq_getElem (by rw [HL.out]; exact hlt)]
        exact List.getElem_mem _)
      obtain ⟨v, hv⟩ : ∃ v, xs.getD k StockI.zero = v := ⟨_, rfl⟩
      rw [hv] at hc0 hc1 hwf
      clear hv
      have i0 : (0 : Int) ≤ (k : Int) := by omega
      have i1 : (k : Int) < (n : Int) := by omega
      go_wp2_with fail
      apply Mem.atA
      · (repeat' (first | with_reducible exact hM | with_reducible exact hMp | with_reducible apply Mem.drew | with_reducible apply Mem.drewN | with_reducible apply Mem.alloc | with_reducible apply Mem.set | with_reducible exact Sto.row | ((with_reducible refine Sto.rowEq2 ?_ ?_); omega; rfl) | ((with_reducible refine Sto.rowEq ?_); omega) | with_reducible apply Sto.int | with_reducible apply Sto.there | with_reducible assumption | (unfold I64; omega) | (with_reducible (have hMx := Mem.undrew hM; exact hMx)) | (with_reducible (have hMx := Mem.undrew hMp; exact hMx))))
      clear hM
      intro wst hM
      (try simp only [World.size_alloc, World.size_setCell, World.heap_drewN, heapDrew, Nat.add_assoc, Nat.reduceAdd, List.setIfInBounds_toArray, List.set_cons_zero, List.set_cons_succ, List.cons_append, List.nil_append] at hM)
      refine (szStock_any v z _ hwf.1 (by omega)).mono ?_
      rintro e w1 ⟨z2, hz2, rfl, hb⟩
      replace hM := hM.ext hb
      clear hb
      by_cases h2 : z2 < 0
      · go_wp2
        go_ret
        exact ⟨-1, by omega, fun h => by omega, rfl, (by apply Mem.below; (repeat' (first | with_reducible exact hM | with_reducible exact hMp | with_reducible apply Mem.drew | with_reducible apply Mem.drewN | with_reducible apply Mem.alloc | with_reducible apply Mem.set | with_reducible exact Sto.row | ((with_reducible refine Sto.rowEq2 ?_ ?_); omega; rfl) | ((with_reducible refine Sto.rowEq ?_); omega) | with_reducible apply Sto.int | with_reducible apply Sto.there | with_reducible assumption | (unfold I64; omega) | (with_reducible (have hMx := Mem.undrew hM; exact hMx)) | (with_reducible (have hMx := Mem.undrew hMp; exact hMx)))))⟩
      · go_wp2
        go_roundw
        case rel => exact ⟨k + 1, z2, by omega, by go_num, rfl, by omega, hM⟩
        case measure => simp [intOf]; omega
    · obtain rfl : k = n := by omega
      go_wp2
      go_ret
      exact ⟨z, by omega, fun _ => by omega, rfl, (by apply Mem.below; (repeat' (first | with_reducible exact hM | with_reducible exact hMp | with_reducible apply Mem.drew | with_reducible apply Mem.drewN | with_reducible apply Mem.alloc | with_reducible apply Mem.set | with_reducible exact Sto.row | ((with_reducible refine Sto.rowEq2 ?_ ?_); omega; rfl) | ((with_reducible refine Sto.rowEq ?_); omega) | with_reducible apply Sto.int | with_reducible apply Sto.there | with_reducible assumption | (unfold I64; omega) | (with_reducible (have hMx := Mem.undrew hM; exact hMx)) | (with_reducible (have hMx := Mem.undrew hMp; exact hMx)))))⟩
set_option maxRecDepth 100000 in
set_option maxHeartbeats 1000000 in
theorem toStock_any (x0 : Bs) (x1 : Int) (w : World) :
    Calls Try.prog 63 #[.agg #[.string (bsA x0), .int .i64 x1]] w fun o w' => o = .returned (.agg #[.string (bsA x0), .int .i64 x1]) ∧ Below w.heap.size w w' := by
  go_enter Try.func63, Try.ntmps63
  have R1 := (Row.new (w.alloc (.cells #[.string (bsA x0), .int .i64 x1] 85)) (w.heap.size + 1) (by simp) #[.string ⟨#[]⟩, .int .i64 0] 46)
  go_wp2
  refine bodyPost_ret (v := .agg #[.string (bsA x0), .int .i64 x1]) (by simp [results, Try.results63, go_sem, R1.cell]) rfl ⟨rfl, ?_⟩
  (repeat' (first | exact Below.refl _ _ | with_reducible refine Below.setCell ?_ (by first | omega | (simp; done) | (simp; omega)) _ | with_reducible refine Below.alloc ?_ (by first | omega | (simp; done) | (simp; omega)) _ | with_reducible refine Below.drew ?_ | with_reducible refine bdrewN ?_ _))
theorem Try.info46 : (Try.prog.info? 46).map (fun i => (i.zero, i.size, i.bytes)) = some (some (.agg #[.string ⟨#[]⟩, .int .i64 0]), 2, 24) := by kernel_rfl
set_option maxRecDepth 100000 in
set_option maxHeartbeats 1000000 in
theorem toStockS_any (a : Option Addr) (n c : Nat) (xs : List StockI) (w : World) (h : Rd FStock w a n c xs) (hn6 : n ≤ 1048576) :
    Calls Try.prog 13 #[.slice a n c] w fun e w' => ∃ a' c', e = .returned (.slice a' n c') ∧ Ow FStock 46 w.heap.size w' a' n c' xs ∧ Below w.heap.size w w' := by
  have hn := h.cap
  have hc := h.nroom
  have hr : n * 2 ≤ 17592186044416 := h.room
  have HL := Lib.hid h.len
  have HW := Lib.hid h.wf
  obtain ⟨i0, hi, hz0, hz1, hz2⟩ := info_parts Try.info46
  go_enter Try.func13, Try.ntmps13
  go_wp2_with (at_make; refine wpList_make_full _ rfl _ _ 30 rfl w.heap.size 46 i0 (.agg #[.string ⟨#[]⟩, .int .i64 0]) 2 Try.underlying30 hi hz0 hz1 .i64 .i64 n n n rfl rfl rfl rfl ?b1 ?b2 ?b3 ?_)
  case b1 => rw [hz2]; omega
  case b2 => unfold maxLen; omega
  case b3 => exact Nat.le_refl _
  intro w1 hown hg
  have hO : Ow FStock 46 w.heap.size w1 (some ⟨w.heap.size, 0, none⟩) n n (List.replicate n StockI.zero) := ow_made (zs := #[.string ⟨#[]⟩, .int .i64 0]) rfl hown hr (by refine ⟨?_, ?_⟩ <;> first | (show I64 0; unfold I64; omega) | exact Nat.zero_le _)
  have hb1 : Below w.heap.size w w1 := (Below.refl _ _).grown hg (Nat.le_refl _) (by intro k hk; cases hk)
  have hM0 : Mem w.heap.size w w1 [owE FStock 46 (some ⟨w.heap.size, 0, none⟩) n n (List.replicate n StockI.zero)] := (Mem.start w).owned hb1 hO
  clear hown hg hO hb1
  go_wp2
  go_loopw [4] (fun i wr => ∃ k : Nat, k ≤ n ∧ i = .int .i64 k ∧ Mem w.heap.size w wr [owE FStock 46 (some ⟨w.heap.size, 0, none⟩) n n (xs.take k ++ List.replicate (n - k) StockI.zero)]) (fun i _ => n - (intOf i).toNat)
  case atStart => exact ⟨0, Nat.zero_le _, rfl, by simpa using hM0⟩
  case round =>
    obtain ⟨k, hk, rfl, hM⟩ := hrel
    by_cases hlt : k < n
    · obtain ⟨b, off, rfl, _⟩ := (h.ext hM.below).at' _ hlt
      obtain ⟨hb, hc0, hc1⟩ := (h.ext hM.below).cellStock hlt
      obtain ⟨hd0, hd1⟩ := (hM.ow .here).cellStock hlt
      have hfz := (hM.ow .here).free
      have hmem := HW.out _ (List.mem_of_getElem? (show xs[k]? = some (xs.getD k StockI.zero) by rw [List.getD_eq_getElem?_getD, List.getElem?_eq_getElem (by rw [HL.out]; exact hlt)]; rfl))
      have HM := Lib.hid hmem; clear hmem
      obtain ⟨x, hx⟩ : ∃ x, xs.getD k StockI.zero = x := ⟨_, rfl⟩
      rw [hx] at hc0 hc1 HM
      obtain ⟨y, hy⟩ : ∃ y, (xs.take k ++ List.replicate (n - k) StockI.zero).getD k StockI.zero = y := ⟨_, rfl⟩
      rw [hy] at hd0 hd1
      clear hy
      have HX := Lib.hid hx; clear hx
      obtain ⟨x0, x1⟩ := x
      obtain ⟨y0, y1⟩ := y
      dsimp only at hc0 hc1 hd0 hd1
      have hwr : w.heap.size < wr.heap.size := ((hM.ow .here).till _ ⟨_, rfl, rfl⟩)
      go_wp2_with fail
      refine (toStock_any x0 x1 _).mono ?_
      rintro e w2 ⟨rfl, hb2⟩
      replace hM := hM.ext hb2
      clear hc0 hc1 hd0 hd1 hfz hb2 hwr
      obtain ⟨y, hy⟩ : ∃ y, (xs.take k ++ List.replicate (n - k) StockI.zero).getD k StockI.zero = y := ⟨_, rfl⟩
      obtain ⟨hd0, hd1⟩ := (hM.ow .here).cellStock hlt
      have hfz := (hM.ow .here).free
      rw [hy] at hd0 hd1
      clear hy
      obtain ⟨y0, y1⟩ := y
      dsimp only at hd0 hd1
      go_wp2
      go_roundw
      case rel => exact ⟨k + 1, by omega, by go_num, by
        have := hM.putStock hlt _ HM.out .here
        rw [set_take_repV (by rw [HL.out]; exact hlt) hlt HX.out] at this
        exact this⟩
      case measure => simp [intOf]; omega
    · go_wp2
      go_ret
      obtain rfl : k = n := by omega
      have hO := hM.ow .here
      rw [List.take_of_length_le (by rw [HL.out]; exact Nat.le_refl _), Nat.sub_self, List.replicate_zero, List.append_nil] at hO
      exact ⟨_, _, rfl, hO, hM.below⟩
set_option maxRecDepth 100000 in
set_option maxHeartbeats 1000000 in
theorem eqStock_same (x : StockI) (w : World) :
    Calls Try.prog 67 #[x.val, x.val] w fun o w' => o = .returned (.bool true) ∧ Below w.heap.size w w' := by
  obtain ⟨x0, x1⟩ := x
  have hn0 : (x0 != x0) = false := by simp
  have hn1 : (x1 != x1) = false := by simp
  have S3 := bsA_list
  go_enter Try.func67, Try.ntmps67
  go_wp2
  go_ret
  exact ⟨rfl, by (repeat' (first | exact Below.refl _ _ | with_reducible refine Below.setCell ?_ (by first | omega | (simp; done) | (simp; omega)) _ | with_reducible refine Below.alloc ?_ (by first | omega | (simp; done) | (simp; omega)) _ | with_reducible refine Below.drew ?_ | with_reducible refine bdrewN ?_ _))⟩
set_option maxRecDepth 100000 in
set_option maxHeartbeats 4000000 in
theorem eqStockS_any (a : Option Addr) (n c : Nat) (xs : List StockI) (a2 : Option Addr) (n2 c2 : Nat) (w : World) (h : Rd FStock w a n c xs) (h2 : Rd FStock w a2 n2 c2 xs) :
    Calls Try.prog 16 #[.slice a n c, .slice a2 n2 c2] w fun e w' => e = .returned (.bool true) ∧ Below w.heap.size w w' := by
  have hM := Mem.start w
  obtain rfl : n = n2 := h.len.symm.trans h2.len
  have HL := Lib.hid h.len
  have hrm := h.nroom
  have hne : ((n : Int) != (n : Int)) = false := by simp
  go_enter Try.func16, Try.ntmps16
  go_wp2_with fail
  go_loopw [5] (fun i wr => ∃ k : Nat, k ≤ n ∧ i = .int .i64 k ∧ Mem w.heap.size w wr []) (fun i _ => n - (intOf i).toNat)
  case atStart => exact ⟨0, Nat.zero_le _, rfl, hM⟩
  case round =>
    clear hM
    obtain ⟨k, hk, rfl, hM⟩ := hrel
    by_cases hlt : k < n
    · obtain ⟨b, off, rfl, -, -⟩ := h.at' _ hlt
      obtain ⟨b2, off2, rfl, -, -⟩ := h2.at' _ hlt
      obtain ⟨x, hxx⟩ : ∃ x, xs.getD k StockI.zero = x := ⟨_, rfl⟩
      have HX := Lib.hid hxx
      clear hxx
      have i0 : (0 : Int) ≤ (k : Int) := by omega
      have i1 : (k : Int) < (n : Int) := by omega
      go_wp2_with fail
      apply Mem.atWpA
      · (repeat' (first | with_reducible exact hM | with_reducible exact hMp | with_reducible apply Mem.drew | with_reducible apply Mem.drewN | with_reducible apply Mem.alloc | with_reducible apply Mem.set | with_reducible exact Sto.row | ((with_reducible refine Sto.rowEq2 ?_ ?_); omega; rfl) | ((with_reducible refine Sto.rowEq ?_); omega) | with_reducible apply Sto.int | with_reducible apply Sto.there | with_reducible assumption | (unfold I64; omega) | (with_reducible (have hMx := Mem.undrew hM; exact hMx)) | (with_reducible (have hMx := Mem.undrew hMp; exact hMx))))
      clear hM
      intro wst hM
      (try simp only [World.size_alloc, World.size_setCell, World.heap_drewN, heapDrew, Nat.add_assoc, Nat.reduceAdd, List.setIfInBounds_toArray, List.set_cons_zero, List.set_cons_succ, List.cons_append, List.nil_append] at hM)
      refine AtT.startA hM hM 9 (by kernel_rfl) ?_
      clear hM
      intro wd hM
      have hS := hM
      refine AtT.taked (i := 0) (v := ?_) (some 17) rfl rfl (by kernel_rfl) (by kernel_rfl) (by kernel_rfl) (by kernel_rfl) (fun _ _ _ h => h) (Or.inl ⟨by kernel_rfl, ?_⟩) hS ?_
      rotate_left
      · (intro wS hSw; (try dsimp only at hSw); go_simp; (try rw [if_neg (by omega)]); try with_reducible rfl)
      simp only [Act.put, List.setIfInBounds_toArray, List.set_cons_zero, List.set_cons_succ]
      refine AtT.taked (i := 1) (v := ?_) (some 18) rfl rfl (by kernel_rfl) (by kernel_rfl) (by kernel_rfl) (by kernel_rfl) (fun _ _ _ h => h) (Or.inl ⟨by kernel_rfl, ?_⟩) hS ?_
      rotate_left
      · (intro wS hSw; (try dsimp only at hSw); go_simp; (try rw [if_neg (by omega)]); try with_reducible rfl)
      simp only [Act.put, List.setIfInBounds_toArray, List.set_cons_zero, List.set_cons_succ]
      refine AtT.taked (i := 2) (v := ?_) (some 19) rfl rfl (by kernel_rfl) (by kernel_rfl) (by kernel_rfl) (by kernel_rfl) (fun _ _ _ h => h) (Or.inl ⟨by kernel_rfl, ?_⟩) hS ?_
      rotate_left
      · (intro wS hSw; (try dsimp only at hSw); have hcx := (h.ext hSw.below).cellStock hlt; have hcy := (h2.ext hSw.below).cellStock hlt; rw [HX.out] at hcx hcy; have hx0 := hcx.2.1; have hx1 := hcx.2.2; have hy0 := hcy.2.1; have hy1 := hcy.2.2; go_simp; (try rw [if_neg (by omega)]); try with_reducible rfl)
      simp only [Act.put, List.setIfInBounds_toArray, List.set_cons_zero, List.set_cons_succ]
      refine AtT.taked (i := 3) (v := ?_) (some 20) rfl rfl (by kernel_rfl) (by kernel_rfl) (by kernel_rfl) (by kernel_rfl) (fun _ _ _ h => h) (Or.inl ⟨by kernel_rfl, ?_⟩) hS ?_
      rotate_left
      · (intro wS hSw; (try dsimp only at hSw); have hcx := (h.ext hSw.below).cellStock hlt; have hcy := (h2.ext hSw.below).cellStock hlt; rw [HX.out] at hcx hcy; have hx0 := hcx.2.1; have hx1 := hcx.2.2; have hy0 := hcy.2.1; have hy1 := hcy.2.2; go_simp; (try rw [if_neg (by omega)]); try with_reducible rfl)
      simp only [Act.put, List.setIfInBounds_toArray, List.set_cons_zero, List.set_cons_succ]
      refine AtT.taked (i := 4) (v := ?_) (some 21) rfl rfl (by kernel_rfl) (by kernel_rfl) (by kernel_rfl) (by kernel_rfl) (fun _ _ _ h => h) (Or.inl ⟨by kernel_rfl, ?_⟩) hS ?_
      rotate_left
      · (intro wS hSw; (try dsimp only at hSw); go_simp; (try rw [if_neg (by omega)]); try with_reducible rfl)
      simp only [Act.put, List.setIfInBounds_toArray, List.set_cons_zero, List.set_cons_succ]
      refine AtT.taked (i := 5) (v := ?_) (some 22) rfl rfl (by kernel_rfl) (by kernel_rfl) (by kernel_rfl) (by kernel_rfl) (fun _ _ _ h => h) (Or.inl ⟨by kernel_rfl, ?_⟩) hS ?_
      rotate_left
      · (intro wS hSw; (try dsimp only at hSw); go_simp; (try rw [if_neg (by omega)]); try with_reducible rfl)
      simp only [Act.put, List.setIfInBounds_toArray, List.set_cons_zero, List.set_cons_succ]
      refine AtT.taked (i := 6) (v := ?_) (some 23) rfl rfl (by kernel_rfl) (by kernel_rfl) (by kernel_rfl) (by kernel_rfl) (fun _ _ _ h => h) (Or.inl ⟨by kernel_rfl, ?_⟩) hS ?_
      rotate_left
      · (intro wS hSw; (try dsimp only at hSw); have hcx := (h.ext hSw.below).cellStock hlt; have hcy := (h2.ext hSw.below).cellStock hlt; rw [HX.out] at hcx hcy; have hx0 := hcx.2.1; have hx1 := hcx.2.2; have hy0 := hcy.2.1; have hy1 := hcy.2.2; go_simp; (try rw [if_neg (by omega)]); try with_reducible rfl)
      simp only [Act.put, List.setIfInBounds_toArray, List.set_cons_zero, List.set_cons_succ]
      refine AtT.taked (i := 7) (v := ?_) (some 24) rfl rfl (by kernel_rfl) (by kernel_rfl) (by kernel_rfl) (by kernel_rfl) (fun _ _ _ h => h) (Or.inl ⟨by kernel_rfl, ?_⟩) hS ?_
      rotate_left
      · (intro wS hSw; (try dsimp only at hSw); have hcx := (h.ext hSw.below).cellStock hlt; have hcy := (h2.ext hSw.below).cellStock hlt; rw [HX.out] at hcx hcy; have hx0 := hcx.2.1; have hx1 := hcx.2.2; have hy0 := hcy.2.1; have hy1 := hcy.2.2; go_simp; (try rw [if_neg (by omega)]); try with_reducible rfl)
      simp only [Act.put, List.setIfInBounds_toArray, List.set_cons_zero, List.set_cons_succ]
      refine AtT.only (i := 8) (by kernel_rfl) rfl rfl ?_
      intro K hK
      go_simp
      refine (eqStock_same x _).mono ?_
      rintro e w3 ⟨rfl, hb9⟩
      replace hM := hM.ext hb9
      clear hb9
      try dsimp only
      refine hK.out _ _ (hM) ?_
      clear hK K hS
      have hS := hM
      refine AtT.last (by kernel_rfl) rfl (by kernel_rfl) ?_
      intro K hK
      clear hS
      go_simp
      refine hK.out _ _ ?_
      clear hK K
      go_wp2
      go_roundw
      case rel => exact ⟨k + 1, by omega, by go_num, by (repeat' (first | with_reducible exact hM | with_reducible exact hMp | with_reducible apply Mem.drew | with_reducible apply Mem.drewN | with_reducible apply Mem.alloc | with_reducible apply Mem.set | with_reducible exact Sto.row | ((with_reducible refine Sto.rowEq2 ?_ ?_); omega; rfl) | ((with_reducible refine Sto.rowEq ?_); omega) | with_reducible apply Sto.int | with_reducible apply Sto.there | with_reducible assumption | (unfold I64; omega) | (with_reducible (have hMx := Mem.undrew hM; exact hMx)) | (with_reducible (have hMx := Mem.undrew hMp; exact hMx))))⟩
      case measure => simp [intOf]; omega
    · obtain rfl : k = n := by omega
      go_wp2
      go_ret
      exact ⟨rfl, (by apply Mem.below; (repeat' (first | with_reducible exact hM | with_reducible exact hMp | with_reducible apply Mem.drew | with_reducible apply Mem.drewN | with_reducible apply Mem.alloc | with_reducible apply Mem.set | with_reducible exact Sto.row | ((with_reducible refine Sto.rowEq2 ?_ ?_); omega; rfl) | ((with_reducible refine Sto.rowEq ?_); omega) | with_reducible apply Sto.int | with_reducible apply Sto.there | with_reducible assumption | (unfold I64; omega) | (with_reducible (have hMx := Mem.undrew hM; exact hMx)) | (with_reducible (have hMx := Mem.undrew hMp; exact hMx)))))⟩
end Go.Proofs.Ytfnaenekdenmkaa
