/-
  The laws' sz, to, eq over notes.
-/
import Derived.Test.YtjnbdgldpmmamaaMFlNote
import Derived.Test.YtjnbdgldpmmamaaMRegF
import Derived.Deep.DeepCutAuto
/-
  The laws' sz, to, eq over notes.
-/
namespace Go.Proofs.Ytjnbdgldpmmamaa
set_option linter.unusedSimpArgs false
set_option linter.unusedVariables false
open Go.RowKit

/-- how many numbers the clocks have -/
def clkN : List NoteI → Nat
  | [] => 0
  | x :: xs => x.n + clkN xs
theorem clkN_snoc (x : NoteI) : ∀ xs : List NoteI, clkN (xs ++ [x]) = clkN xs + x.n
  | [] => by simp [clkN]
  | y :: ys => by
    have := clkN_snoc x ys
    rw [List.cons_append, clkN, this, clkN]
    omega
theorem clkN_take {xs : List NoteI} {k : Nat} (h : k < xs.length) : clkN (xs.take (k + 1)) = clkN (xs.take k) + (xs.getD k NoteI.zero).n := by
  have : xs.take (k + 1) = xs.take k ++ [xs.getD k NoteI.zero] := take_succV h
  rw [this, clkN_snoc]
theorem clkN_core : ∀ {xs ys : List NoteI}, (∀ x ∈ xs, x.cl.length = x.n) → (∀ x ∈ ys, x.cl.length = x.n) → coreN xs = coreN ys → clkN xs = clkN ys
  | [], [], _, _, _ => rfl
  | [], _ :: _, _, _, h => by simp [coreN] at h
  | _ :: _, [], _, _, h => by simp [coreN] at h
  | x :: xs, y :: ys, h1, h2, h => by
    simp only [coreN, List.map_cons, List.cons.injEq] at h
    have := clkN_core (fun z hz => h1 z (List.mem_cons_of_mem _ hz)) (fun z hz => h2 z (List.mem_cons_of_mem _ hz)) h.2
    have e : x.cl = y.cl := congrArg NoteC.cl h.1
    have e1 := h1 x (List.mem_cons_self ..)
    have e2 := h2 y (List.mem_cons_self ..)
    rw [clkN, clkN, this, ← e1, ← e2, e]
theorem RdN.lens {w : World} {a : Option Addr} {n c : Nat} {xs : List NoteI} (h : RdN w a n c xs) : ∀ x ∈ xs, x.cl.length = x.n := fun x hx => (h.cl x hx).len

theorem szNote_any (x : NoteI) (l : Int) (w : World) (hx : x.n ≤ 17592186044416) (hwd : x.wd.length ≤ maxLen) (hl : 0 ≤ l ∧ l ≤ 1048576) :
    Calls Try.prog 26 #[x.val, .int .i64 l] w fun e w' => ∃ z : Int, (-1 ≤ z ∧ z ≤ l) ∧ (0 ≤ z → (x.n : Int) + z ≤ l) ∧ e = .returned (.int .i64 z) ∧ Below w.heap.size w w' := by
  have hM := Mem.start w
  have S1 := bsA_size
  obtain ⟨un, sq, ad, n, c, cl, wd⟩ := x
  dsimp only at hx hwd ⊢
  unfold maxLen at hwd
  obtain ⟨z, hz⟩ : ∃ z, szF n l = z := ⟨_, rfl⟩
  have hzb : (-1 ≤ z ∧ z ≤ l) ∧ (0 ≤ z → (n : Int) + z ≤ l) := by rw [← hz]; unfold szF; split <;> omega
  have HZ := Lib.hid hz; clear hz
  have hw0 : IntKind.i64.wrap (z - (wd.length : Int)) = z - wd.length := wrap_in (by omega)
  go_enter Try.func26, Try.ntmps26
  go_upto_region 1 with fail
  apply Mem.atWpA
  · (repeat' (first | with_reducible exact hM | with_reducible exact hMp | with_reducible apply Mem.drew | with_reducible apply Mem.drewN | with_reducible apply Mem.alloc | with_reducible apply Mem.set | with_reducible exact Sto.row | ((with_reducible refine Sto.rowEq2 ?_ ?_); omega; rfl) | ((with_reducible refine Sto.rowEq ?_); omega) | with_reducible apply Sto.int | with_reducible apply Sto.there | with_reducible assumption | (unfold I64; omega) | (with_reducible (have hMx := Mem.undrew hM; exact hMx)) | (with_reducible (have hMx := Mem.undrew hMp; exact hMx))))
  clear hM
  intro wst hM
  (try simp only [World.size_alloc, World.size_setCell, World.heap_drewN, heapDrew, Nat.add_assoc, Nat.reduceAdd, List.setIfInBounds_toArray, List.set_cons_zero, List.set_cons_succ, List.cons_append, List.nil_append] at hM)
  obtain ⟨k0, f0, l0⟩ := hM.row .here
  go_wp2_with fail
  refine (szIntS_any ad n c l _ hx (by omega)).mono ?_
  rw [HZ.out]
  rintro e w1 ⟨rfl, rfl⟩
  by_cases h0 : z < 0
  · go_wp2
    go_ret
    exact ⟨-1, by omega, by omega, rfl, (by apply Mem.below; (repeat' (first | with_reducible exact hM | with_reducible exact hMp | with_reducible apply Mem.drew | with_reducible apply Mem.drewN | with_reducible apply Mem.alloc | with_reducible apply Mem.set | with_reducible exact Sto.row | ((with_reducible refine Sto.rowEq2 ?_ ?_); omega; rfl) | ((with_reducible refine Sto.rowEq ?_); omega) | with_reducible apply Sto.int | with_reducible apply Sto.there | with_reducible assumption | (unfold I64; omega) | (with_reducible (have hMx := Mem.undrew hM; exact hMx)) | (with_reducible (have hMx := Mem.undrew hMp; exact hMx)))))⟩
  · by_cases h1 : z - (wd.length : Int) < 0
    · go_wp2
      go_ret
      exact ⟨-1, by omega, by omega, rfl, (by apply Mem.below; (repeat' (first | with_reducible exact hM | with_reducible exact hMp | with_reducible apply Mem.drew | with_reducible apply Mem.drewN | with_reducible apply Mem.alloc | with_reducible apply Mem.set | with_reducible exact Sto.row | ((with_reducible refine Sto.rowEq2 ?_ ?_); omega; rfl) | ((with_reducible refine Sto.rowEq ?_); omega) | with_reducible apply Sto.int | with_reducible apply Sto.there | with_reducible assumption | (unfold I64; omega) | (with_reducible (have hMx := Mem.undrew hM; exact hMx)) | (with_reducible (have hMx := Mem.undrew hMp; exact hMx)))))⟩
    · go_wp2
      go_ret
      exact ⟨z - (wd.length : Int), by omega, by omega, rfl, (by apply Mem.below; (repeat' (first | with_reducible exact hM | with_reducible exact hMp | with_reducible apply Mem.drew | with_reducible apply Mem.drewN | with_reducible apply Mem.alloc | with_reducible apply Mem.set | with_reducible exact Sto.row | ((with_reducible refine Sto.rowEq2 ?_ ?_); omega; rfl) | ((with_reducible refine Sto.rowEq ?_); omega) | with_reducible apply Sto.int | with_reducible apply Sto.there | with_reducible assumption | (unfold I64; omega) | (with_reducible (have hMx := Mem.undrew hM; exact hMx)) | (with_reducible (have hMx := Mem.undrew hMp; exact hMx)))))⟩
set_option maxRecDepth 100000 in
set_option maxHeartbeats 4000000 in
theorem szNoteS_any (a : Option Addr) (n c : Nat) (xs : List NoteI) (l : Int) (w : World) (h : RdN w a n c xs) (hl : 0 ≤ l ∧ l ≤ 1048576) :
    Calls Try.prog 5 #[.slice a n c, .int .i64 l] w fun e w' => ∃ z : Int, (-1 ≤ z ∧ z ≤ l) ∧ (0 ≤ z → (n : Int) + (clkN xs : Int) + z ≤ l) ∧ e = .returned (.int .i64 z) ∧ Below w.heap.size w w' := by
  have hM := Mem.start w
  have hrm := h.rd.nroom
  have HL := Lib.hid h.rd.len
  have HWF := Lib.hid h.rd.wf
  by_cases h0 : l - n < 0
  · skip
    go_enter Try.func5, Try.ntmps5
    go_wp2
    go_ret
    exact ⟨-1, by omega, fun h => by omega, rfl, (by apply Mem.below; (repeat' (first | with_reducible exact hM | with_reducible exact hMp | with_reducible apply Mem.drew | with_reducible apply Mem.drewN | with_reducible apply Mem.alloc | with_reducible apply Mem.set | with_reducible exact Sto.row | ((with_reducible refine Sto.rowEq2 ?_ ?_); omega; rfl) | ((with_reducible refine Sto.rowEq ?_); omega) | with_reducible apply Sto.int | with_reducible apply Sto.there | with_reducible assumption | (unfold I64; omega) | (with_reducible (have hMx := Mem.undrew hM; exact hMx)) | (with_reducible (have hMx := Mem.undrew hMp; exact hMx)))))⟩
  have hwr : IntKind.i64.wrap (l - (n : Int)) = l - n := wrap_in (by omega)
  go_enter Try.func5, Try.ntmps5
  go_wp2_with fail
  go_loopw [1, 5] (fun s1 s5 wr => ∃ (k : Nat) (z : Int), k ≤ n ∧ s5 = .int .i64 k ∧ s1 = .int .i64 z ∧ (0 ≤ z ∧ (clkN (xs.take k) : Int) + z + n ≤ l) ∧ Mem w.heap.size w wr []) (fun _ s5 _ => n - (intOf s5).toNat)
  case atStart => exact ⟨0, l - n, Nat.zero_le _, rfl, by rw [← hwr], ⟨by omega, by rw [List.take_zero]; show ((0 : Nat) : Int) + _ + _ ≤ _; omega⟩, hM⟩
  case round =>
    clear hM
    obtain ⟨k, z, hk, rfl, rfl, hz, hM⟩ := hrel
    by_cases hlt : k < n
    · obtain ⟨bl, offl, rfl, -, -⟩ := h.rd.at' _ hlt
      obtain ⟨-, hc0, hc1, hc2, hc3⟩ := (h.rd.ext hM.below).cellNote hlt
      have hph := (h.get hlt).room
      have hwf := (HWF.out _ (show xs.getD k NoteI.zero ∈ xs by
        rw [List.getD_eq_getElem?_getD, List.getElem?_eq_getElem (by rw [HL.out]; exact hlt)]
        exact List.getElem_mem _)).2.2
      have hck := clkN_take (xs := xs) (k := k) (by rw [HL.out]; exact hlt)
      obtain ⟨v, hv⟩ : ∃ v, xs.getD k NoteI.zero = v := ⟨_, rfl⟩
      rw [hv] at hc0 hc1 hc2 hc3 hph hwf hck
      have HCK := Lib.hid hck
      generalize clkN (xs.take k) = q at hz HCK
      clear hv hck
      have i0 : (0 : Int) ≤ (k : Int) := by omega
      have i1 : (k : Int) < (n : Int) := by omega
      go_wp2_with fail
      apply Mem.atA
      · (repeat' (first | with_reducible exact hM | with_reducible exact hMp | with_reducible apply Mem.drew | with_reducible apply Mem.drewN | with_reducible apply Mem.alloc | with_reducible apply Mem.set | with_reducible exact Sto.row | ((with_reducible refine Sto.rowEq2 ?_ ?_); omega; rfl) | ((with_reducible refine Sto.rowEq ?_); omega) | with_reducible apply Sto.int | with_reducible apply Sto.there | with_reducible assumption | (unfold I64; omega) | (with_reducible (have hMx := Mem.undrew hM; exact hMx)) | (with_reducible (have hMx := Mem.undrew hMp; exact hMx))))
      clear hM
      intro wst hM
      (try simp only [World.size_alloc, World.size_setCell, World.heap_drewN, heapDrew, Nat.add_assoc, Nat.reduceAdd, List.setIfInBounds_toArray, List.set_cons_zero, List.set_cons_succ, List.cons_append, List.nil_append] at hM)
      refine (szNote_any v z _ hph hwf (by omega)).mono ?_
      rintro e w1 ⟨z2, hz2, hz3, rfl, hb⟩
      replace hM := hM.ext hb
      clear hb
      by_cases h2 : z2 < 0
      · go_wp2
        go_ret
        exact ⟨-1, by omega, fun h => by omega, rfl, (by apply Mem.below; (repeat' (first | with_reducible exact hM | with_reducible exact hMp | with_reducible apply Mem.drew | with_reducible apply Mem.drewN | with_reducible apply Mem.alloc | with_reducible apply Mem.set | with_reducible exact Sto.row | ((with_reducible refine Sto.rowEq2 ?_ ?_); omega; rfl) | ((with_reducible refine Sto.rowEq ?_); omega) | with_reducible apply Sto.int | with_reducible apply Sto.there | with_reducible assumption | (unfold I64; omega) | (with_reducible (have hMx := Mem.undrew hM; exact hMx)) | (with_reducible (have hMx := Mem.undrew hMp; exact hMx)))))⟩
      · go_wp2
        go_roundw
        case rel => exact ⟨k + 1, z2, by omega, by go_num, rfl, by rw [HCK.out]; push_cast; omega, hM⟩
        case measure => simp [intOf]; omega
    · obtain rfl : k = n := by omega
      rw [List.take_of_length_le (by rw [HL.out]; exact Nat.le_refl _)] at hz
      go_wp2
      go_ret
      exact ⟨z, by omega, fun _ => by omega, rfl, (by apply Mem.below; (repeat' (first | with_reducible exact hM | with_reducible exact hMp | with_reducible apply Mem.drew | with_reducible apply Mem.drewN | with_reducible apply Mem.alloc | with_reducible apply Mem.set | with_reducible exact Sto.row | ((with_reducible refine Sto.rowEq2 ?_ ?_); omega; rfl) | ((with_reducible refine Sto.rowEq ?_); omega) | with_reducible apply Sto.int | with_reducible apply Sto.there | with_reducible assumption | (unfold I64; omega) | (with_reducible (have hMx := Mem.undrew hM; exact hMx)) | (with_reducible (have hMx := Mem.undrew hMp; exact hMx)))))⟩

set_option maxRecDepth 100000 in
set_option maxHeartbeats 4000000 in
theorem toNote_any (x : NoteI) (w : World) (h : Ints w x.ad x.n x.c x.cl) :
    Calls Try.prog 32 #[x.val] w fun e w' => ∃ a' c', e = .returned (.agg #[.int .i64 x.un, .int .i64 x.sq, .slice a' x.n c', .string (bsA x.wd)]) ∧ Mem w.heap.size w w' [intE a' x.n c' x.cl] := by
  have hM := Mem.start w
  obtain ⟨un, sq, ad, n, c, cl, wd⟩ := x
  dsimp only at h ⊢
  go_enter Try.func32, Try.ntmps32
  go_upto_region 4 with fail
  apply Mem.atWpA
  · (repeat' (first | with_reducible exact hM | with_reducible exact hMp | with_reducible apply Mem.drew | with_reducible apply Mem.drewN | with_reducible apply Mem.alloc | with_reducible apply Mem.set | with_reducible exact Sto.row | ((with_reducible refine Sto.rowEq2 ?_ ?_); omega; rfl) | ((with_reducible refine Sto.rowEq ?_); omega) | with_reducible apply Sto.int | with_reducible apply Sto.there | with_reducible assumption | (unfold I64; omega) | (with_reducible (have hMx := Mem.undrew hM; exact hMx)) | (with_reducible (have hMx := Mem.undrew hMp; exact hMx))))
  clear hM
  intro wst hM
  (try simp only [World.size_alloc, World.size_setCell, World.heap_drewN, heapDrew, Nat.add_assoc, Nat.reduceAdd, List.setIfInBounds_toArray, List.set_cons_zero, List.set_cons_succ, List.cons_append, List.nil_append] at hM)
  obtain ⟨k2, f2, l2⟩ := hM.row (.there (.there .here))
  go_wp2_with fail
  refine (toIntS_any ad n c cl _ (h.ext hM.below)).mono ?_
  rintro e w3 ⟨a', c', rfl, hO, hb⟩
  replace hM := hM.own hb hO
  clear hb hO
  clear k2 f2 l2
  obtain ⟨k1, f1, l1⟩ := hM.row (.there .here)
  obtain ⟨k3, f3, l3⟩ := hM.row (.there (.there (.there .here)))
  go_upto_region 6 with fail
  apply Mem.atWpA
  · (repeat' (first | with_reducible exact hM | with_reducible exact hMp | with_reducible apply Mem.drew | with_reducible apply Mem.drewN | with_reducible apply Mem.alloc | with_reducible apply Mem.set | with_reducible exact Sto.row | ((with_reducible refine Sto.rowEq2 ?_ ?_); omega; rfl) | ((with_reducible refine Sto.rowEq ?_); omega) | with_reducible apply Sto.int | with_reducible apply Sto.there | with_reducible assumption | (unfold I64; omega) | (with_reducible (have hMx := Mem.undrew hM; exact hMx)) | (with_reducible (have hMx := Mem.undrew hMp; exact hMx))))
  clear hM
  intro wst hM
  (try simp only [World.size_alloc, World.size_setCell, World.heap_drewN, heapDrew, Nat.add_assoc, Nat.reduceAdd, List.setIfInBounds_toArray, List.set_cons_zero, List.set_cons_succ, List.cons_append, List.nil_append] at hM)
  clear k1 k3 f1 f3 l1 l3
  obtain ⟨k1, f1, l1⟩ := hM.row (.there .here)
  obtain ⟨k2, f2, l2⟩ := hM.row (.there (.there .here))
  go_wp2
  refine bodyPost_ret (v := .agg #[.int .i64 un, .int .i64 sq, .slice a' n c', .string (bsA wd)]) (by simp [results, Try.results32, go_sem, k1, k2]) rfl ⟨a', c', rfl, ?_⟩
  apply Mem.pick (is := [0])
  · (repeat' (first | with_reducible exact hM | with_reducible exact hMp | with_reducible apply Mem.drew | with_reducible apply Mem.drewN | with_reducible apply Mem.alloc | with_reducible apply Mem.set | with_reducible exact Sto.row | ((with_reducible refine Sto.rowEq2 ?_ ?_); omega; rfl) | ((with_reducible refine Sto.rowEq ?_); omega) | with_reducible apply Sto.int | with_reducible apply Sto.there | with_reducible assumption | (unfold I64; omega) | (with_reducible (have hMx := Mem.undrew hM; exact hMx)) | (with_reducible (have hMx := Mem.undrew hMp; exact hMx))))
  · decide
  · rfl
theorem Try.info42 : (Try.prog.info? 42).map (fun i => (i.zero, i.size, i.bytes)) = some (some (.agg #[.int .i64 0, .int .i64 0, .slice none 0 0, .string ⟨#[]⟩]), 4, 56) := by kernel_rfl
theorem noteIn_z1 : ∀ (B : Nat) (w : World), (noteIn NoteI.zero).hold B w := fun B w => ⟨rfl, by show 0 ≤ 17592186044416; omega, by simp [NoteI.zero], World.ownsRow_nil _ _ _ _⟩
theorem noteIn_z2 : ∀ k, ¬ (noteIn NoteI.zero).blk k := fun k hk => by
  have : blockOf none k := hk
  simp [blockOf] at this
set_option maxRecDepth 100000 in
set_option maxHeartbeats 4000000 in
theorem toNoteS_any (a : Option Addr) (n c : Nat) (sc : List NoteI) (w : World) (h : RdN w a n c sc) (hn6 : n ≤ 1048576) :
    Calls Try.prog 7 #[.slice a n c] w fun e w' => ∃ g c' ys, coreN ys = coreN sc ∧ e = .returned (.slice (some ⟨g, 0, none⟩) n c') ∧ Mem w.heap.size w w' [noteE (some ⟨g, 0, none⟩) n c' ys] := by
  have hn := h.rd.cap
  have hc := h.rd.nroom
  have hr : n * 4 ≤ 17592186044416 := h.rd.room
  have HL := Lib.hid h.rd.len
  have HW := Lib.hid h.rd.wf
  obtain ⟨i0, hi, hz0, hz1, hz2⟩ := info_parts Try.info42
  go_enter Try.func7, Try.ntmps7
  go_wp2_with (at_make; refine wpList_make_full _ rfl _ _ 24 rfl w.heap.size 42 i0 (.agg #[.int .i64 0, .int .i64 0, .slice none 0 0, .string ⟨#[]⟩]) 4 Try.underlying24 hi hz0 hz1 .i64 .i64 n n n rfl rfl rfl rfl ?b1 ?b2 ?b3 ?_)
  case b1 => rw [hz2]; omega
  case b2 => unfold maxLen; omega
  case b3 => exact Nat.le_refl _
  intro w1 hown hg
  have hO : Ow FNote 42 w.heap.size w1 (some ⟨w.heap.size, 0, none⟩) n n (List.replicate n NoteI.zero) := ow_made (zs := #[.int .i64 0, .int .i64 0, .slice none 0 0, .string ⟨#[]⟩]) rfl hown hr (by refine ⟨?_, ?_, ?_⟩ <;> first | (show I64 0; unfold I64; omega) | exact Nat.zero_le _)
  have hb1 : Below w.heap.size w w1 := (Below.refl _ _).grown hg (Nat.le_refl _) (by intro k hk; cases hk)
  have hM0 : Mem w.heap.size w w1 [noteE (some ⟨w.heap.size, 0, none⟩) n n (List.replicate n NoteI.zero)] := Mem.nstRep ((Mem.start w).owned hb1 hO) noteIn_z1 noteIn_z2
  clear hown hg hO hb1
  go_wp2
  go_loopw [4] (fun i wr => ∃ (k : Nat) (ys : List NoteI), k ≤ n ∧ i = .int .i64 k ∧ Hid (ys.length = n) ∧ Hid (∀ i, i < k → (ys.getD i NoteI.zero).core = (sc.getD i NoteI.zero).core) ∧ Mem w.heap.size w wr [noteE (some ⟨w.heap.size, 0, none⟩) n n ys]) (fun i _ => n - (intOf i).toNat)
  case atStart => exact ⟨0, _, Nat.zero_le _, rfl, Lib.hid (by simp), Lib.hid (fun i hi => by omega), hM0⟩
  case round =>
    obtain ⟨k, ys, hk, rfl, HYL, HYC, hM⟩ := hrel
    by_cases hlt : k < n
    · obtain ⟨b, off, rfl, _⟩ := (h.rd.ext hM.below).at' _ hlt
      obtain ⟨hb, hc0, hc1, hc2, hc3⟩ := (h.rd.ext hM.below).cellNote hlt
      obtain ⟨hd0, hd1, hd2, hd3⟩ := (hM.nstOw .here).cellNote hlt
      have hfz := (hM.nstOw .here).free
      have hmem := List.mem_of_getElem? (show sc[k]? = some (sc.getD k NoteI.zero) by rw [List.getD_eq_getElem?_getD, List.getElem?_eq_getElem (by rw [HL.out]; exact hlt)]; rfl)
      have HM := Lib.hid (HW.out _ hmem)
      have hph := (h.ext hM.below).cl _ hmem
      clear hmem
      obtain ⟨x, hx⟩ : ∃ x, sc.getD k NoteI.zero = x := ⟨_, rfl⟩
      rw [hx] at hc0 hc1 hc2 hc3 HM hph
      obtain ⟨y, hy⟩ : ∃ y, ys.getD k NoteI.zero = y := ⟨_, rfl⟩
      rw [hy] at hd0 hd1 hd2 hd3
      clear hy
      have HX := Lib.hid hx; clear hx
      obtain ⟨y0, y1, y2, y3, y4, y5, y6⟩ := y
      dsimp only at hc0 hc1 hc2 hc3 hd0 hd1 hd2 hd3
      have hwr : w.heap.size < wr.heap.size := ((hM.nstOw .here).till _ ⟨_, rfl, rfl⟩)
      go_wp2_with fail
      refine (toNote_any x _ hph).mono ?_
      rintro e w2 ⟨a', c', rfl, hm⟩
      replace hM := hM.join hm
      clear hc0 hc1 hc2 hc3 hd0 hd1 hd2 hd3 hfz hm hwr
      dsimp only [List.cons_append, List.nil_append] at hM
      obtain ⟨y, hy⟩ : ∃ y, ys.getD k NoteI.zero = y := ⟨_, rfl⟩
      obtain ⟨hd0, hd1, hd2, hd3⟩ := (hM.nstOw (.there .here)).cellNote hlt
      have hfz := (hM.nstOw (.there .here)).free
      rw [hy] at hd0 hd1 hd2 hd3
      clear hy
      obtain ⟨y0, y1, y2, y3, y4, y5, y6⟩ := y
      dsimp only at hd0 hd1 hd2 hd3
      go_wp2
      go_roundw
      case rel =>
        refine ⟨k + 1, ys.set k ⟨x.un, x.sq, a', x.n, c', x.cl, x.wd⟩, by omega, by go_num, Lib.hid (by rw [List.length_set]; exact HYL.out), Lib.hid ?_, ?_⟩
        · intro i hi
          by_cases e : i = k
          · subst e
            rw [HX.out, List.getD_eq_getElem?_getD, List.getElem?_set_self (by rw [HYL.out]; exact hlt)]
            rfl
          · rw [List.getD_eq_getElem?_getD, List.getElem?_set_ne (by omega), ← List.getD_eq_getElem?_getD]
            exact HYC.out i (by omega)
        · exact Mem.nstPut (y := (⟨x.un, x.sq, a', x.n, c', x.cl, x.wd⟩ : NoteI)) hM hlt HM.out rfl
      case measure => simp [intOf]; omega
    · go_wp2
      go_ret
      obtain rfl : k = n := by omega
      refine ⟨_, _, ys, ?_, rfl, hM⟩
      refine List.ext_getElem (by rw [coreN_len, coreN_len, HYL.out, HL.out]) (fun i h1 h2 => ?_)
      rw [coreN_len] at h1 h2
      have := HYC.out i (by rw [← HYL.out]; exact h1)
      simpa [coreN, List.getD, h1, h2] using this
set_option maxRecDepth 100000 in
set_option maxHeartbeats 4000000 in
theorem eqNote_same (x y : NoteI) (w : World) (h1 : Ints w x.ad x.n x.c x.cl) (h2 : Ints w y.ad y.n y.c y.cl) (hc : x.core = y.core) :
    Calls Try.prog 38 #[x.val, y.val] w fun e w' => e = .returned (.bool true) ∧ Below w.heap.size w w' := by
  have hM := Mem.start w
  have BL := bsA_list
  obtain ⟨x0, x1, x2, x3, x4, x5, x6⟩ := x
  obtain ⟨y0, y1, y2, y3, y4, y5, y6⟩ := y
  simp only [NoteI.core, NoteC.mk.injEq] at hc
  obtain ⟨rfl, rfl, rfl, rfl⟩ := hc
  dsimp only at h1 h2
  have hn0 : (x0 != x0) = false := by simp
  have hn1 : (x1 != x1) = false := by simp
  have hn2 : (x6 != x6) = false := by simp
  go_enter Try.func38, Try.ntmps38
  go_upto_region 1 with fail
  apply Mem.atWpA
  · (repeat' (first | with_reducible exact hM | with_reducible exact hMp | with_reducible apply Mem.drew | with_reducible apply Mem.drewN | with_reducible apply Mem.alloc | with_reducible apply Mem.set | with_reducible exact Sto.row | ((with_reducible refine Sto.rowEq2 ?_ ?_); omega; rfl) | ((with_reducible refine Sto.rowEq ?_); omega) | with_reducible apply Sto.int | with_reducible apply Sto.there | with_reducible assumption | (unfold I64; omega) | (with_reducible (have hMx := Mem.undrew hM; exact hMx)) | (with_reducible (have hMx := Mem.undrew hMp; exact hMx))))
  clear hM
  intro wst hM
  (try simp only [World.size_alloc, World.size_setCell, World.heap_drewN, heapDrew, Nat.add_assoc, Nat.reduceAdd, List.setIfInBounds_toArray, List.set_cons_zero, List.set_cons_succ, List.cons_append, List.nil_append] at hM)
  obtain ⟨k0, f0, l0⟩ := hM.row .here
  obtain ⟨k1, f1, l1⟩ := hM.row (.there .here)
  go_wp2_with fail
  refine (eqIntS_any _ _ _ x5 _ _ _ x5 _ (h1.ext hM.below) (h2.ext hM.below)).mono ?_
  rw [beq_self_eq_true]
  rintro e w3 ⟨rfl, hb9⟩
  clear k0 k1 f0 f1 l0 l1
  replace hM := hM.ext hb9
  clear hb9
  obtain ⟨k0, f0, l0⟩ := hM.row .here
  obtain ⟨k1, f1, l1⟩ := hM.row (.there .here)
  go_wp2
  go_ret
  exact ⟨rfl, (by apply Mem.below; (repeat' (first | with_reducible exact hM | with_reducible exact hMp | with_reducible apply Mem.drew | with_reducible apply Mem.drewN | with_reducible apply Mem.alloc | with_reducible apply Mem.set | with_reducible exact Sto.row | ((with_reducible refine Sto.rowEq2 ?_ ?_); omega; rfl) | ((with_reducible refine Sto.rowEq ?_); omega) | with_reducible apply Sto.int | with_reducible apply Sto.there | with_reducible assumption | (unfold I64; omega) | (with_reducible (have hMx := Mem.undrew hM; exact hMx)) | (with_reducible (have hMx := Mem.undrew hMp; exact hMx)))))⟩
set_option maxRecDepth 100000 in
set_option maxHeartbeats 4000000 in
theorem eqNoteS_same (a : Option Addr) (n c : Nat) (xs : List NoteI) (a2 : Option Addr) (n2 c2 : Nat) (ys : List NoteI) (w : World) (h : RdN w a n c xs) (h2 : RdN w a2 n2 c2 ys) (hc : coreN xs = coreN ys) :
    Calls Try.prog 9 #[.slice a n c, .slice a2 n2 c2] w fun e w' => e = .returned (.bool true) ∧ Below w.heap.size w w' := by
  have hM := Mem.start w
  obtain ⟨e1, e2⟩ := coreN_eq hc
  rw [h.rd.len, h2.rd.len] at e1
  subst e1
  have HE := Lib.hid e2
  have hrm := h.rd.nroom
  clear hc e2
  have hne : ((n : Int) != (n : Int)) = false := by simp
  go_enter Try.func9, Try.ntmps9
  go_wp2_with fail
  go_loopw [5] (fun i wr => ∃ k : Nat, k ≤ n ∧ i = .int .i64 k ∧ Mem w.heap.size w wr []) (fun i _ => n - (intOf i).toNat)
  case atStart => exact ⟨0, Nat.zero_le _, rfl, hM⟩
  case round =>
    clear hM
    obtain ⟨k, hk, rfl, hM⟩ := hrel
    by_cases hlt : k < n
    · obtain ⟨b, off, rfl, -, -⟩ := h.rd.at' _ hlt
      obtain ⟨b2, off2, rfl, -, -⟩ := h2.rd.at' _ hlt
      have hx := h.get hlt
      have hy := h2.get hlt
      have he := HE.out k
      obtain ⟨x, hxx⟩ : ∃ x, xs.getD k NoteI.zero = x := ⟨_, rfl⟩
      obtain ⟨y, hyy⟩ : ∃ y, ys.getD k NoteI.zero = y := ⟨_, rfl⟩
      rw [hxx] at hx he
      rw [hyy] at hy he
      have HX := Lib.hid hxx; have HY := Lib.hid hyy; have HEE := Lib.hid he
      clear hxx hyy he
      have i0 : (0 : Int) ≤ (k : Int) := by omega
      have i1 : (k : Int) < (n : Int) := by omega
      go_wp2_with fail
      apply Mem.atWpA
      · (repeat' (first | with_reducible exact hM | with_reducible exact hMp | with_reducible apply Mem.drew | with_reducible apply Mem.drewN | with_reducible apply Mem.alloc | with_reducible apply Mem.set | with_reducible exact Sto.row | ((with_reducible refine Sto.rowEq2 ?_ ?_); omega; rfl) | ((with_reducible refine Sto.rowEq ?_); omega) | with_reducible apply Sto.int | with_reducible apply Sto.there | with_reducible assumption | (unfold I64; omega) | (with_reducible (have hMx := Mem.undrew hM; exact hMx)) | (with_reducible (have hMx := Mem.undrew hMp; exact hMx))))
      clear hM
      intro wst hM
      (try simp only [World.size_alloc, World.size_setCell, World.heap_drewN, heapDrew, Nat.add_assoc, Nat.reduceAdd, List.setIfInBounds_toArray, List.set_cons_zero, List.set_cons_succ, List.cons_append, List.nil_append] at hM)
      refine AtF.startA hM hM 9 (by kernel_rfl) ?_
      clear hM
      intro wd hM
      have hS := hM
      refine AtF.taked (i := 0) (v := ?_) (some 17) rfl rfl (by kernel_rfl) (by kernel_rfl) (by kernel_rfl) (anc_path [8, 3, 2] _ _ (by kernel_rfl) (by kernel_rfl)) (fun _ _ _ h => h) (Or.inl ⟨by kernel_rfl, ?_⟩) hS rfl ?_
      rotate_left
      · (intro wS hSw; (try dsimp only at hSw); go_simp; (try rw [if_neg (by omega)]); try with_reducible rfl)
      simp only [Act.put, List.setIfInBounds_toArray, List.set_cons_zero, List.set_cons_succ]
      refine AtF.taked (i := 1) (v := ?_) (some 18) rfl rfl (by kernel_rfl) (by kernel_rfl) (by kernel_rfl) (anc_path [8, 3, 2] _ _ (by kernel_rfl) (by kernel_rfl)) (fun _ _ _ h => h) (Or.inl ⟨by kernel_rfl, ?_⟩) hS rfl ?_
      rotate_left
      · (intro wS hSw; (try dsimp only at hSw); go_simp; (try rw [if_neg (by omega)]); try with_reducible rfl)
      simp only [Act.put, List.setIfInBounds_toArray, List.set_cons_zero, List.set_cons_succ]
      refine AtF.taked (i := 2) (v := ?_) (some 19) rfl rfl (by kernel_rfl) (by kernel_rfl) (by kernel_rfl) (anc_path [8, 3] _ _ (by kernel_rfl) (by kernel_rfl)) (fun _ _ _ h => h) (Or.inl ⟨by kernel_rfl, ?_⟩) hS rfl ?_
      rotate_left
      · (intro wS hSw; (try dsimp only at hSw); have hd0 := ((h.rd.ext hSw.below).cellNote hlt).2; have he0 := ((h2.rd.ext hSw.below).cellNote hlt).2; rw [HX.out] at hd0; rw [HY.out] at he0; have g0 := hd0.1; have g1 := hd0.2.1; have g2 := hd0.2.2.1; have g3 := hd0.2.2.2; have g4 := he0.1; have g5 := he0.2.1; have g6 := he0.2.2.1; have g7 := he0.2.2.2; go_simp; (try rw [if_neg (by omega)]); try with_reducible rfl)
      simp only [Act.put, List.setIfInBounds_toArray, List.set_cons_zero, List.set_cons_succ]
      refine AtF.taked (i := 3) (v := ?_) (some 20) rfl rfl (by kernel_rfl) (by kernel_rfl) (by kernel_rfl) (anc_path [8] _ _ (by kernel_rfl) (by kernel_rfl)) (fun _ _ _ h => h) (Or.inl ⟨by kernel_rfl, ?_⟩) hS rfl ?_
      rotate_left
      · (intro wS hSw; (try dsimp only at hSw); have hd0 := ((h.rd.ext hSw.below).cellNote hlt).2; have he0 := ((h2.rd.ext hSw.below).cellNote hlt).2; rw [HX.out] at hd0; rw [HY.out] at he0; have g0 := hd0.1; have g1 := hd0.2.1; have g2 := hd0.2.2.1; have g3 := hd0.2.2.2; have g4 := he0.1; have g5 := he0.2.1; have g6 := he0.2.2.1; have g7 := he0.2.2.2; go_simp; (try rw [if_neg (by omega)]); try with_reducible rfl)
      simp only [Act.put, List.setIfInBounds_toArray, List.set_cons_zero, List.set_cons_succ]
      refine AtF.taked (i := 4) (v := ?_) (some 21) rfl rfl (by kernel_rfl) (by kernel_rfl) (by kernel_rfl) (anc_path [8, 7, 6] _ _ (by kernel_rfl) (by kernel_rfl)) (fun _ _ _ h => h) (Or.inl ⟨by kernel_rfl, ?_⟩) hS rfl ?_
      rotate_left
      · (intro wS hSw; (try dsimp only at hSw); go_simp; (try rw [if_neg (by omega)]); try with_reducible rfl)
      simp only [Act.put, List.setIfInBounds_toArray, List.set_cons_zero, List.set_cons_succ]
      refine AtF.taked (i := 5) (v := ?_) (some 22) rfl rfl (by kernel_rfl) (by kernel_rfl) (by kernel_rfl) (anc_path [8, 7, 6] _ _ (by kernel_rfl) (by kernel_rfl)) (fun _ _ _ h => h) (Or.inl ⟨by kernel_rfl, ?_⟩) hS rfl ?_
      rotate_left
      · (intro wS hSw; (try dsimp only at hSw); go_simp; (try rw [if_neg (by omega)]); try with_reducible rfl)
      simp only [Act.put, List.setIfInBounds_toArray, List.set_cons_zero, List.set_cons_succ]
      refine AtF.taked (i := 6) (v := ?_) (some 23) rfl rfl (by kernel_rfl) (by kernel_rfl) (by kernel_rfl) (anc_path [8, 7] _ _ (by kernel_rfl) (by kernel_rfl)) (fun _ _ _ h => h) (Or.inl ⟨by kernel_rfl, ?_⟩) hS rfl ?_
      rotate_left
      · (intro wS hSw; (try dsimp only at hSw); have hd0 := ((h.rd.ext hSw.below).cellNote hlt).2; have he0 := ((h2.rd.ext hSw.below).cellNote hlt).2; rw [HX.out] at hd0; rw [HY.out] at he0; have g0 := hd0.1; have g1 := hd0.2.1; have g2 := hd0.2.2.1; have g3 := hd0.2.2.2; have g4 := he0.1; have g5 := he0.2.1; have g6 := he0.2.2.1; have g7 := he0.2.2.2; go_simp; (try rw [if_neg (by omega)]); try with_reducible rfl)
      simp only [Act.put, List.setIfInBounds_toArray, List.set_cons_zero, List.set_cons_succ]
      refine AtF.taked (i := 7) (v := ?_) (some 24) rfl rfl (by kernel_rfl) (by kernel_rfl) (by kernel_rfl) (anc_path [8] _ _ (by kernel_rfl) (by kernel_rfl)) (fun _ _ _ h => h) (Or.inl ⟨by kernel_rfl, ?_⟩) hS rfl ?_
      rotate_left
      · (intro wS hSw; (try dsimp only at hSw); have hd0 := ((h.rd.ext hSw.below).cellNote hlt).2; have he0 := ((h2.rd.ext hSw.below).cellNote hlt).2; rw [HX.out] at hd0; rw [HY.out] at he0; have g0 := hd0.1; have g1 := hd0.2.1; have g2 := hd0.2.2.1; have g3 := hd0.2.2.2; have g4 := he0.1; have g5 := he0.2.1; have g6 := he0.2.2.1; have g7 := he0.2.2.2; go_simp; (try rw [if_neg (by omega)]); try with_reducible rfl)
      simp only [Act.put, List.setIfInBounds_toArray, List.set_cons_zero, List.set_cons_succ]
      refine AtF.only (i := 8) (by kernel_rfl) rfl rfl ?_
      intro K hK
      go_simp
      refine (eqNote_same x y _ (hx.ext hM.below) (hy.ext hM.below) HEE.out).mono ?_
      rintro e w3 ⟨rfl, hb9⟩
      replace hM := hM.ext hb9
      clear hb9
      try dsimp only
      refine hK.out _ _ (hM) ?_
      clear hK K hS
      have hS := hM
      refine AtF.last (by kernel_rfl) rfl (by kernel_rfl) ?_
      intro K hK
      clear hS
      go_simp
      refine hK.out _ _ ?_
      clear hK K
      go_wp2
      go_roundw
      case rel => exact ⟨k + 1, by omega, by go_num, by (repeat' (first | with_reducible exact hM | with_reducible exact hMp | with_reducible apply Mem.drew | with_reducible apply Mem.drewN | with_reducible apply Mem.alloc | with_reducible apply Mem.set | with_reducible exact Sto.row | ((with_reducible refine Sto.rowEq2 ?_ ?_); omega; rfl) | ((with_reducible refine Sto.rowEq ?_); omega) | with_reducible apply Sto.int | with_reducible apply Sto.there | with_reducible assumption | (unfold I64; omega) | (with_reducible (have hMx := Mem.undrew hM; exact hMx)) | (with_reducible (have hMx := Mem.undrew hMp; exact hMx))))⟩
      case measure => simp [intOf]; omega
    · obtain rfl : k = n := by omega
      go_wp2
      go_ret
      exact ⟨rfl, (by apply Mem.below; (repeat' (first | with_reducible exact hM | with_reducible exact hMp | with_reducible apply Mem.drew | with_reducible apply Mem.drewN | with_reducible apply Mem.alloc | with_reducible apply Mem.set | with_reducible exact Sto.row | ((with_reducible refine Sto.rowEq2 ?_ ?_); omega; rfl) | ((with_reducible refine Sto.rowEq ?_); omega) | with_reducible apply Sto.int | with_reducible apply Sto.there | with_reducible assumption | (unfold I64; omega) | (with_reducible (have hMx := Mem.undrew hM; exact hMx)) | (with_reducible (have hMx := Mem.undrew hMp; exact hMx)))))⟩
end Go.Proofs.Ytjnbdgldpmmamaa
