/-
  What a law writes over notes, and reads back.
-/
import Derived.Test.YtjnbdgldpmmamaaMNoteT
/-
  What a law writes over notes, and reads back.
-/
namespace Go.Proofs.Ytjnbdgldpmmamaa
set_option linter.unusedSimpArgs false
set_option linter.unusedVariables false
open Go.RowKit

section
variable {α : Type} {F : Fl α} {E : TypeId} {inner : α → Ent} {B : Nat} {w0 w w' : World} {G : List Ent} {g n c k : Nat} {xs : List α}
theorem map_set_same {β : Type} {f : α → β} {d : α} {y : α} : ∀ {xs : List α} {k : Nat}, f y = f (xs.getD k d) → (xs.set k y).map f = xs.map f
  | [], _, _ => rfl
  | x :: xs, 0, h => by
    rw [List.getD_cons_zero] at h
    rw [List.set_cons_zero, List.map_cons, List.map_cons, h]
  | x :: xs, k + 1, h => by
    rw [List.getD_cons_succ] at h
    rw [List.set_cons_succ, List.map_cons, List.map_cons, map_set_same h]
theorem flat_set_same {β : Type} {f : α → List β} {d : α} {y : α} : ∀ {xs : List α} {k : Nat}, f y = f (xs.getD k d) → (xs.set k y).flatMap f = xs.flatMap f
  | [], _, _ => rfl
  | x :: xs, 0, h => by
    rw [List.getD_cons_zero] at h
    rw [List.set_cons_zero, List.flatMap_cons, List.flatMap_cons, h]
  | x :: xs, k + 1, h => by
    rw [List.getD_cons_succ] at h
    rw [List.set_cons_succ, List.flatMap_cons, List.flatMap_cons, flat_set_same h]
/-- a field of a record is stored, its slice stays -/
theorem Mem.nstSet {j : Nat} {v : Value} {y : α} (h : Mem B w0 w (nstE F E inner (some ⟨g, 0, none⟩) n c xs :: G)) (hk : k < n) (hj : j < F.sz) (hi : inner y = inner (xs.getD k F.z)) (he : F.enc y = (F.enc (xs.getD k F.z)).set j v) (hw : F.wf y) : Mem B w0 (w.setCell ⟨g, k * F.sz + j, none⟩ v) (nstE F E inner (some ⟨g, 0, none⟩) n c (xs.set k y) :: G) := by
  have h1 := h.nstOpen.setR (F := F) (xs := xs) (i := k) (j := j) (v := v) y .here hk hj he hw
  refine Mem.nstClose ?_
  rw [map_set_same hi]
  exact h1
/-- the slice of a record is written, its place stays -/
theorem Mem.nstInner {y : α} (h : Mem B w0 w (nstE F E inner (some ⟨g, 0, none⟩) n c xs :: G)) (hk : k < n) (he : F.enc y = F.enc (xs.getD k F.z)) (hw : F.wf y) (hb : ∀ b, (inner y).blk b ↔ (inner (xs.getD k F.z)).blk b) (hkp : Keeps (inner (xs.getD k F.z)).blk w w') (hh : (inner y).hold B w') : Mem B w0 w' (nstE F E inner (some ⟨g, 0, none⟩) n c (xs.set k y) :: G) := by
  have h1 := h.nstOpen
  have hO := h1.ow .here
  have hkx : k < xs.length := by rw [hO.len]; exact hk
  have hx : xs.getD k F.z = xs[k] := by simp [List.getD, hkx]
  rw [hx] at he hb hkp
  have e1 : xs.map inner = (xs.take k).map inner ++ inner (xs[k]) :: (xs.drop (k + 1)).map inner := by
    rw [← List.map_cons, ← List.map_append, List.getElem_cons_drop, List.take_append_drop]
  have e2 : (xs.set k y).map inner = (xs.take k).map inner ++ inner y :: (xs.drop (k + 1)).map inner := by
    rw [List.set_eq_take_append_cons_drop, if_pos hkx, List.map_append, List.map_cons]
  rw [e1] at h1
  have h2 : Mem B w0 w (inner xs[k] :: (owE F E (some ⟨g, 0, none⟩) n c xs :: ((xs.take k).map inner ++ ((xs.drop (k + 1)).map inner ++ G)))) := by
    refine h1.perm ?_
    rw [List.append_assoc, List.cons_append]
    exact (List.Perm.cons _ List.perm_middle).trans (List.Perm.swap ..)
  have h3 : Mem B w0 w' (inner y :: (owE F E (some ⟨g, 0, none⟩) n c xs :: ((xs.take k).map inner ++ ((xs.drop (k + 1)).map inner ++ G)))) :=
    h2.put .here hkp hh (fun b hb2 => .inl ((hb b).1 hb2))
  have h4 : Mem B w0 w' (inner y :: (owE F E (some ⟨g, 0, none⟩) n c (xs.set k y) :: ((xs.take k).map inner ++ ((xs.drop (k + 1)).map inner ++ G)))) := by
    refine h3.put (.there .here) (Keeps.refl _ _) ?_ (fun k hk => .inl hk)
    have o := h3.ow (.there .here)
    refine ⟨by rw [List.length_set]; exact o.len, o.room, fun z hz => ?_, ?_⟩
    · rcases List.mem_or_eq_of_mem_set hz with hz | rfl
      · exact o.wf z hz
      · exact hw
    · have ec : F.cells (xs.set k y) = F.cells xs := flat_set_same (d := F.z) (by rw [hx]; exact he)
      rw [ec]
      exact o.row
  refine Mem.nstClose ?_
  rw [e2]
  refine h4.perm ?_
  rw [List.append_assoc, List.cons_append]
  exact (List.Perm.swap ..).trans (List.Perm.cons _ List.perm_middle.symm)
end

def markL : Nat → List NoteI → List NoteI
  | _, [] => []
  | q, x :: xs => ⟨((q : Nat) : Int), ((q + 1 : Nat) : Int), x.ad, x.n, x.c, fromI ((q + 2 : Nat) : Int) x.n, mkT (q + 2 + x.n)⟩ :: markL (q + 3 + x.n) xs
theorem markL_length : ∀ (q : Nat) (xs : List NoteI), (markL q xs).length = xs.length
  | _, [] => rfl
  | q, x :: xs => by rw [markL, List.length_cons, List.length_cons, markL_length]
theorem markL_snoc : ∀ (q : Nat) (xs : List NoteI) (x : NoteI), markL q (xs ++ [x]) = markL q xs ++ markL (q + 3 * xs.length + clkN xs) [x]
  | q, [], x => by simp [markL, clkN]
  | q, y :: ys, x => by
    have ih := markL_snoc (q + 3 + y.n) ys x
    have e : q + 3 + y.n + 3 * ys.length + clkN ys = q + 3 * (y :: ys).length + clkN (y :: ys) := by rw [List.length_cons, clkN]; omega
    rw [e] at ih
    show (_ :: markL (q + 3 + y.n) (ys ++ [x])) = (_ :: markL (q + 3 + y.n) ys) ++ _
    rw [ih]
    rfl
theorem markL_get : ∀ (q : Nat) (xs : List NoteI) (k : Nat), k < xs.length → (markL q xs).getD k NoteI.zero = (markL (q + 3 * k + clkN (xs.take k)) [xs.getD k NoteI.zero]).getD 0 NoteI.zero
  | q, [], k, h => by simp at h
  | q, x :: xs, 0, _ => by simp [markL, clkN]
  | q, x :: xs, k + 1, h => by
    have := markL_get (q + 3 + x.n) xs k (by simpa using h)
    rw [markL, List.getD_cons_succ, this, List.take_succ_cons, clkN, List.getD_cons_succ]
    rw [show q + 3 + x.n + 3 * k + clkN (xs.take k) = q + 3 * (k + 1) + (x.n + clkN (xs.take k)) by omega]
theorem clk_le {xs : List NoteI} (k : Nat) : clkN (xs.take k) ≤ clkN xs := by
  induction xs generalizing k with
  | nil => simp
  | cons x xs ih =>
    cases k with
    | zero => rw [List.take_zero]; exact Nat.zero_le _
    | succ k =>
      have := ih k
      rw [List.take_succ_cons, clkN, clkN]
      omega

set_option maxRecDepth 100000 in
set_option maxHeartbeats 4000000 in
theorem markNoteS_any (B : Nat) (w0 : World) (G : List Ent) (a : Option Addr) (n c : Nat) (xs : List NoteI) (q : Nat) (w : World) (hM : Mem B w0 w (noteE a n c xs :: G)) (hq : 0 < q) (hq2 : q + 3 * n + clkN xs ≤ 900000000) :
    Calls Try.prog 10 #[.slice a n c, .int .i64 q] w fun e w' => e = .returned (.int .i64 ((q + 3 * n + clkN xs : Nat) : Int)) ∧ Mem B w0 w' (noteE a n c (markL q xs) :: G) := by
  have HL := Lib.hid ((hM.nstOw .here).len)
  have HN := Lib.hid ((hM.notes .here).lens)
  go_enter Try.func10, Try.ntmps10
  go_wp2
  go_loopw [1, 5] (fun v i wr => ∃ k : Nat, k ≤ n ∧ i = .int .i64 k ∧ v = .int .i64 ((q + 3 * k + clkN (xs.take k) : Nat) : Int) ∧ Mem B w0 wr (noteE a n c (markL q (xs.take k) ++ xs.drop k) :: G)) (fun _ i _ => n - (intOf i).toNat)
  case atStart => exact ⟨0, Nat.zero_le _, rfl, rfl, by simpa [markL] using hM⟩
  case round =>
    clear hM
    obtain ⟨k, hk, rfl, rfl, hM⟩ := hrel
    by_cases hlt : k < n
    · obtain ⟨g, rfl, -⟩ := (hM.nstOw .here).head (by omega)
      have hkx : k < xs.length := by rw [HL.out]; exact hlt
      have hml : (markL q (xs.take k)).length = k := by rw [markL_length, List.length_take]; omega
      have hlen : (markL q (xs.take k) ++ xs.drop k).length = n := by rw [List.length_append, hml, List.length_drop, HL.out]; omega
      have hget : (markL q (xs.take k) ++ xs.drop k).getD k NoteI.zero = xs.getD k NoteI.zero := by
        rw [List.getD_eq_getElem?_getD, List.getElem?_append_right (by omega), hml, Nat.sub_self, List.getElem?_drop, List.getD_eq_getElem?_getD]
        rfl
      have htk : xs.take (k + 1) = xs.take k ++ [xs.getD k NoteI.zero] := take_succV hkx
      have hnext : ∀ y, markL (q + 3 * k + clkN (xs.take k)) [xs.getD k NoteI.zero] = [y] → (markL q (xs.take k) ++ xs.drop k).set k y = markL q (xs.take (k + 1)) ++ xs.drop (k + 1) := by
        intro y hy
        rw [List.set_append_right _ _ (by omega), hml, Nat.sub_self, htk, markL_snoc, List.length_take, Nat.min_eq_left (by omega), hy, List.drop_eq_getElem_cons hkx, List.set_cons_zero, List.append_assoc]
        rfl
      have hck := clkN_take (xs := xs) (k := k) hkx
      have hcl := clk_le (xs := xs) (k + 1)
      have hwf := (hM.nstOw .here).wf _ (show (markL q (xs.take k) ++ xs.drop k).getD k NoteI.zero ∈ _ by
        rw [List.getD_eq_getElem?_getD, List.getElem?_eq_getElem (by omega)]
        exact List.getElem_mem _)
      rw [hget] at hwf
      obtain ⟨x, hx⟩ : ∃ x, xs.getD k NoteI.zero = x := ⟨_, rfl⟩
      rw [hx] at hget hwf hck hnext
      have hp3 : q + 3 * (k + 1) + clkN (xs.take (k + 1)) = q + 3 * k + clkN (xs.take k) + 3 + x.n := by rw [hck]; omega
      have hp4 : q + 3 * k + clkN (xs.take k) + 3 + x.n ≤ 900000000 := by omega
      obtain ⟨p, hp⟩ : ∃ p, q + 3 * k + clkN (xs.take k) = p := ⟨_, rfl⟩
      rw [hp] at hp3 hp4 hnext ⊢
      have hp0 : 0 < p := by omega
      clear hck hcl hp
      obtain ⟨zs, hzs⟩ : ∃ zs, markL q (xs.take k) ++ xs.drop k = zs := ⟨_, rfl⟩
      rw [hzs] at hget hnext hlen hM
      clear hzs htk hml
      obtain ⟨un, sq, ad, m, cc, cl, wd⟩ := x
      dsimp only at hp3 hp4
      have HX := Lib.hid hget; have HW := Lib.hid hwf; have HP3 := Lib.hid hp3; have HZL := Lib.hid hlen
      have HNX := Lib.hid (hnext _ rfl)
      clear hget hwf hp3 hlen hnext
      dsimp only at HNX
      have hd := (hM.nstOw .here).cellNote hlt
      rw [HX.out] at hd
      obtain ⟨hd0, hd1, hd2, hd3⟩ := hd
      have hfz := (hM.nstOw .here).free
      dsimp only at hd0 hd1 hd2 hd3
      have i0 : (0 : Int) ≤ (k : Int) := by omega
      have i1 : (k : Int) < (n : Int) := by omega
      have hw1 : IntKind.i64.wrap ((p : Int) + 1) = ((p + 1 : Nat) : Int) := by rw [wrap_in (by omega)]; omega
      have hw2 : IntKind.i64.wrap (((p + 1 : Nat) : Int) + 1) = ((p + 2 : Nat) : Int) := by rw [wrap_in (by omega)]; omega
      have HM1 := Lib.hid (fun w => markText_any (p + 2 + m) w (by omega) (by omega))
      have HSL : Hid ((mkT (p + 2 + m)).length ≤ maxLen) := Lib.hid (by
        have := digits_len (n := p + 2 + m) (by omega)
        unfold mkT maxLen
        rw [List.length_append]
        simp
        omega)
      have hm0 := Mem.nstSet (j := 0) (v := .int .i64 (p : Int)) (y := (⟨(p : Int), sq, ad, m, cc, cl, wd⟩ : NoteI)) hM hlt (by decide) (by rw [show zs.getD k FNote.z = _ from HX.out]) (by rw [show zs.getD k FNote.z = _ from HX.out]; rfl) ⟨by show I64 (p : Int); unfold I64; omega, HW.out.2⟩
      have hg0 : (zs.set k (⟨(p : Int), sq, ad, m, cc, cl, wd⟩ : NoteI)).getD k FNote.z = ⟨(p : Int), sq, ad, m, cc, cl, wd⟩ := by
        rw [List.getD_eq_getElem?_getD, List.getElem?_set_self (by rw [HZL.out]; exact hlt)]; rfl
      have hm1 := Mem.nstSet (j := 1) (v := .int .i64 ((p + 1 : Nat) : Int)) (y := (⟨(p : Int), ((p + 1 : Nat) : Int), ad, m, cc, cl, wd⟩ : NoteI)) hm0 hlt (by decide) (by rw [hg0]) (by rw [hg0]; rfl) ⟨by show I64 (p : Int); unfold I64; omega, by show I64 ((p + 1 : Nat) : Int); unfold I64; omega, HW.out.2.2⟩
      rw [List.set_set] at hm1
      have HMM := Lib.hid hm1
      clear hm0 hm1 hg0
      go_wp2_with fail
      clear hM hd0 hd1 hd2 hd3 hfz
      apply Mem.atA HMM.out
      clear HMM
      intro w5 hM
      have hg1 : (zs.set k (⟨(p : Int), ((p + 1 : Nat) : Int), ad, m, cc, cl, wd⟩ : NoteI)).getD k FNote.z = ⟨(p : Int), ((p + 1 : Nat) : Int), ad, m, cc, cl, wd⟩ := by
        rw [List.getD_eq_getElem?_getD, List.getElem?_set_self (by rw [HZL.out]; exact hlt)]; rfl
      have hmem : (⟨(p : Int), ((p + 1 : Nat) : Int), ad, m, cc, cl, wd⟩ : NoteI) ∈ zs.set k (⟨(p : Int), ((p + 1 : Nat) : Int), ad, m, cc, cl, wd⟩ : NoteI) := List.mem_set (by rw [HZL.out]; exact hlt) _
      have hO := hM.nstIn .here hmem
      refine (markIntS_any B ad m cc cl ((p + 2 : Nat) : Int) _ hO (by omega)).mono ?_
      rintro e w6 ⟨rfl, hO2, hkp⟩
      have hM2 := Mem.nstInner (y := (⟨(p : Int), ((p + 1 : Nat) : Int), ad, m, cc, fromI ((p + 2 : Nat) : Int) m, wd⟩ : NoteI)) (w' := w6) hM hlt (by rw [hg1]; rfl) ⟨by show I64 (p : Int); unfold I64; omega, by show I64 ((p + 1 : Nat) : Int); unfold I64; omega, HW.out.2.2⟩ (by rw [hg1]; exact fun b => Iff.rfl) (by rw [hg1]; exact hkp) hO2
      rw [List.set_set] at hM2
      clear hM hO hO2 hkp hg1 hmem
      have hM := hM2
      clear hM2
      have hpm : ((p + 2 : Nat) : Int) + (m : Int) = ((p + 2 + m : Nat) : Int) := by omega
      rw [hpm]
      clear hpm
      go_wp2_with fail
      refine (HM1.out _).mono ?_
      rintro e w7 ⟨rfl, hb⟩
      replace hM := hM.ext hb
      clear hb
      have hg1 : (zs.set k (⟨(p : Int), ((p + 1 : Nat) : Int), ad, m, cc, fromI ((p + 2 : Nat) : Int) m, wd⟩ : NoteI)).getD k FNote.z = ⟨(p : Int), ((p + 1 : Nat) : Int), ad, m, cc, fromI ((p + 2 : Nat) : Int) m, wd⟩ := by
        rw [List.getD_eq_getElem?_getD, List.getElem?_set_self (by rw [HZL.out]; exact hlt)]; rfl
      have hm3 := Mem.nstSet (j := 3) (v := .string (bsA (mkT (p + 2 + m)))) (y := (⟨(p : Int), ((p + 1 : Nat) : Int), ad, m, cc, fromI ((p + 2 : Nat) : Int) m, mkT (p + 2 + m)⟩ : NoteI)) hM hlt (by decide) (by rw [hg1]) (by rw [hg1]; rfl) ⟨by show I64 (p : Int); unfold I64; omega, by show I64 ((p + 1 : Nat) : Int); unfold I64; omega, HSL.out⟩
      rw [List.set_set, HNX.out] at hm3
      have HMM := Lib.hid hm3
      have hd := (hM.nstOw .here).cellNote hlt
      rw [show (zs.set k (⟨(p : Int), ((p + 1 : Nat) : Int), ad, m, cc, fromI ((p + 2 : Nat) : Int) m, wd⟩ : NoteI)).getD k NoteI.zero = _ from hg1] at hd
      obtain ⟨hd0, hd1, hd2, hd3⟩ := hd
      have hfz := (hM.nstOw .here).free
      dsimp only at hd0 hd1 hd2 hd3
      clear hm3 hg1 hM
      have hw3 : IntKind.i64.wrap (((p + 2 + m : Nat) : Int) + 1) = ((p + 3 + m : Nat) : Int) := by rw [wrap_in (by omega)]; omega
      generalize mkT (p + 2 + m) = s at HMM HSL
      generalize p + 2 + m = pm at hw3
      go_wp2
      go_roundw
      case rel => exact ⟨k + 1, by omega, by go_num, by rw [HP3.out]; exact congrArg (Value.int .i64) (by omega), HMM.out⟩
      case measure => simp [intOf]; omega
    · obtain rfl : k = n := by omega
      rw [List.drop_of_length_le (by rw [HL.out]; exact Nat.le_refl _), List.append_nil, List.take_of_length_le (by rw [HL.out]; exact Nat.le_refl _)] at hM
      have e : xs.take k = xs := List.take_of_length_le (by rw [HL.out]; exact Nat.le_refl _)
      rw [e]
      go_wp2
      go_ret
      exact ⟨rfl, by (repeat' (first | with_reducible exact hM | with_reducible exact hMp | with_reducible apply Mem.drew | with_reducible apply Mem.drewN | with_reducible apply Mem.alloc | with_reducible apply Mem.set | with_reducible exact Sto.row | ((with_reducible refine Sto.rowEq2 ?_ ?_); omega; rfl) | ((with_reducible refine Sto.rowEq ?_); omega) | with_reducible apply Sto.int | with_reducible apply Sto.there | with_reducible assumption | (unfold I64; omega) | (with_reducible (have hMx := Mem.undrew hM; exact hMx)) | (with_reducible (have hMx := Mem.undrew hMp; exact hMx))))⟩
set_option maxRecDepth 100000 in
set_option maxHeartbeats 4000000 in
theorem heldNoteS_any (a : Option Addr) (n c : Nat) (xs : List NoteI) (q : Nat) (w : World) (h : RdN w a n c (markL q xs)) (hq : 0 < q) (hq2 : q + 3 * n + clkN xs ≤ 900000000) :
    Calls Try.prog 11 #[.slice a n c, .int .i64 q] w fun e w' => e = .returned (.int .i64 ((q + 3 * n + clkN xs : Nat) : Int)) ∧ Below w.heap.size w w' := by
  have hM := Mem.start w
  have hr := h.rd.nroom
  have S3 := bsA_list
  have hxl : xs.length = n := by rw [← markL_length q xs]; exact h.rd.len
  have HL := Lib.hid hxl; clear hxl
  go_enter Try.func11, Try.ntmps11
  go_wp2
  go_loopw [1, 5] (fun v i wr => ∃ k : Nat, k ≤ n ∧ i = .int .i64 k ∧ v = .int .i64 ((q + 3 * k + clkN (xs.take k) : Nat) : Int) ∧ Mem w.heap.size w wr []) (fun _ i _ => n - (intOf i).toNat)
  case atStart => exact ⟨0, Nat.zero_le _, rfl, rfl, hM⟩
  case round =>
    clear hM
    obtain ⟨k, hk, rfl, rfl, hM⟩ := hrel
    by_cases hlt : k < n
    · obtain ⟨b, off, rfl, -, -⟩ := h.rd.at' _ hlt
      have hkx : k < xs.length := by rw [HL.out]; exact hlt
      have hgt := markL_get q xs k hkx
      have hck := clkN_take (xs := xs) (k := k) hkx
      have hcl := clk_le (xs := xs) (k + 1)
      have hcI := h.get hlt
      obtain ⟨x, hx⟩ : ∃ x, xs.getD k NoteI.zero = x := ⟨_, rfl⟩
      rw [hx] at hgt hck
      have hp3 : q + 3 * (k + 1) + clkN (xs.take (k + 1)) = q + 3 * k + clkN (xs.take k) + 3 + x.n := by rw [hck]; omega
      have hp4 : q + 3 * k + clkN (xs.take k) + 3 + x.n ≤ 900000000 := by omega
      obtain ⟨p, hp⟩ : ∃ p, q + 3 * k + clkN (xs.take k) = p := ⟨_, rfl⟩
      rw [hp] at hp3 hp4 hgt ⊢
      have hp0 : 0 < p := by omega
      clear hck hcl hp hx
      obtain ⟨un, sq, ad, m, cc, cl, wd⟩ := x
      have hg2 : (markL q xs).getD k NoteI.zero = ⟨((p : Nat) : Int), ((p + 1 : Nat) : Int), ad, m, cc, fromI ((p + 2 : Nat) : Int) m, mkT (p + 2 + m)⟩ := hgt
      rw [hg2] at hcI
      dsimp only at hp3 hp4 hcI
      have HX := Lib.hid hg2; have HP3 := Lib.hid hp3; have HCI := Lib.hid hcI
      clear hgt hg2 hp3 hcI
      have i0 : (0 : Int) ≤ (k : Int) := by omega
      have i1 : (k : Int) < (n : Int) := by omega
      have hw1 : IntKind.i64.wrap ((p : Int) + 1) = ((p + 1 : Nat) : Int) := by rw [wrap_in (by omega)]; omega
      have hw2 : IntKind.i64.wrap (((p + 1 : Nat) : Int) + 1) = ((p + 2 : Nat) : Int) := by rw [wrap_in (by omega)]; omega
      have HM1 := Lib.hid (fun w => markText_any (p + 2 + m) w (by omega) (by omega))
      have hn0 : ((p : Int) != (p : Int)) = false := by simp
      have hn1 : (((p + 1 : Nat) : Int) != ((p + 1 : Nat) : Int)) = false := by simp
      have hc := ((h.rd.ext hM.below).cellNote hlt).2
      rw [HX.out] at hc
      have x0 := hc.1
      have x1 := hc.2.1
      have x2 := hc.2.2.1
      clear hc
      dsimp only at x0 x1 x2
      go_wp2_with fail
      refine (heldIntS_any ad m cc (fromI ((p + 2 : Nat) : Int) m) ((p + 2 : Nat) : Int) _ (HCI.out.ext (by (repeat' (first | exact Below.refl _ _ | with_reducible refine Below.setCell ?_ (by first | omega | (simp; done) | (simp; omega)) _ | with_reducible refine Below.alloc ?_ (by first | omega | (simp; done) | (simp; omega)) _ | with_reducible refine Below.drew ?_ | with_reducible refine bdrewN ?_ _ | with_reducible refine Below.trans ?_ (Below.mono hM.below (by first | omega | (simp; done) | (simp; omega))))))) (by omega)).mono ?_
      rw [heldF_fromI]
      rintro e w5 ⟨rfl, rfl⟩
      clear x0 x1 x2
      have hpm : ((p + 2 : Nat) : Int) + (m : Int) = ((p + 2 + m : Nat) : Int) := by omega
      rw [hpm]
      clear hpm
      have hnn : ¬ ((p + 2 + m : Nat) : Int) < 0 := by omega
      have hw3 : IntKind.i64.wrap (((p + 2 + m : Nat) : Int) + 1) = ((p + 3 + m : Nat) : Int) := by rw [wrap_in (by omega)]; omega
      generalize mkT (p + 2 + m) = s at HM1 HX
      generalize p + 2 + m = pm at hw3 HM1 hnn ⊢
      have hss : (s != s) = false := by simp
      go_upto_region 13 with fail
      apply Mem.atWpA
      · (repeat' (first | with_reducible exact hM | with_reducible exact hMp | with_reducible apply Mem.drew | with_reducible apply Mem.drewN | with_reducible apply Mem.alloc | with_reducible apply Mem.set | with_reducible exact Sto.row | ((with_reducible refine Sto.rowEq2 ?_ ?_); omega; rfl) | ((with_reducible refine Sto.rowEq ?_); omega) | with_reducible apply Sto.int | with_reducible apply Sto.there | with_reducible assumption | (unfold I64; omega) | (with_reducible (have hMx := Mem.undrew hM; exact hMx)) | (with_reducible (have hMx := Mem.undrew hMp; exact hMx))))
      clear hM
      intro wst hM
      (try simp only [World.size_alloc, World.size_setCell, World.heap_drewN, heapDrew, Nat.add_assoc, Nat.reduceAdd, List.setIfInBounds_toArray, List.set_cons_zero, List.set_cons_succ, List.cons_append, List.nil_append] at hM)
      refine AtT.startA hM hM 7 (by kernel_rfl) ?_
      clear hM
      intro wd hM
      have hS := hM
      refine AtT.taked (i := 0) (v := ?_) (some 39) rfl rfl (by kernel_rfl) (by kernel_rfl) (by kernel_rfl) (by kernel_rfl) (fun _ _ _ h => h) (Or.inl ⟨by kernel_rfl, ?_⟩) hS ?_
      rotate_left
      · (intro wS hSw; (try dsimp only at hSw); go_simp; (try rw [if_neg (by omega)]); try with_reducible rfl)
      simp only [Act.put, List.setIfInBounds_toArray, List.set_cons_zero, List.set_cons_succ]
      refine AtT.taked (i := 1) (v := ?_) (some 40) rfl rfl (by kernel_rfl) (by kernel_rfl) (by kernel_rfl) (by kernel_rfl) (fun _ _ _ h => h) (Or.inl ⟨by kernel_rfl, ?_⟩) hS ?_
      rotate_left
      · (intro wS hSw; (try dsimp only at hSw); go_simp; (try rw [if_neg (by omega)]); try with_reducible rfl)
      simp only [Act.put, List.setIfInBounds_toArray, List.set_cons_zero, List.set_cons_succ]
      refine AtT.taked (i := 2) (v := ?_) (some 41) rfl rfl (by kernel_rfl) (by kernel_rfl) (by kernel_rfl) (by kernel_rfl) (fun _ _ _ h => h) (Or.inl ⟨by kernel_rfl, ?_⟩) hS ?_
      rotate_left
      · (intro wS hSw; (try dsimp only at hSw); have hc1 := ((h.rd.ext hSw.below).cellNote hlt).2.2.2.2; rw [HX.out] at hc1; dsimp only at hc1; go_simp; (try rw [if_neg (by omega)]); try with_reducible rfl)
      simp only [Act.put, List.setIfInBounds_toArray, List.set_cons_zero, List.set_cons_succ]
      refine AtT.taked (i := 3) (v := ?_) (some 42) rfl rfl (by kernel_rfl) (by kernel_rfl) (by kernel_rfl) (by kernel_rfl) (fun _ _ _ h => h) (Or.inl ⟨by kernel_rfl, ?_⟩) hS ?_
      rotate_left
      · (intro wS hSw; (try dsimp only at hSw); go_simp; (try rw [if_neg (by omega)]); try with_reducible rfl)
      simp only [Act.put, List.setIfInBounds_toArray, List.set_cons_zero, List.set_cons_succ]
      refine AtT.taked (i := 4) (v := ?_) (some 43) rfl rfl (by kernel_rfl) (by kernel_rfl) (by kernel_rfl) (by kernel_rfl) (fun _ _ _ h => h) (Or.inl ⟨by kernel_rfl, ?_⟩) hS ?_
      rotate_left
      · (intro wS hSw; (try dsimp only at hSw); have hc1 := ((h.rd.ext hSw.below).cellNote hlt).2.2.2.2; rw [HX.out] at hc1; dsimp only at hc1; go_simp; (try rw [if_neg (by omega)]); try with_reducible rfl)
      simp only [Act.put, List.setIfInBounds_toArray, List.set_cons_zero, List.set_cons_succ]
      refine AtT.taked (i := 5) (v := ?_) (some 44) rfl rfl (by kernel_rfl) (by kernel_rfl) (by kernel_rfl) (by kernel_rfl) (fun _ _ _ h => h) (Or.inl ⟨by kernel_rfl, ?_⟩) hS ?_
      rotate_left
      · (intro wS hSw; (try dsimp only at hSw); go_simp; (try rw [if_neg (by omega)]); try with_reducible rfl)
      simp only [Act.put, List.setIfInBounds_toArray, List.set_cons_zero, List.set_cons_succ]
      refine AtT.only (i := 6) (by kernel_rfl) rfl rfl ?_
      intro K hK
      go_simp
      refine (HM1.out _).mono ?_
      rintro e w5 ⟨rfl, hb⟩
      replace hM := hM.ext hb
      clear hb
      try dsimp only
      refine hK.out _ _ (hM) ?_
      clear hK K hS
      have hS := hM
      refine AtT.last (by kernel_rfl) rfl (by kernel_rfl) ?_
      intro K hK
      clear hS
      go_simp
      refine hK.out _ _ ?_
      clear hK K
      apply Mem.atEx
      · (repeat' (first | with_reducible exact hM | with_reducible exact hMp | with_reducible apply Mem.drew | with_reducible apply Mem.drewN | with_reducible apply Mem.alloc | with_reducible apply Mem.set | with_reducible exact Sto.row | ((with_reducible refine Sto.rowEq2 ?_ ?_); omega; rfl) | ((with_reducible refine Sto.rowEq ?_); omega) | with_reducible apply Sto.int | with_reducible apply Sto.there | with_reducible assumption | (unfold I64; omega) | (with_reducible (have hMx := Mem.undrew hM; exact hMx)) | (with_reducible (have hMx := Mem.undrew hMp; exact hMx))))
      clear hM
      intro wst hM
      (try simp only [World.size_alloc, World.size_setCell, World.heap_drewN, heapDrew, Nat.add_assoc, Nat.reduceAdd, List.setIfInBounds_toArray, List.set_cons_zero, List.set_cons_succ, List.cons_append, List.nil_append] at hM)
      go_wp2
      go_roundw
      case rel => exact ⟨k + 1, by omega, by go_num, by rw [HP3.out]; exact congrArg (Value.int .i64) (by omega), hM⟩
      case measure => simp [intOf]; omega
    · obtain rfl : k = n := by omega
      have e : xs.take k = xs := List.take_of_length_le (by rw [HL.out]; exact Nat.le_refl _)
      rw [e]
      go_wp2
      go_ret
      exact ⟨rfl, (by apply Mem.below; (repeat' (first | with_reducible exact hM | with_reducible exact hMp | with_reducible apply Mem.drew | with_reducible apply Mem.drewN | with_reducible apply Mem.alloc | with_reducible apply Mem.set | with_reducible exact Sto.row | ((with_reducible refine Sto.rowEq2 ?_ ?_); omega; rfl) | ((with_reducible refine Sto.rowEq ?_); omega) | with_reducible apply Sto.int | with_reducible apply Sto.there | with_reducible assumption | (unfold I64; omega) | (with_reducible (have hMx := Mem.undrew hM; exact hMx)) | (with_reducible (have hMx := Mem.undrew hMp; exact hMx)))))⟩
end Go.Proofs.Ytjnbdgldpmmamaa
