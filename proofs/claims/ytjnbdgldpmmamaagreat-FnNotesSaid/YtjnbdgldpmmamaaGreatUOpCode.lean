/-
  The code that a law draws from, as it is read; is it too long.
-/
import Derived.Test.YtjnbdgldpmmamaaGreatUDrwN
import Derived.Test.YtjnbdgldpmmamaaGreatUOrdS
import Derived.Test.YtjnbdgldpmmamaaGreatUMrgC
import Derived.Test.YtjnbdgldpmmamaaGreatUNoteS
import Derived.Test.YtjnbdgldpmmamaaGreatUCur
import Derived.Test.YtjnbdgldpmmamaaGreatULawV
/-
  The law on notes: the plain facts.
-/
namespace Go.Proofs.YtjnbdgldpmmamaaGreat
set_option linter.unusedSimpArgs false
set_option linter.unusedVariables false
open Go.RowKit

theorem and_parts {a b : Bool} (h : (a && b) = true) : a = true ∧ b = true := by
  simpa using h
theorem ord_fits {u : Int} {xs : List NoteI} {n : Nat} (hl : xs.length = n) (hv : (bookB u (coreN xs) && compB (coreN xs)) = true) {os : List Int} (ho : ordR u (coreN xs) = os) {i k : Nat} (hik : i < k) (hk : k < os.length) :
    ∃ p q : Nat, os.getD i 0 = (p : Int) ∧ os.getD k 0 = (q : Int) ∧ p < n ∧ q < n ∧ befC (xs.getD q NoteI.zero).core (xs.getD p NoteI.zero).core = false ∧ cmpB u (xs.getD q NoteI.zero).core (xs.getD p NoteI.zero).core = true := by
  obtain ⟨hb, hc⟩ := and_parts hv
  have ho2 : os = ordL (coreN xs) := by rw [← ho, ordR, hv, if_pos rfl]
  subst ho2
  rw [ordL_len] at hk
  obtain ⟨p, hp, hp2⟩ := ordL_at (coreN xs) (i := i) (by omega)
  obtain ⟨q, hq, hq2⟩ := ordL_at (coreN xs) hk
  obtain ⟨h1, h2⟩ := ordL_fits hb hc hik hk hp hq hp2 hq2
  have h3 := book_note hb hp2
  have h4 := book_note hb hq2
  rw [coreN_getD] at h3 h4
  rw [coreN_getD, coreN_getD] at h1 h2
  have hu : inB u 2 4 = true := by
    unfold bookB at hb
    simp only [Bool.and_eq_true] at hb
    exact hb.1.2
  rw [coreN_len, hl] at hp2 hq2
  exact ⟨p, q, hp, hq, hp2, hq2, h1, by unfold cmpB; rw [hu, h3, h4, h2]; rfl⟩
theorem ord_none {u : Int} {l : List NoteC} (hv : (bookB u l && compB l) = false) : ordR u l = [] := by rw [ordR, hv]; rfl
theorem ordR_len {u : Int} {xs : List NoteI} : (ordR u (coreN xs)).length ≤ xs.length := by
  rw [ordR]
  split
  · rw [ordL_len, coreN_len]; exact Nat.le_refl _
  · simp
theorem miss_none {u : Int} {xs : List NoteI} (hv : (bookB u (coreN xs) && compB (coreN xs)) = true) : missR17 u (coreN xs) = [] := by
  obtain ⟨hb, hc⟩ := and_parts hv
  have hcu : ∀ x ∈ coreN xs, x.cl.length = u.toNat := fun x hx => by
    obtain ⟨i, hi, rfl⟩ := List.getElem_of_mem hx
    have h1 := (noteB_true (book_note hb (k := i) hi)).1
    rw [List.getD_eq_getElem?_getD, List.getElem?_eq_getElem hi] at h1
    have h2 : ((coreN xs)[i].cl.length : Int) = u := h1
    omega
  rw [missR17, hb, if_pos rfl, ← miss_eq hcu, few_raw (comp_few hc)]
  rfl
structure MgF (u : Int) (xs zs ys : List NoteI) (rv : List NoteC) : Prop where
  b1 : bookB u (coreN xs) = true
  b2 : bookB u (coreN zs) = true
  b3 : bookB u (coreN ys) = true
  ag : mergeB u (coreN ys) (coreN xs) = true
  agr : mergeR u (coreN ys) (coreN xs) = rv
  r1 : (rawM (coreN xs)).length ≤ 12
  r2 : (rawM (coreN zs)).length ≤ 12
  r3 : (rawM (coreN ys)).length ≤ 12
  cmp : compB (coreN xs) = true → compB (coreN zs) = true → compB (coreN ys) = true
theorem merge_factsN {u : Int} {xs zs ys : List NoteI} {rv : List NoteC} (hq : mergeB u (coreN xs) (coreN zs) = true) (hr : mergeR u (coreN xs) (coreN zs) = rv) (hc : coreN ys = rv) (h1 : fewK u xs) (h2 : fewM (coreN zs) []) : MgF u xs zs ys rv := by
  obtain ⟨p1, p2, p3, p4⟩ := mergeB_parts hq
  have e : coreN ys = mergeL (coreN xs) (coreN zs) := by rw [hc, ← hr, mergeR, hq]; rfl
  have er : rv = mergeL (coreN xs) (coreN zs) := by rw [← hc, e]
  obtain ⟨g1, g2⟩ := merge_again hq
  obtain ⟨S, s1, s2⟩ := h1 p1
  have m1 := rawM_few s2
  have m2 := rawM_few h2
  have m3 := rawM_few (merge_few (book_asc p1) (book_asc p2) p3 s2 h2)
  rw [List.length_append] at m3
  have hnl : ([] : List (Int × Int)).length = 0 := rfl
  rw [hnl] at m2 m3
  exact ⟨p1, p2, by rw [e]; exact p4, by rw [e]; exact g1, by rw [e, er]; exact g2, by omega, by omega, by rw [e]; omega, fun c1 c2 => by rw [e]; exact merge_comp (book_asc p1) (book_asc p2) p3 c1 c2⟩
set_option maxRecDepth 100000 in
set_option maxHeartbeats 4000000 in
theorem specIsNb_any (u : Int) (a : Option Addr) (n c : Nat) (xs : List NoteI) (w : World) (hu : I64 u) (h : RdN w a n c xs) :
    Calls Tryz.prog 10 #[.int .i64 u, .slice a n c] w fun e w' => e = .returned (.bool (bookB u (coreN xs))) ∧ Below w.heap.size w w' := by
  have hM := Mem.start w
  have HU := Lib.hid hu
  have HH := Lib.hid h
  clear hu h
  go_enter Tryz.func10, Tryz.ntmps10
  go_wp2_with fail
  apply Mem.atA
  · exact memA
  clear hM
  intro wst hM
  (try simp only [World.size_alloc, World.size_setCell, World.heap_drewN, heapDrew, Nat.add_assoc, Nat.reduceAdd, sA, List.cons_append, List.nil_append] at hM)
  (first | refine (l17Good_any u a n c xs _ HU.out (HH.out.ext hM.below)).mono ?_)
  rintro e wc1 ⟨rfl, hb⟩
  replace hM := hM.ext hb
  clear hb
  go_wp2
  go_ret
  exact ⟨rfl, (by apply Mem.below; (exact memA))⟩
end Go.Proofs.YtjnbdgldpmmamaaGreat

/-
  The code that a law draws from, as it is read; is it too long.
-/
namespace Go.Proofs.YtjnbdgldpmmamaaGreat
set_option linter.unusedSimpArgs false
set_option linter.unusedVariables false
open Go.ChangeShapes Go.WideShapes Go.ChangeAt Go.RowKit Go.Joins

theorem Tryz.cellsC5 : Tryz.prog.cellsOf 5 = 1 := by kernel_rfl
theorem codeRd {W : World} {ad : Addr} {len cap : Nat} {zs : List Int} (hl : len ≤ cap) (hm : cap ≤ maxLen) (hz : zs.length = cap) (hcell : ∀ i, i < zs.length → W.cell? (ad.add i) = some (.int .u8 (zs.getD i 0))) (hwz : ∀ n ∈ zs, (Lit.int .u8 n).wf = true) (hs : len ≤ 65536) : Rd FByt W (some ad) len cap ((zs.take len).map fun z => UInt8.ofNat z.toNat) := by
  refine ⟨by rw [List.length_map, List.length_take]; omega, hl, hm, fun e => (by simp at e), by show len * 1 ≤ _; omega, fun _ _ => trivial, fun k hk => ?_⟩
  have h0 := hcell 0 (by omega)
  obtain ⟨b, off, spot⟩ := ad
  obtain rfl : spot = none := by
    cases spot with
    | none => rfl
    | some s =>
      simp only [Addr.add, if_true, World.cell?] at h0
      split at h0
      · simp at h0
      · cases h0
  refine ⟨b, off, rfl, World.block_lt_of_cell? W _ h0, fun i hi j hj => ?_⟩
  obtain rfl : j = 0 := by
    have : j < 1 := hj
    omega
  have hci := hcell i (by omega)
  rw [Addr.add_lit] at hci
  show W.cell? ⟨b, off + (i * 1 + 0), none⟩ = _
  rw [show off + (i * 1 + 0) = off + i by omega, hci]
  have hiz : i < zs.length := by omega
  have hg : zs.getD i 0 = zs[i] := by simp [List.getD, hiz]
  have hw := hwz zs[i] (List.getElem_mem hiz)
  have hb : 0 ≤ zs[i] ∧ zs[i] ≤ 255 := by simpa [Lit.wf, IntKind.min, IntKind.max, IntKind.signed, IntKind.bits] using hw
  rw [hg]
  have hx : (((zs.take len).map fun z => UInt8.ofNat z.toNat).getD i FByt.z) = UInt8.ofNat zs[i].toNat := by
    simp [List.getD, List.getElem?_take, hi, hiz]
  rw [hx]
  have ht : ((UInt8.ofNat zs[i].toNat).toNat : Int) = zs[i] := by
    rw [UInt8.toNat_ofNat']
    omega
  rw [show FByt.enc (UInt8.ofNat zs[i].toNat) = [.int .u8 ((UInt8.ofNat zs[i].toNat).toNat : Int)] from rfl, ht]
  rfl

set_option maxRecDepth 100000 in
theorem openCode {H : Type} {enc : TypeId × Value → H} {W : World} {base : Nat} {v : Value} {d : DataW H} {p : List MemPlace} (hval : Value.okWide Tryz.prog W .any base 22 v) (h : DataW.Trod enc Tryz.prog W 0 (fun _ => true) true 22 v d p) : ∃ a n c l, v = .slice a n c ∧ n ≤ maxLen ∧ (n ≤ 65536 → Rd FByt W a n c l) := by
  obtain ⟨f, hf⟩ := h
  obtain ⟨b0, l0, cc0, rfl⟩ := okWide_slice Tryz.underlying22 hval
  rcases open_ints Tryz.underlying22 Tryz.underlying5 Tryz.cellsC5 hf with ⟨e, -⟩ | ⟨a, len, cap, zs, e, _, hl, hm, hz, _, hcell, hwz⟩
  · obtain ⟨rfl, rfl, rfl⟩ : b0 = none ∧ l0 = 0 ∧ cc0 = 0 := by simpa [Value.cells] using e
    exact ⟨none, 0, 0, [], rfl, Nat.zero_le _, fun _ => ⟨rfl, Nat.le_refl _, Nat.zero_le _, fun _ => rfl, by omega, by simp, fun k hk => by omega⟩⟩
  · obtain ⟨rfl, rfl, rfl⟩ : b0 = some a ∧ l0 = len ∧ cc0 = cap := by simpa [Value.cells] using e
    simp only [if_true] at hz
    exact ⟨some a, l0, cc0, _, rfl, Nat.le_trans hl hm, fun hs => codeRd hl hm hz hcell hwz hs⟩
set_option maxRecDepth 100000 in
theorem vBig_any (a : Option Addr) (n c : Nat) (w : World) :
    Calls Tryz.prog 4 #[.slice a n c] w fun e w' => e = .returned (.bool (decide (65536 < n))) ∧ Below w.heap.size w w' := by
  by_cases h : 65536 < n
  all_goals
    go_enter Tryz.func4, Tryz.ntmps4
    go_wp2
    go_ret
    exact ⟨rb (by simp [h]; try omega), Below.refl _ _⟩
end Go.Proofs.YtjnbdgldpmmamaaGreat
