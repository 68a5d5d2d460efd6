/-
  What a notebook lacks, both sides; is one note before another one, the reference's; is a notebook complete, the reference's.
-/
import Derived.Test.YtjnbdgldpmmamaaGreatUKnoI
import Derived.Test.YtjnbdgldpmmamaaGreatUNestN
/-
  What a notebook lacks, both sides; is one note before another one, the reference's; is a notebook complete, the reference's.
-/
namespace Go.Proofs.YtjnbdgldpmmamaaGreat
set_option linter.unusedSimpArgs false
set_option linter.unusedVariables false
open Go.RowKit

set_option maxRecDepth 100000 in
set_option maxHeartbeats 8000000 in
theorem l17Complete_any (u : Int) (a : Option Addr) (n c : Nat) (xs : List NoteI) (w : World) (hb : bookB u (coreN xs) = true) (h : RdN w a n c xs) :
    Calls Tryz.prog 30 #[.slice a n c] w fun e w' => e = .returned (.bool (compB (coreN xs))) ∧ Below w.heap.size w w' := by
  have hM := Mem.start w
  have hn12 : n ≤ 12 := by have := book_len hb; rw [coreN_len, h.rd.len] at this; exact this
  have hNL : (coreN xs).length = n := by rw [coreN_len, h.rd.len]
  have HKN := Lib.hid (fun (w' : World) (k : Nat) (hk : k < n) (hb' : Below w.heap.size w w') => l17Knows_any u a n c xs k w' hb (h.ext hb') hk)
  have HCE := Lib.hid (show compTo (coreN xs) n = compB (coreN xs) by rw [← hNL]; rfl)
  have HCS := Lib.hid (compTo_succ (coreN xs))
  have HBD := Lib.hid (fun (k : Nat) (hk : k < n) (hq : knowB (coreN xs) ((coreN xs).getD k NoteC.zero) = false) => compB_bad (l := coreN xs) (k := k) (by rw [hNL]; exact hk) hq)
  obtain ⟨cb, hcb⟩ : ∃ cb, compB (coreN xs) = cb := ⟨_, rfl⟩
  rw [hcb] at HBD HCE ⊢
  have HH := Lib.hid h
  clear hb h hNL hcb
  go_enter Tryz.func30, Tryz.ntmps30
  go_wp2_with fail
  go_loopw [3] (fun s3 wr => ∃ k : Nat, k ≤ n ∧ s3 = .int .i64 k ∧ Hid (compTo (coreN xs) k = true) ∧ Mem w.heap.size w wr []) (fun s3 _ => n - (intOf s3).toNat)
  case atStart => exact ⟨0, Nat.zero_le _, rfl, Lib.hid rfl, hM⟩
  case round =>
    clear hM
    obtain ⟨k, hk, rfl, HCT, hM⟩ := hrel
    by_cases hlt : k < n
    · obtain ⟨b, off, rfl, -, -⟩ := HH.out.rd.at' _ hlt
      obtain ⟨x0, x1, x2, x3⟩ := ((HH.out.rd.ext hM.below).cellNote hlt).2
      have hkn := fun w' hb' => HKN.out w' k hlt hb'
      have hbd := HBD.out k hlt
      have hcs := HCS.out k
      rw [HCT.out, Bool.true_and] at hcs
      rw [coreN_getD] at hbd hcs
      obtain ⟨x, hx⟩ : ∃ x, xs.getD k NoteI.zero = x := ⟨_, rfl⟩
      simp only [hx] at x0 x1 x2 x3 hkn hbd hcs
      obtain ⟨xu, xq, xa, xn, xc, xl, xw⟩ := x
      dsimp only at x0 x1 x2 x3
      obtain ⟨q, hq⟩ : ∃ q, knowB (coreN xs) (NoteI.core ⟨xu, xq, xa, xn, xc, xl, xw⟩) = q := ⟨_, rfl⟩
      simp only [hq] at hkn hbd hcs
      have HKX := Lib.hid hkn; have HBX := Lib.hid hbd; have HST := Lib.hid hcs
      clear hx hkn hbd hcs hq
      have i0 : (0 : Int) ≤ (k : Int) := by omega
      have i1 : (k : Int) < (n : Int) := by omega
      go_wp2_with fail
      apply Mem.atA
      · exact memA
      clear hM
      intro wst hM
      (try simp only [World.size_alloc, World.size_setCell, World.heap_drewN, heapDrew, Nat.add_assoc, Nat.reduceAdd, sA, List.cons_append, List.nil_append] at hM)
      (first | refine (HKX.out _ hM.below).mono ?_)
      rintro e wc1 ⟨rfl, hb⟩
      replace hM := hM.ext hb
      clear hb
      clear x0 x1 x2 x3
      cases q
      · have hcf := HBX.out rfl
        subst hcf
        go_wp2
        go_ret
        exact ⟨rfl, (by apply Mem.below; (exact memA))⟩
      · go_wp2
        go_roundw
        case rel => exact ⟨k + 1, by omega, by go_num, Lib.hid HST.out, hM⟩
        case measure => simp [intOf]; omega
    · obtain rfl : k = n := by omega
      have hcb := HCE.out.symm.trans HCT.out
      subst hcb
      clear HCT
      go_wp2
      go_ret
      exact ⟨rfl, (by apply Mem.below; (exact memA))⟩
set_option maxRecDepth 100000 in
set_option maxHeartbeats 4000000 in
theorem specComp_any (u : Int) (a : Option Addr) (n c : Nat) (xs : List NoteI) (w : World) (hu : I64 u) (h : RdN w a n c xs) :
    Calls Tryz.prog 12 #[.int .i64 u, .slice a n c] w fun e w' => e = .returned (.tuple #[.bool (bookB u (coreN xs) && compB (coreN xs)), .bool (bookB u (coreN xs))]) ∧ Below w.heap.size w w' := by
  have hM := Mem.start w
  have HU := Lib.hid hu
  have HH := Lib.hid h
  clear hu h
  cases hb : bookB u (coreN xs)
  · have HB := Lib.hid hb; clear hb
    rw [Bool.false_and]
    go_enter Tryz.func12, Tryz.ntmps12
    go_wp2_with fail
    apply Mem.atA
    · exact memA
    clear hM
    intro wst hM
    (try simp only [World.size_alloc, World.size_setCell, World.heap_drewN, heapDrew, Nat.add_assoc, Nat.reduceAdd, sA, List.cons_append, List.nil_append] at hM)
    (first | refine (l17Good_any u a n c xs _ HU.out (HH.out.ext hM.below)).mono ?_)
    rw [HB.out]
    rintro e wc2 ⟨rfl, hb⟩
    replace hM := hM.ext hb
    clear hb
    go_wp2
    go_ret2
    exact ⟨rfl, (by apply Mem.below; (exact memA))⟩
  · have HC := Lib.hid (fun (w' : World) (hb' : Below w.heap.size w w') => l17Complete_any u a n c xs w' hb (HH.out.ext hb'))
    have HB := Lib.hid hb; clear hb
    obtain ⟨q, hq⟩ : ∃ q, compB (coreN xs) = q := ⟨_, rfl⟩
    rw [hq] at HC ⊢
    rw [Bool.true_and]
    clear hq
    go_enter Tryz.func12, Tryz.ntmps12
    go_wp2_with fail
    apply Mem.atA
    · exact memA
    clear hM
    intro wst hM
    (try simp only [World.size_alloc, World.size_setCell, World.heap_drewN, heapDrew, Nat.add_assoc, Nat.reduceAdd, sA, List.cons_append, List.nil_append] at hM)
    (first | refine (l17Good_any u a n c xs _ HU.out (HH.out.ext hM.below)).mono ?_)
    rw [HB.out]
    rintro e wc3 ⟨rfl, hb⟩
    replace hM := hM.ext hb
    clear hb
    go_wp2_with fail
    apply Mem.atA
    · exact memA
    clear hM
    intro wst hM
    (try simp only [World.size_alloc, World.size_setCell, World.heap_drewN, heapDrew, Nat.add_assoc, Nat.reduceAdd, sA, List.cons_append, List.nil_append] at hM)
    (first | refine (HC.out _ hM.below).mono ?_)
    rintro e wc4 ⟨rfl, hb⟩
    replace hM := hM.ext hb
    clear hb
    go_wp2
    go_ret2
    exact ⟨rfl, (by apply Mem.below; (exact memA))⟩
/-- the notes that are told and that are not there -/
def missR17 (u : Int) (l : List NoteC) : List (Int × Int) := if bookB u l then missTo l u.toNat else []
theorem Mem.nilPair {B : Nat} {w0 w : World} {G : List Ent} (h : Mem B w0 w G) : Mem B w0 w [pairE none 0 0 []] :=
  ⟨h.below, h.size, by intro e he; obtain rfl : e = _ := by simpa using he
                       exact ow_nil _ _ _ _, List.pairwise_singleton _ _⟩
set_option maxRecDepth 100000 in
set_option maxHeartbeats 4000000 in
theorem implMissN_any (u : Int) (a : Option Addr) (n c : Nat) (xs : List NoteI) (w : World) (hu : I64 u) (h : RdN w a n c xs) (hf : bookB u (coreN xs) = true → (rawM (coreN xs)).length ≤ 12) :
    Calls Tryz.prog 13 #[.int .i64 u, .slice a n c] w fun e w' => ∃ a' c', e = .returned (.tuple #[.slice a' (missR17 u (coreN xs)).length c', .bool (bookB u (coreN xs))]) ∧ Mem w.heap.size w w' [pairE a' (missR17 u (coreN xs)).length c' (missR17 u (coreN xs))] := by
  have hM := Mem.start w
  have HU := Lib.hid hu
  have HH := Lib.hid h
  clear hu h
  cases hb : bookB u (coreN xs)
  · have hr : missR17 u (coreN xs) = [] := by rw [missR17, hb]; rfl
    rw [hr]
    have HB := Lib.hid hb; clear hb hf hr
    go_enter Tryz.func13, Tryz.ntmps13
    go_wp2_with fail
    apply Mem.atA
    · exact memA
    clear hM
    intro wst hM
    (try simp only [World.size_alloc, World.size_setCell, World.heap_drewN, heapDrew, Nat.add_assoc, Nat.reduceAdd, sA, List.cons_append, List.nil_append] at hM)
    (first | refine (isNotebook_any u a n c xs _ HU.out (HH.out.ext hM.below)).mono ?_)
    rw [HB.out]
    rintro e wc5 ⟨rfl, hb⟩
    replace hM := hM.ext hb
    clear hb
    go_wp2
    go_ret2
    exact ⟨none, 0, rfl, hM.nilPair⟩
  · have hcu : ∀ x ∈ coreN xs, x.cl.length = u.toNat := fun x hx => by
      obtain ⟨i, hi, rfl⟩ := List.getElem_of_mem hx
      have h1 := (noteB_true (book_note hb (k := i) hi)).1
      rw [List.getD_eq_getElem?_getD, List.getElem?_eq_getElem hi] at h1
      have h2 : ((coreN xs)[i].cl.length : Int) = u := h1
      omega
    have hr : missR17 u (coreN xs) = isortG ((0 : Int), (0 : Int)) ltP (rawM (coreN xs)) := by rw [missR17, hb, if_pos rfl, miss_eq hcu]
    have hl : (missR17 u (coreN xs)).length = (rawM (coreN xs)).length := by rw [hr, isortG_length]
    rw [hl, hr]
    have HC := Lib.hid (fun (w' : World) (hb' : Below w.heap.size w w') => missing_any u a n c xs w' hb (HH.out.ext hb') (hf hb))
    have HB := Lib.hid hb; clear hb hr hl hcu
    go_enter Tryz.func13, Tryz.ntmps13
    go_wp2_with fail
    apply Mem.atA
    · exact memA
    clear hM
    intro wst hM
    (try simp only [World.size_alloc, World.size_setCell, World.heap_drewN, heapDrew, Nat.add_assoc, Nat.reduceAdd, sA, List.cons_append, List.nil_append] at hM)
    (first | refine (isNotebook_any u a n c xs _ HU.out (HH.out.ext hM.below)).mono ?_)
    rw [HB.out]
    rintro e wc6 ⟨rfl, hb⟩
    replace hM := hM.ext hb
    clear hb
    go_wp2_with fail
    apply Mem.atA
    · exact memA
    clear hM
    intro wst hM
    (try simp only [World.size_alloc, World.size_setCell, World.heap_drewN, heapDrew, Nat.add_assoc, Nat.reduceAdd, sA, List.cons_append, List.nil_append] at hM)
    (first | refine (HC.out _ hM.below).mono ?_)
    rintro e wc7 ⟨a3, c3, rfl, hm⟩
    replace hM := hM.join hm
    clear hm
    (try simp only [World.size_alloc, World.size_setCell, World.heap_drewN, heapDrew, Nat.add_assoc, Nat.reduceAdd, sA, List.cons_append, List.nil_append] at hM)
    go_wp2
    go_ret2
    exact ⟨a3, c3, rfl, hM⟩
theorem missTo_len (l : List NoteC) (hm : ∀ u, mostTo l u l.length ≤ 12) : ∀ n, (missTo l n).length ≤ 12 * n
  | 0 => Nat.le_refl _
  | n + 1 => by
    have h1 := missTo_len l hm n
    have h2 : ∀ s, (lackU l n s).length ≤ s := fun s => by
      induction s with
      | zero => exact Nat.le_refl _
      | succ s ih =>
        rw [lackU]
        split
        · omega
        · rw [List.length_append, List.length_singleton]; omega
    have h3 := h2 (mostTo l n l.length).toNat
    have h4 := hm n
    rw [missTo, List.length_append]
    omega
theorem lackU_len (l : List NoteC) (u : Nat) : ∀ s, (lackU l u s).length ≤ s
  | 0 => Nat.le_refl _
  | s + 1 => by
    have ih := lackU_len l u s
    rw [lackU]
    split
    · omega
    · rw [List.length_append, List.length_singleton]; omega
theorem mostTo_b {l : List NoteC} {u : Nat} (h : ∀ k, k < l.length → ∀ z ∈ (l.getD k NoteC.zero).cl, 0 ≤ z ∧ z ≤ 12) : ∀ k, k ≤ l.length → 0 ≤ mostTo l u k ∧ mostTo l u k ≤ 12
  | 0, _ => ⟨Int.le_refl _, by show (0 : Int) ≤ 12; omega⟩
  | k + 1, hk => by
    have ih := mostTo_b (u := u) h k (by omega)
    have h2 : 0 ≤ (l.getD k NoteC.zero).cl.getD u 0 ∧ (l.getD k NoteC.zero).cl.getD u 0 ≤ 12 := by
      generalize hc : (l.getD k NoteC.zero).cl = cl
      have h3 := h k (by omega)
      rw [hc] at h3
      rw [List.getD_eq_getElem?_getD]
      cases e : cl[u]? with
      | none => decide
      | some z => exact h3 z (List.mem_of_getElem? e)
    rw [mostTo]
    unfold moreI
    split <;> omega
set_option maxRecDepth 100000 in
set_option maxHeartbeats 8000000 in
theorem specMissN_any (u : Int) (a : Option Addr) (n c : Nat) (xs : List NoteI) (w : World) (hu : I64 u) (h : RdN w a n c xs) :
    Calls Tryz.prog 14 #[.int .i64 u, .slice a n c] w fun e w' => ∃ a' c', e = .returned (.tuple #[.slice a' (missR17 u (coreN xs)).length c', .bool (bookB u (coreN xs))]) ∧ Mem w.heap.size w w' [pairE a' (missR17 u (coreN xs)).length c' (missR17 u (coreN xs))] := by
  have hM := Mem.start w
  have HU := Lib.hid hu
  have HH := Lib.hid h
  clear hu h
  cases hb : bookB u (coreN xs)
  · have hr : missR17 u (coreN xs) = [] := by rw [missR17, hb]; rfl
    rw [hr]
    have HB := Lib.hid hb; clear hb hr
    go_enter Tryz.func14, Tryz.ntmps14
    go_wp2_with fail
    apply Mem.atA
    · exact memA
    clear hM
    intro wst hM
    (try simp only [World.size_alloc, World.size_setCell, World.heap_drewN, heapDrew, Nat.add_assoc, Nat.reduceAdd, sA, List.cons_append, List.nil_append] at hM)
    (first | refine (l17Good_any u a n c xs _ HU.out (HH.out.ext hM.below)).mono ?_)
    rw [HB.out]
    rintro e wc8 ⟨rfl, hb⟩
    replace hM := hM.ext hb
    clear hb
    go_wp2
    go_ret2
    exact ⟨_, _, rfl, Mem.toOwR (F := FPair) hM⟩
  · obtain ⟨u0, u1⟩ := book_u hb
    have hr : missR17 u (coreN xs) = missTo (coreN xs) u.toNat := by rw [missR17, hb]; rfl
    rw [hr]
    obtain ⟨U, rfl⟩ := Int.eq_ofNat_of_zero_le (show 0 ≤ u by omega)
    rw [Int.toNat_natCast]
    have hNL : (coreN xs).length = n := by rw [coreN_len, HH.out.rd.len]
    have hn12 : n ≤ 12 := by have := book_len hb; rw [hNL] at this; exact this
    have hvb := fun k (hk : k < (coreN xs).length) => (noteB_true (book_note hb (k := k) hk)).2.1
    have HMB := Lib.hid (fun (v k : Nat) (hk : k ≤ n) => mostTo_b (u := v) hvb k (by rw [hNL]; exact hk))
    have HCL := Lib.hid (fun (k : Nat) (hk : k < n) => (by
      have h1 := (noteB_true (book_note hb (k := k) (by rw [hNL]; exact hk))).1
      rw [coreN_getD] at h1
      have h2 : ((xs.getD k NoteI.zero).cl.length : Int) = (U : Int) := h1
      rw [(HH.out.get hk).len] at h2
      omega : (xs.getD k NoteI.zero).n = U))
    have HML := Lib.hid (missTo_len (coreN xs) (fun v => (mostTo_b (u := v) hvb (coreN xs).length (Nat.le_refl _)).2))
    have HMS := Lib.hid (fun v => (by rw [missTo, hNL] : missTo (coreN xs) (v + 1) = missTo (coreN xs) v ++ lackU (coreN xs) v (mostTo (coreN xs) v n).toNat))
    have HMO := Lib.hid (fun v k => (by rw [mostTo, coreN_getD]; rfl : mostTo (coreN xs) v (k + 1) = moreI (mostTo (coreN xs) v k) ((xs.getD k NoteI.zero).cl.getD v 0)))
    have HB := Lib.hid hb; clear hb hr hvb hNL
    obtain ⟨i0, hi, hz0, hz1, hz2⟩ := info_parts Tryz.info58
    go_enter Tryz.func14, Tryz.ntmps14
    go_wp2_with fail
    apply Mem.atA
    · exact memA
    clear hM
    intro wst hM
    (try simp only [World.size_alloc, World.size_setCell, World.heap_drewN, heapDrew, Nat.add_assoc, Nat.reduceAdd, sA, List.cons_append, List.nil_append] at hM)
    (first | refine (l17Good_any (U : Int) a n c xs _ HU.out (HH.out.ext hM.below)).mono ?_)
    rw [HB.out]
    rintro e wc9 ⟨rfl, hb⟩
    replace hM := hM.ext hb
    clear hb
    replace hM := Mem.toOwR (F := FPair) hM
    go_wp2_with fail
    go_loopw [6, 7] (fun s6 s7 wr => ∃ (v : Nat) (a6 : Option Addr) (c6 : Nat), v ≤ U ∧ s7 = .int .i64 v ∧ s6 = .slice a6 (missTo (coreN xs) v).length c6 ∧ Mem w.heap.size w wr [pairE a6 (missTo (coreN xs) v).length c6 (missTo (coreN xs) v)]) (fun _ s7 _ => U - (intOf s7).toNat)
    case atStart => exact ⟨0, _, _, Nat.zero_le _, rfl, rfl, hM⟩
    case round =>
      clear hM
      obtain ⟨v, a6, c6, hv, rfl, rfl, hM⟩ := hrel
      by_cases hlv : v < U
      · have hml := HML.out v
        have hms := HMS.out v
        obtain ⟨ms, hmse⟩ : ∃ ms, missTo (coreN xs) v = ms := ⟨_, rfl⟩
        rw [hmse] at hM hms hml ⊢
        have HMN := Lib.hid hms
        clear hms hmse
        have hmo := HMO.out v
        have hmb := HMB.out v
        have HMOV := Lib.hid hmo; have HMBV := Lib.hid hmb
        clear hmo hmb
        go_wp2_with fail
        go_loopw [8, 9] (fun s8 s9 wr => ∃ k : Nat, k ≤ n ∧ s9 = .int .i64 k ∧ s8 = .int .i64 (mostTo (coreN xs) v k) ∧ Mem w.heap.size w wr [pairE a6 ms.length c6 ms]) (fun _ s9 _ => n - (intOf s9).toNat)
        case atStart => exact ⟨0, Nat.zero_le _, rfl, rfl, hM⟩
        case round =>
          clear hM
          obtain ⟨k, hk, rfl, rfl, hM⟩ := hrel
          by_cases hlk : k < n
          · obtain ⟨b, off, rfl, -, -⟩ := HH.out.rd.at' _ hlk
            have x2 := ((HH.out.rd.ext hM.below).cellNote hlk).2.2.2.1
            have hmo := HMOV.out k
            have hcu := HCL.out k hlk
            have hxi := HH.out.get hlk
            obtain ⟨x, hx⟩ : ∃ x, xs.getD k NoteI.zero = x := ⟨_, rfl⟩
            rw [hx] at x2 hmo hcu hxi
            clear hx
            obtain ⟨xu, xq, xa, xn, xc, xl, xw⟩ := x
            dsimp only at x2 hmo hcu hxi
            subst hcu
            obtain ⟨bx, ox, rfl, -, -⟩ := hxi.at' v hlv
            have x3 := (hxi.ext hM.below).cellK hlv
            obtain ⟨z, hz⟩ : ∃ z, xl.getD v 0 = z := ⟨_, rfl⟩
            rw [hz] at x3 hmo
            obtain ⟨mo, hmoe⟩ : ∃ mo, mostTo (coreN xs) v k = mo := ⟨_, rfl⟩
            rw [hmoe] at hmo ⊢
            have HMX := Lib.hid hmo
            clear hz hmo hxi hmoe
            have k0 : (0 : Int) ≤ (k : Int) := by omega
            have k1 : (k : Int) < (n : Int) := by omega
            have v0 : (0 : Int) ≤ (v : Int) := by omega
            have v1 : (v : Int) < (xn : Int) := by omega
            go_wp2_with fail
            refine (l1MostN_any _ _ _).mono ?_
            rintro e w3 ⟨rfl, rfl⟩
            rw [← HMX.out]
            go_wp2
            go_roundw
            case rel => exact ⟨k + 1, by omega, by go_num, rfl, hM⟩
            case measure => simp [intOf]; omega
          · obtain rfl : k = n := by omega
            have hmb := HMBV.out k (Nat.le_refl _)
            obtain ⟨S, hS⟩ : ∃ S : Nat, mostTo (coreN xs) v k = (S : Int) := Int.eq_ofNat_of_zero_le hmb.1
            have hmn := HMN.out
            rw [hS, Int.toNat_natCast] at hmn
            rw [hS] at hmb ⊢
            have HMN2 := Lib.hid hmn
            clear hS hmn HMN HMOV HMBV
            have hS12 : S ≤ 12 := by omega
            clear hmb
            go_wp2_with fail
            go_loopw [6, 10] (fun s6 s10 wr => ∃ (s t : Nat) (a7 : Option Addr) (c7 : Nat), s ≤ S ∧ Hid (t = s + 1) ∧ s10 = .int .i64 t ∧ s6 = .slice a7 (ms ++ lackU (coreN xs) v s).length c7 ∧ Mem w.heap.size w wr [pairE a7 (ms ++ lackU (coreN xs) v s).length c7 (ms ++ lackU (coreN xs) v s)]) (fun _ s10 _ => S + 1 - (intOf s10).toNat)
            case atStart => exact ⟨0, 1, a6, c6, Nat.zero_le _, Lib.hid rfl, rfl, by rw [lackU, List.append_nil], by rw [lackU, List.append_nil]; exact hM⟩
            case round =>
              clear hM
              obtain ⟨s, t, a7, c7, hs, HTS, rfl, rfl, hM⟩ := hrel
              by_cases hls : s < S
              · have htX : t ≤ S := by have := HTS.out; omega
                have hte : (s : Int) + 1 = (t : Int) := by have := HTS.out; omega
                have hls2 := lackU_len (coreN xs) v s
                have hln : (ms ++ lackU (coreN xs) v s).length ≤ 1000 := by rw [List.length_append]; omega
                have hst : lackU (coreN xs) v (s + 1) = if hasP (coreN xs) ((v : Int), (t : Int)) then lackU (coreN xs) v s else lackU (coreN xs) v s ++ [((v : Int), (t : Int))] := by rw [lackU, hte]
                obtain ⟨lk, hlk⟩ : ∃ lk, lackU (coreN xs) v s = lk := ⟨_, rfl⟩
                rw [hlk] at hM hst hln ⊢
                obtain ⟨q, hq⟩ : ∃ q, hasP (coreN xs) ((v : Int), (t : Int)) = q := ⟨_, rfl⟩
                rw [hq] at hst
                have hfd : fndN (coreN xs) (keyN ((v : Int), (t : Int))) = if q then ((plN (coreN xs) (keyN ((v : Int), (t : Int))) : Nat) : Int) else -1 := by
                  unfold fndN
                  rw [show hasN (coreN xs) (keyN ((v : Int), (t : Int))) = q from hq]
                have HST := Lib.hid hst; have HFD := Lib.hid hfd
                clear hlk hq hst hfd hls2
                obtain ⟨pq, hpq⟩ : ∃ pq : Nat, plN (coreN xs) (keyN ((v : Int), (t : Int))) = pq := ⟨_, rfl⟩
                rw [hpq] at HFD
                clear hpq
                go_wp2_with fail
                apply Mem.atA
                · exact memA
                clear hM
                intro wst hM
                (try simp only [World.size_alloc, World.size_setCell, World.heap_drewN, heapDrew, Nat.add_assoc, Nat.reduceAdd, sA, List.cons_append, List.nil_append] at hM)
                (first | refine (l17Find_any _ k c xs (keyN ((v : Int), (t : Int))) _ (HH.out.ext hM.below)).mono ?_)
                rw [HFD.out]
                rintro e wc10 ⟨rfl, hb⟩
                replace hM := hM.ext hb
                clear hb
                cases q
                · have hne : (ms ++ lackU (coreN xs) v (s + 1)) = ms ++ lk ++ [((v : Int), (t : Int))] := by rw [HST.out, List.append_assoc]; rfl
                  have hnl : (ms ++ lackU (coreN xs) v (s + 1)).length = (ms ++ lk).length + 1 := by rw [hne, List.length_append]; rfl
                  have HNE := Lib.hid hne; have HNL := Lib.hid hnl
                  clear hne hnl
                  obtain ⟨zs, hzs⟩ : ∃ zs, ms ++ lk = zs := ⟨_, rfl⟩
                  rw [hzs] at hM hln HNE HNL ⊢
                  clear hzs
                  simp only [Bool.false_eq_true, if_false]
                  go_wp2_with (at_builtin; go_loud (apply Mem.atL; (focus ((repeat' (first | with_reducible exact hM | with_reducible exact hMp | with_reducible apply Mem.drew | with_reducible apply Mem.drewN | with_reducible apply Mem.alloc | with_reducible apply Mem.set | with_reducible exact Sto.row | ((with_reducible refine Sto.rowEq2 ?_ ?_); omega; rfl) | ((with_reducible refine Sto.rowEq ?_); omega) | with_reducible apply Sto.int | with_reducible apply Sto.there | with_reducible assumption | (unfold I64; omega) | (with_reducible (have hMx := Mem.undrew hM; exact hMx)) | (with_reducible (have hMx := Mem.undrew hMp; exact hMx)))); done)); clear hM; intro hM; (try simp only [World.size_alloc, World.size_setCell, World.heap_drewN, heapDrew, Nat.add_assoc, Nat.reduceAdd, sA, List.cons_append, List.nil_append] at hM); refine wpList_pushR (F := FPair) ((v : Int), (t : Int)) hM (fun _ => .here) rfl ⟨by show I64 (v : Int); unfold I64; omega, by show I64 (t : Int); unfold I64; omega⟩ (by decide) (by show (zs.length + 1) * 2 ≤ _; omega) i0 (.agg #[.int .i64 0, .int .i64 0]) 16 hi hz0 hz1 hz2 rfl (by omega) rfl _ _ _ Tryz.underlying34 rfl rfl rfl ?_))
                  intro a8 c8 w8 hM
                  go_wp2
                  go_roundw
                  case rel => exact ⟨s + 1, t + 1, a8, c8, by omega, Lib.hid (by rw [HTS.out]), by go_num, by rw [HNL.out], by rw [HNE.out, List.length_append]; exact hM⟩
                  case measure => simp [intOf]; omega
                · have hne : (ms ++ lackU (coreN xs) v (s + 1)) = ms ++ lk := by rw [HST.out]; rfl
                  have HNE := Lib.hid hne
                  clear hne
                  simp only [if_true]
                  have hp0 : ¬ (pq : Int) < 0 := by omega
                  go_wp2
                  go_roundw
                  case rel => exact ⟨s + 1, t + 1, a7, c7, by omega, Lib.hid (by rw [HTS.out]), by go_num, by rw [HNE.out], by rw [HNE.out]; exact hM⟩
                  case measure => simp [intOf]; omega
              · obtain rfl : s = S := by omega
                have htX : ¬ t ≤ s := by have := HTS.out; omega
                go_wp2
                go_roundw
                case rel => exact ⟨v + 1, a7, c7, by omega, by go_num, by rw [HMN2.out], by rw [HMN2.out]; exact hM⟩
                case measure => simp [intOf]; omega
      · obtain rfl : v = U := by omega
        go_wp2
        go_ret2
        exact ⟨a6, c6, rfl, hM⟩
set_option maxRecDepth 100000 in
set_option maxHeartbeats 8000000 in
theorem specIsBefore_any (u : Int) (x y : NoteI) (w : World) (hu : I64 u) (hkx : x.wd.length ≤ maxLen) (hky : y.wd.length ≤ maxLen) (hx : Ints w x.ad x.n x.c x.cl) (hy : Ints w y.ad y.n y.c y.cl) :
    Calls Tryz.prog 22 #[.int .i64 u, x.val, y.val] w fun e w' => e = .returned (.tuple #[.bool (cmpB u x.core y.core && befC x.core y.core), .bool (cmpB u x.core y.core)]) ∧ Below w.heap.size w w' := by
  have hM := Mem.start w
  have HX := Lib.hid (fun (w' : World) (hb : Below w.heap.size w w') => l17Single_any u x w' hu hkx (hx.ext hb))
  have HY := Lib.hid (fun (w' : World) (hb : Below w.heap.size w w') => l17Single_any u y w' hu hky (hy.ext hb))
  have HP := Lib.hid (fun h1 h2 => note_place (u := u) (x := x) (y := y) h1 h2 hy)
  have HS := Lib.hid (fun (h0 : 2 ≤ u ∧ u ≤ 4) (h1 : noteB u x.core = true) (h2 : noteB u y.core = true) => (⟨note_small h0 h1, note_small h0 h2⟩ : smallN x ∧ smallN y))
  have HB := Lib.hid (fun (w' : World) (hb : Below w.heap.size w w') h s1 s2 => l17Before_any x y w' (hy.ext hb) h s1 s2)
  have HZ := Lib.hid (fun h => order_zero (a := x.core) (b := y.core) h)
  clear hu hkx hky hx hy
  obtain ⟨q0, h0⟩ : ∃ q, inB u 2 4 = q := ⟨_, rfl⟩
  obtain ⟨q1, h1⟩ : ∃ q, noteB u x.core = q := ⟨_, rfl⟩
  obtain ⟨q2, h2⟩ : ∃ q, noteB u y.core = q := ⟨_, rfl⟩
  obtain ⟨q3, h3⟩ : ∃ q, sameK x.core y.core = q := ⟨_, rfl⟩
  obtain ⟨q4, h4⟩ : ∃ q, befC x.core y.core = q := ⟨_, rfl⟩
  have hr : cmpB u x.core y.core = (q0 && q1 && q2 && !q3) := by unfold cmpB; rw [h0, h1, h2, h3]
  rw [hr]
  clear hr
  rw [h0, h1] at HX
  rw [h0, h2] at HY
  rw [h4, h3] at HB
  rw [h4]
  rw [h3] at HZ
  rw [h1, h2] at HP
  rw [h1, h2] at HS
  have H0 := Lib.hid h0
  clear h0 h1 h2 h3 h4
  obtain ⟨x0, x1, x2, x3, x4, x5, x6⟩ := x
  obtain ⟨y0, y1, y2, y3, y4, y5, y6⟩ := y
  cases q0
  · simp only [Bool.false_and] at HX ⊢
    go_enter Tryz.func22, Tryz.ntmps22
    go_upto_region 1 with fail
    apply Mem.atWpA
    · exact memA
    clear hM
    intro wst hM
    (try simp only [World.size_alloc, World.size_setCell, World.heap_drewN, heapDrew, Nat.add_assoc, Nat.reduceAdd, sA, List.cons_append, List.nil_append] at hM)
    obtain ⟨k0, f0, l0⟩ := hM.row .here
    obtain ⟨k1, f1, l1⟩ := hM.row (.there .here)
    go_wp2_with fail
    clear k0 f0 l0 k1 f1 l1
    apply Mem.atA
    · exact memA
    clear hM
    intro wst hM
    (try simp only [World.size_alloc, World.size_setCell, World.heap_drewN, heapDrew, Nat.add_assoc, Nat.reduceAdd, sA, List.cons_append, List.nil_append] at hM)
    (first | refine (HX.out _ hM.below).mono ?_)
    rintro e wc11 ⟨rfl, hb⟩
    replace hM := hM.ext hb
    clear hb
    go_wp2
    go_ret2
    exact ⟨rfl, (by apply Mem.below; (exact memA))⟩
  simp only [Bool.true_and] at HX HY ⊢
  cases q1
  · simp only [Bool.false_and]
    go_enter Tryz.func22, Tryz.ntmps22
    go_upto_region 1 with fail
    apply Mem.atWpA
    · exact memA
    clear hM
    intro wst hM
    (try simp only [World.size_alloc, World.size_setCell, World.heap_drewN, heapDrew, Nat.add_assoc, Nat.reduceAdd, sA, List.cons_append, List.nil_append] at hM)
    obtain ⟨k0, f0, l0⟩ := hM.row .here
    obtain ⟨k1, f1, l1⟩ := hM.row (.there .here)
    go_wp2_with fail
    clear k0 f0 l0 k1 f1 l1
    apply Mem.atA
    · exact memA
    clear hM
    intro wst hM
    (try simp only [World.size_alloc, World.size_setCell, World.heap_drewN, heapDrew, Nat.add_assoc, Nat.reduceAdd, sA, List.cons_append, List.nil_append] at hM)
    (first | refine (HX.out _ hM.below).mono ?_)
    rintro e wc12 ⟨rfl, hb⟩
    replace hM := hM.ext hb
    clear hb
    go_wp2
    go_ret2
    exact ⟨rfl, (by apply Mem.below; (exact memA))⟩
  cases q2
  · simp only [Bool.false_and, Bool.and_false]
    go_enter Tryz.func22, Tryz.ntmps22
    go_upto_region 1 with fail
    apply Mem.atWpA
    · exact memA
    clear hM
    intro wst hM
    (try simp only [World.size_alloc, World.size_setCell, World.heap_drewN, heapDrew, Nat.add_assoc, Nat.reduceAdd, sA, List.cons_append, List.nil_append] at hM)
    obtain ⟨k0, f0, l0⟩ := hM.row .here
    obtain ⟨k1, f1, l1⟩ := hM.row (.there .here)
    go_wp2_with fail
    clear k0 f0 l0 k1 f1 l1
    apply Mem.atA
    · exact memA
    clear hM
    intro wst hM
    (try simp only [World.size_alloc, World.size_setCell, World.heap_drewN, heapDrew, Nat.add_assoc, Nat.reduceAdd, sA, List.cons_append, List.nil_append] at hM)
    (first | refine (HX.out _ hM.below).mono ?_)
    rintro e wc13 ⟨rfl, hb⟩
    replace hM := hM.ext hb
    clear hb
    obtain ⟨k0, f0, l0⟩ := hM.row .here
    obtain ⟨k1, f1, l1⟩ := hM.row (.there .here)
    go_wp2_with fail
    clear k0 f0 l0 k1 f1 l1
    apply Mem.atA
    · exact memA
    clear hM
    intro wst hM
    (try simp only [World.size_alloc, World.size_setCell, World.heap_drewN, heapDrew, Nat.add_assoc, Nat.reduceAdd, sA, List.cons_append, List.nil_append] at hM)
    (first | refine (HY.out _ hM.below).mono ?_)
    rintro e wc14 ⟨rfl, hb⟩
    replace hM := hM.ext hb
    clear hb
    go_wp2
    go_ret2
    exact ⟨rfl, (by apply Mem.below; (exact memA))⟩
  have HPL := Lib.hid (HP.out rfl rfl)
  have HSL := Lib.hid (HS.out (inB_true H0.out) rfl rfl)
  clear HP HS
  have HOR := Lib.hid (HZ.out (by have h1 := HSL.out.1.2; have h2 := HSL.out.2.2; dsimp only at h1 h2; show -40 ≤ x1 - y1 ∧ x1 - y1 ≤ 40; omega))
  clear HZ
  simp only [Bool.true_and]
  cases q3
  · have e0 : ((x0 - y0) * 100 + x1 - y1 == 0) = false := by
      have h1 : ((x0 - y0) * 100 + x1 - y1 != 0) = true := HOR.out
      simp at h1
      simpa using h1
    go_enter Tryz.func22, Tryz.ntmps22
    go_upto_region 1 with fail
    apply Mem.atWpA
    · exact memA
    clear hM
    intro wst hM
    (try simp only [World.size_alloc, World.size_setCell, World.heap_drewN, heapDrew, Nat.add_assoc, Nat.reduceAdd, sA, List.cons_append, List.nil_append] at hM)
    obtain ⟨k0, f0, l0⟩ := hM.row .here
    obtain ⟨k1, f1, l1⟩ := hM.row (.there .here)
    go_wp2_with fail
    clear k0 f0 l0 k1 f1 l1
    apply Mem.atA
    · exact memA
    clear hM
    intro wst hM
    (try simp only [World.size_alloc, World.size_setCell, World.heap_drewN, heapDrew, Nat.add_assoc, Nat.reduceAdd, sA, List.cons_append, List.nil_append] at hM)
    (first | refine (HX.out _ hM.below).mono ?_)
    rintro e wc15 ⟨rfl, hb⟩
    replace hM := hM.ext hb
    clear hb
    obtain ⟨k0, f0, l0⟩ := hM.row .here
    obtain ⟨k1, f1, l1⟩ := hM.row (.there .here)
    go_wp2_with fail
    clear k0 f0 l0 k1 f1 l1
    apply Mem.atA
    · exact memA
    clear hM
    intro wst hM
    (try simp only [World.size_alloc, World.size_setCell, World.heap_drewN, heapDrew, Nat.add_assoc, Nat.reduceAdd, sA, List.cons_append, List.nil_append] at hM)
    (first | refine (HY.out _ hM.below).mono ?_)
    rintro e wc16 ⟨rfl, hb⟩
    replace hM := hM.ext hb
    clear hb
    obtain ⟨k0, f0, l0⟩ := hM.row .here
    obtain ⟨k1, f1, l1⟩ := hM.row (.there .here)
    go_wp2_with fail
    clear k0 f0 l0 k1 f1 l1
    apply Mem.atA
    · exact memA
    clear hM
    intro wst hM
    (try simp only [World.size_alloc, World.size_setCell, World.heap_drewN, heapDrew, Nat.add_assoc, Nat.reduceAdd, sA, List.cons_append, List.nil_append] at hM)
    (first | refine (l17Order_any ⟨x0, x1, x2, x3, x4, x5, x6⟩ ⟨y0, y1, y2, y3, y4, y5, y6⟩ _ HSL.out.1.1 HSL.out.2.1 (by have := HSL.out.1.2; omega) (by have := HSL.out.2.2; omega)).mono ?_)
    rintro e wc17 ⟨rfl, hb⟩
    replace hM := hM.ext hb
    clear hb
    try dsimp only
    obtain ⟨k0, f0, l0⟩ := hM.row .here
    obtain ⟨k1, f1, l1⟩ := hM.row (.there .here)
    go_wp2_with fail
    clear k0 f0 l0 k1 f1 l1
    apply Mem.atA
    · exact memA
    clear hM
    intro wst hM
    (try simp only [World.size_alloc, World.size_setCell, World.heap_drewN, heapDrew, Nat.add_assoc, Nat.reduceAdd, sA, List.cons_append, List.nil_append] at hM)
    (first | refine (HB.out _ hM.below HPL.out HSL.out.1 HSL.out.2).mono ?_)
    rintro e wc18 ⟨rfl, hb⟩
    replace hM := hM.ext hb
    clear hb
    go_wp2
    go_ret2
    exact ⟨by simp, (by apply Mem.below; (exact memA))⟩
  · have e0 : ((x0 - y0) * 100 + x1 - y1 == 0) = true := by
      have h1 : ((x0 - y0) * 100 + x1 - y1 != 0) = false := HOR.out
      simp at h1
      simpa using h1
    go_enter Tryz.func22, Tryz.ntmps22
    go_upto_region 1 with fail
    apply Mem.atWpA
    · exact memA
    clear hM
    intro wst hM
    (try simp only [World.size_alloc, World.size_setCell, World.heap_drewN, heapDrew, Nat.add_assoc, Nat.reduceAdd, sA, List.cons_append, List.nil_append] at hM)
    obtain ⟨k0, f0, l0⟩ := hM.row .here
    obtain ⟨k1, f1, l1⟩ := hM.row (.there .here)
    go_wp2_with fail
    clear k0 f0 l0 k1 f1 l1
    apply Mem.atA
    · exact memA
    clear hM
    intro wst hM
    (try simp only [World.size_alloc, World.size_setCell, World.heap_drewN, heapDrew, Nat.add_assoc, Nat.reduceAdd, sA, List.cons_append, List.nil_append] at hM)
    (first | refine (HX.out _ hM.below).mono ?_)
    rintro e wc19 ⟨rfl, hb⟩
    replace hM := hM.ext hb
    clear hb
    obtain ⟨k0, f0, l0⟩ := hM.row .here
    obtain ⟨k1, f1, l1⟩ := hM.row (.there .here)
    go_wp2_with fail
    clear k0 f0 l0 k1 f1 l1
    apply Mem.atA
    · exact memA
    clear hM
    intro wst hM
    (try simp only [World.size_alloc, World.size_setCell, World.heap_drewN, heapDrew, Nat.add_assoc, Nat.reduceAdd, sA, List.cons_append, List.nil_append] at hM)
    (first | refine (HY.out _ hM.below).mono ?_)
    rintro e wc20 ⟨rfl, hb⟩
    replace hM := hM.ext hb
    clear hb
    obtain ⟨k0, f0, l0⟩ := hM.row .here
    obtain ⟨k1, f1, l1⟩ := hM.row (.there .here)
    go_wp2_with fail
    clear k0 f0 l0 k1 f1 l1
    apply Mem.atA
    · exact memA
    clear hM
    intro wst hM
    (try simp only [World.size_alloc, World.size_setCell, World.heap_drewN, heapDrew, Nat.add_assoc, Nat.reduceAdd, sA, List.cons_append, List.nil_append] at hM)
    (first | refine (l17Order_any ⟨x0, x1, x2, x3, x4, x5, x6⟩ ⟨y0, y1, y2, y3, y4, y5, y6⟩ _ HSL.out.1.1 HSL.out.2.1 (by have := HSL.out.1.2; omega) (by have := HSL.out.2.2; omega)).mono ?_)
    rintro e wc21 ⟨rfl, hb⟩
    replace hM := hM.ext hb
    clear hb
    try dsimp only
    go_wp2
    go_ret2
    exact ⟨by simp, (by apply Mem.below; (exact memA))⟩
end Go.Proofs.YtjnbdgldpmmamaaGreat
