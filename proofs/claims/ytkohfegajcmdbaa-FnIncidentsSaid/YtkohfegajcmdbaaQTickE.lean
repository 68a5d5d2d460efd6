/-
  The end of an incident: last, l21End, TicksToEnd, SafeCells.
-/
import Derived.Test.YtkohfegajcmdbaaQIncG
import Derived.Test.YtkohfegajcmdbaaQTickI
import Derived.Test.YtkohfegajcmdbaaQTickS
import Derived.Test.YtkohfegajcmdbaaQSaved
/-
  The end of an incident: last, l21End, TicksToEnd, SafeCells.
-/
namespace Go.Proofs.Ytkohfegajcmdbaa
set_option linter.unusedSimpArgs false
set_option linter.unusedVariables false
open Go.RowKit

theorem Mem.split3 {B : Nat} {w0 w : World} {a1 a2 a3 : Option Addr} {n1 n2 n3 c1 c2 c3 : Nat} {x1 x2 x3 : List Int} {G : List Ent} (h : Mem B w0 w (intE a1 n1 c1 x1 :: intE a2 n2 c2 x2 :: intE a3 n3 c3 x3 :: G)) : Mem B w0 w G ∧ Ints w a1 n1 c1 x1 ∧ Ints w a2 n2 c2 x2 ∧ Ints w a3 n3 c3 x3 :=
  ⟨h.tail.tail.tail, (h.ints .here).ints, (h.ints (.there .here)).ints, (h.ints (.there (.there .here))).ints⟩

/-- the ticks to the end -/
def endK (W n : Nat) (xs fs ws : List Int) : Nat := restK W n xs 600 ⟨fs, ws⟩
def endF (W n : Nat) (xs fs ws : List Int) : FW := tickN W n xs (endK W n xs fs ws) ⟨fs, ws⟩

/-- what the end of an incident answers: the incident that came in, or one in new memory -/
def LastP (W Hn n : Nat) (a : Option Addr) (c : Nat) (xs : List Int) (af : Option Addr) (cf : Nat) (fs : List Int) (aw : Option Addr) (cw : Nat) (ws : List Int) (t : Int) (w : World) (e : Ending) (w' : World) : Prop :=
  ∃ b1 d1 b2 d2 b3 d3, e = .returned (.tuple #[.agg #[.int .i64 W, .int .i64 Hn, .slice b1 n d1, .slice b2 n d2, .slice b3 n d3, .int .i64 (t + (endK W n xs fs ws : Nat))], .int .i64 (endK W n xs fs ws : Nat)]) ∧
    ((endK W n xs fs ws = 0 ∧ b1 = a ∧ d1 = c ∧ b2 = af ∧ d2 = cf ∧ b3 = aw ∧ d3 = cw ∧ Below w.heap.size w w') ∨ Mem w.heap.size w w' [intE b1 n d1 xs, intE b2 n d2 (endF W n xs fs ws).f, intE b3 n d3 (endF W n xs fs ws).w])
theorem LastP.use {W Hn n : Nat} {a : Option Addr} {c : Nat} {xs : List Int} {af : Option Addr} {cf : Nat} {fs : List Int} {aw : Option Addr} {cw : Nat} {ws : List Int} {t : Int} {w w' : World} {e : Ending} {B : Nat} {w0 : World} {G : List Ent} (hp : LastP W Hn n a c xs af cf fs aw cw ws t w e w') (hM : Mem B w0 w G) (h : Ints w0 a n c xs) (hf : Ints w0 af n cf fs) (hw : Ints w0 aw n cw ws) (hB : B = w0.heap.size) :
    ∃ G' b1 d1 b2 d2 b3 d3, e = .returned (.tuple #[.agg #[.int .i64 W, .int .i64 Hn, .slice b1 n d1, .slice b2 n d2, .slice b3 n d3, .int .i64 (t + (endK W n xs fs ws : Nat))], .int .i64 (endK W n xs fs ws : Nat)]) ∧ Mem B w0 w' (G ++ G') ∧ ∀ w'' G2, Mem B w0 w'' (G2 ++ G') → Ints w'' b1 n d1 xs ∧ Ints w'' b2 n d2 (endF W n xs fs ws).f ∧ Ints w'' b3 n d3 (endF W n xs fs ws).w := by
  subst hB
  obtain ⟨b1, d1, b2, d2, b3, d3, he, hp⟩ := hp
  rcases hp with ⟨hk, rfl, rfl, rfl, rfl, rfl, rfl, hb⟩ | hm
  · refine ⟨[], b1, d1, b2, d2, b3, d3, he, by rw [List.append_nil]; exact hM.ext hb, fun w'' G2 hm => ?_⟩
    have e0 : endF W n xs fs ws = ⟨fs, ws⟩ := by unfold endF; rw [hk]; rfl
    rw [e0]
    exact ⟨h.ext hm.below, hf.ext hm.below, hw.ext hm.below⟩
  · refine ⟨_, b1, d1, b2, d2, b3, d3, he, (hM.join hm).perm List.perm_append_comm, fun w'' G2 hm => ?_⟩
    exact (hm.sub (List.sublist_append_right _ _)).split3.2

set_option maxRecDepth 100000 in
set_option maxHeartbeats 30000000 in
theorem last_any (W Hn : Nat) (a : Option Addr) (n c : Nat) (xs : List Int) (af : Option Addr) (cf : Nat) (fs : List Int) (aw : Option Addr) (cw : Nat) (ws : List Int) (t : Int) (w : World) (h : Ints w a n c xs) (hf : Ints w af n cf fs) (hw : Ints w aw n cw ws) (hnp : 0 < n) (hn25 : n ≤ 25) (hW : 1 ≤ W ∧ W ≤ 5) (ht : 0 ≤ t ∧ t ≤ 100000) (hxs : ∀ x ∈ xs, 0 ≤ x ∧ x ≤ 20) (hfs : ∀ x ∈ fs, x ≤ 20) (hws : ∀ x ∈ ws, 0 ≤ x) :
    Calls Try.prog 83 #[.agg #[.int .i64 W, .int .i64 Hn, .slice a n c, .slice af n cf, .slice aw n cw, .int .i64 t]] w ((LastP W Hn n a c xs af cf fs aw cw ws t w)) := by
  have hM := Mem.start w
  have hfc : ∀ c, fs.getD c 0 ≤ 20 := fun c => by
    by_cases hc : c < fs.length
    · exact hfs _ (getD_mem hc)
    · rw [List.getD_eq_getElem?_getD, List.getElem?_eq_none (by omega)]; decide
  have hxc : ∀ c, xs.getD c 0 ≤ 20 := fun c => by
    by_cases hc : c < xs.length
    · exact (hxs _ (getD_mem hc)).2
    · rw [List.getD_eq_getElem?_getD, List.getElem?_eq_none (by omega)]; decide
  have HPB := Lib.hid (phi_bound hxc hfc n)
  have HXS := Lib.hid (show ∀ x ∈ xs, 0 ≤ x from fun x hx => (hxs x hx).1)
  have HS := Lib.hid (tickN_facts (W := W) (xs := xs) (s := ⟨fs, ws⟩) hf.len hw.len hws)
  have HST := Lib.hid h
  have HSF := Lib.hid hf
  have HSW := Lib.hid hw
  have HEK := Lib.hid (show restK W n xs (600 - 0) (tickN W n xs 0 ⟨fs, ws⟩) + 0 = endK W n xs fs ws from rfl)
  have HEF := Lib.hid (show endF W n xs fs ws = tickN W n xs (endK W n xs fs ws) ⟨fs, ws⟩ from rfl)
  have hKb : endK W n xs fs ws ≤ 600 := restK_le
  obtain ⟨K, hK⟩ : ∃ K, endK W n xs fs ws = K := ⟨_, rfl⟩
  obtain ⟨E, hE⟩ : ∃ E, endF W n xs fs ws = E := ⟨_, rfl⟩
  have hek := HEK.out
  have hef := HEF.out
  rw [hK] at hek hef hKb
  rw [hE] at hef
  have HPO := Lib.hid (show ∀ e w', (∃ b1 d1 b2 d2 b3 d3, e = .returned (.tuple #[.agg #[.int .i64 W, .int .i64 Hn, .slice b1 n d1, .slice b2 n d2, .slice b3 n d3, .int .i64 (t + (K : Nat))], .int .i64 (K : Nat)]) ∧
    ((K = 0 ∧ b1 = a ∧ d1 = c ∧ b2 = af ∧ d2 = cf ∧ b3 = aw ∧ d3 = cw ∧ Below w.heap.size w w') ∨ Mem w.heap.size w w' [intE b1 n d1 xs, intE b2 n d2 E.f, intE b3 n d3 E.w])) → LastP W Hn n a c xs af cf fs aw cw ws t w e w' from fun e w' hp => by unfold LastP; rw [hK, hE]; exact hp)
  clear HEK HEF
  have HEK := Lib.hid hek; have HEF := Lib.hid hef
  clear hek hef hfs hws hxs hfc hxc hK hE h hf hw
  go_enter Try.func83, Try.ntmps83
  go_wp2_with fail
  apply Mem.atWpA
  · (repeat' (first | with_reducible exact hM | with_reducible exact hMp | with_reducible apply Mem.drew | with_reducible apply Mem.drewN | with_reducible apply Mem.alloc | with_reducible apply Mem.set | with_reducible exact Sto.row | ((with_reducible refine Sto.rowEq2 ?_ ?_); omega; rfl) | ((with_reducible refine Sto.rowEq ?_); omega) | with_reducible apply Sto.int | with_reducible apply Sto.there | with_reducible assumption | (unfold I64; omega) | (with_reducible (have hMx := Mem.undrew hM; exact hMx)) | (with_reducible (have hMx := Mem.undrew hMp; exact hMx))))
  clear hM
  intro wst hM
  (try simp only [World.size_alloc, World.size_setCell, World.heap_drewN, heapDrew, Nat.add_assoc, Nat.reduceAdd, List.setIfInBounds_toArray, List.set_cons_zero, List.set_cons_succ, List.cons_append, List.nil_append] at hM)
  go_loopg [4] 1000 (fun gh s4 wr => ∃ (G : List Ent) (k : Nat) (tt : Int) (b1 : Option Addr) (d1 : Nat) (b2 : Option Addr) (d2 : Nat) (b3 : Option Addr) (d3 : Nat), s4 = .int .i64 k ∧ tt = t + k ∧ phi xs (tickN W n xs k ⟨fs, ws⟩).f n + k ≤ 21 * n ∧ phi xs (tickN W n xs k ⟨fs, ws⟩).f n ≤ gh ∧ restK W n xs (600 - k) (tickN W n xs k ⟨fs, ws⟩) + k = K ∧ Mem w.heap.size w wr (rowE (w.heap.size + 1) 46 #[.int .i64 0, .int .i64 0, .slice none 0 0, .slice none 0 0, .slice none 0 0, .int .i64 0] :: rowE w.heap.size 46 #[.int .i64 W, .int .i64 Hn, .slice b1 n d1, .slice b2 n d2, .slice b3 n d3, .int .i64 tt] :: G) ∧ ((k = 0 ∧ b1 = a ∧ d1 = c ∧ b2 = af ∧ d2 = cf ∧ b3 = aw ∧ d3 = cw ∧ G = []) ∨ G = [intE b1 n d1 xs, intE b2 n d2 (tickN W n xs k ⟨fs, ws⟩).f, intE b3 n d3 (tickN W n xs k ⟨fs, ws⟩).w]))
  case atStart => exact ⟨[], 0, t, a, c, af, cf, aw, cw, rfl, by omega, HPB.out, by have := HPB.out; show phi xs fs n ≤ 1000; omega, HEK.out, hM, .inl ⟨rfl, rfl, rfl, rfl, rfl, rfl, rfl, rfl⟩⟩
  case round =>
    clear hM
    obtain ⟨G, k, tt, b1, d1, b2, d2, b3, d3, rfl, htt, hph, hgh, hkk, hM, hD⟩ := hrel
    have hR : ∀ w', Mem w.heap.size w w' G → Ints w' b1 n d1 xs ∧ Ints w' b2 n d2 (tickN W n xs k ⟨fs, ws⟩).f ∧ Ints w' b3 n d3 (tickN W n xs k ⟨fs, ws⟩).w := by
      intro w' hm
      rcases hD with ⟨rfl, rfl, rfl, rfl, rfl, rfl, rfl, rfl⟩ | rfl
      · exact ⟨HST.out.ext hm.below, HSF.out.ext hm.below, HSW.out.ext hm.below⟩
      · exact hm.split3.2
    obtain ⟨-, -, hwp⟩ := HS.out k
    have hph2 : k ≤ 21 * n := by omega
    have htb : 0 ≤ tt ∧ tt ≤ 200000 := by omega
    have HTT := Lib.hid htt
    clear htt
    have htd := fun hb => tick_phi (W := W) (n := n) (xs := xs) (s := tickN W n xs k ⟨fs, ws⟩) hb
    have hdn := fun hb => restK_done (W := W) (n := n) (xs := xs) (m := 600 - k) (s := tickN W n xs k ⟨fs, ws⟩) hb
    have hsp := fun hb => restK_step (W := W) (n := n) (xs := xs) (m := 600 - (k + 1)) (s := tickN W n xs k ⟨fs, ws⟩) hb
    have htn : tickN W n xs (k + 1) ⟨fs, ws⟩ = tickF W n xs (tickN W n xs k ⟨fs, ws⟩) := rfl
    obtain ⟨S, hS⟩ : ∃ S, tickN W n xs k ⟨fs, ws⟩ = S := ⟨_, rfl⟩
    rw [hS] at hph hgh hkk hR hwp htd hdn hsp htn hD
    have HD := Lib.hid hD
    clear hD
    have HSS := Lib.hid hS
    have HR := Lib.hid hR
    have HPH := Lib.hid hph; have HGH := Lib.hid hgh; have HKK := Lib.hid hkk; have HTD := Lib.hid htd; have HDN := Lib.hid hdn; have HSP := Lib.hid hsp; have HTN := Lib.hid htn; have HWP := Lib.hid hwp
    clear hS hph hgh hkk htd hdn hsp htn hwp hR
    obtain ⟨h, hf, hw⟩ := HR.out _ hM.tail.tail
    obtain ⟨k1, f1, l1⟩ := hM.row (.there .here)
    go_wp2_with fail
    refine (burning_any W Hn b1 n d1 xs b2 d2 S.f b3 d3 S.w tt _ h hf hw hn25).mono ?_
    clear h hf hw
    rintro e w2 ⟨a', m, c', rfl, hm⟩
    replace hM := hM.join hm
    clear hm k1 f1 l1
    (try simp only [World.size_alloc, World.size_setCell, World.heap_drewN, heapDrew, Nat.add_assoc, Nat.reduceAdd, List.setIfInBounds_toArray, List.set_cons_zero, List.set_cons_succ, List.cons_append, List.nil_append] at hM)
    have hml := (hM.ints .here).len
    have hmr := (hM.ints .here).room
    obtain ⟨h, hf, hw⟩ := HR.out _ hM.tail.tail.tail
    obtain ⟨k1, f1, l1⟩ := hM.row (.there .here)
    obtain ⟨k2, f2, l2⟩ := hM.row (.there (.there .here))
    by_cases hm0 : m = 0
    · subst hm0
      have hb0 : burnL n S.f = [] := List.eq_nil_of_length_eq_zero hml
      have hke : k = K := by have h1 := HKK.out; rw [HDN.out hb0] at h1; omega
      subst hke
      have HES := Lib.hid (show E = S by rw [HEF.out, HSS.out])
      clear hb0 hml h hf hw
      have HTV := Lib.hid (show Value.int .i64 tt = .int .i64 (t + k) by rw [HTT.out])
      go_wp2
      refine bodyPost_ret (v := .tuple #[.agg #[.int .i64 W, .int .i64 Hn, .slice b1 n d1, .slice b2 n d2, .slice b3 n d3, .int .i64 tt], .int .i64 k]) (by simp [results, Try.results83, go_sem, k1]) rfl (HPO.out _ _ ⟨b1, d1, b2, d2, b3, d3, by rw [HTV.out], ?_⟩)
      rcases HD.out with ⟨rfl, rfl, rfl, rfl, rfl, rfl, rfl, rfl⟩ | rfl
      · exact .inl ⟨rfl, rfl, rfl, rfl, rfl, rfl, rfl, (by apply Mem.below; (repeat' (first | with_reducible exact hM | with_reducible exact hMp | with_reducible apply Mem.drew | with_reducible apply Mem.drewN | with_reducible apply Mem.alloc | with_reducible apply Mem.set | with_reducible exact Sto.row | ((with_reducible refine Sto.rowEq2 ?_ ?_); omega; rfl) | ((with_reducible refine Sto.rowEq ?_); omega) | with_reducible apply Sto.int | with_reducible apply Sto.there | with_reducible assumption | (unfold I64; omega) | (with_reducible (have hMx := Mem.undrew hM; exact hMx)) | (with_reducible (have hMx := Mem.undrew hMp; exact hMx)))))⟩
      · rw [HES.out]
        refine .inr ?_
        apply Mem.tail
        apply Mem.tail
        apply Mem.tail
        (repeat' (first | with_reducible exact hM | with_reducible exact hMp | with_reducible apply Mem.drew | with_reducible apply Mem.drewN | with_reducible apply Mem.alloc | with_reducible apply Mem.set | with_reducible exact Sto.row | ((with_reducible refine Sto.rowEq2 ?_ ?_); omega; rfl) | ((with_reducible refine Sto.rowEq ?_); omega) | with_reducible apply Sto.int | with_reducible apply Sto.there | with_reducible assumption | (unfold I64; omega) | (with_reducible (have hMx := Mem.undrew hM; exact hMx)) | (with_reducible (have hMx := Mem.undrew hMp; exact hMx))))
    · have hb1 : burnL n S.f ≠ [] := fun e => hm0 (by rw [← hml, e]; rfl)
      have hmp : decide (0 < m) = true := decide_eq_true (by omega)
      have HB1 := Lib.hid hb1
      clear hb1 hml
      go_wp2_with fail
      apply Calls.mono
      · (apply tick_any W Hn b1 n d1 xs b2 d2 S.f b3 d3 S.w tt) <;> (first | (show (_ : Prop); with_reducible assumption) | (apply Hid.out; with_reducible assumption) | (apply Mem.intsR hM; (repeat' (first | with_reducible exact In.here | with_reducible apply In.there)); done) | (apply Ints.ext (hb := hM.below); with_reducible assumption) | (apply Rd.ext (hb := hM.below); with_reducible assumption) | (apply Mem.row hM; (repeat' (first | with_reducible exact In.here | with_reducible apply In.there)); done) | (apply Row.ext (hb := hM.below); with_reducible assumption) | exact ⟨by omega, by omega⟩ | omega | (trace_state; fail))
      clear h hf hw k1 f1 l1 k2 f2 l2
      rintro e w3 ⟨b4, d4, b5, d5, b6, d6, rfl, hm⟩
      replace hM := hM.join hm
      clear hm
      replace hM : Mem w.heap.size w w3 [rowE (w.heap.size + 1) 46 #[.int .i64 0, .int .i64 0, .slice none 0 0, .slice none 0 0, .slice none 0 0, .int .i64 0], rowE w.heap.size 46 #[.int .i64 W, .int .i64 Hn, .slice b1 n d1, .slice b2 n d2, .slice b3 n d3, .int .i64 tt], intE b4 n d4 xs, intE b5 n d5 (fireT W n xs S.f S.w), intE b6 n d6 (wetT n S.w)] := hM.pick (is := [4, 5, 0, 1, 2]) (by decide) rfl
      obtain ⟨k1, f1, l1⟩ := hM.row (.there .here)
      have hwt : IntKind.i64.wrap ((k : Int) + 1) = ((k + 1 : Nat) : Int) := by rw [wrap_in (by omega)]; omega
      go_wp2
      have HLT := Lib.hid (HTD.out HB1.out)
      go_roundg (gk - 1)
      case measure => have := HLT.out; have := HGH.out; omega
      case rel =>
        refine ⟨[intE b4 n d4 xs, intE b5 n d5 (fireT W n xs S.f S.w), intE b6 n d6 (wetT n S.w)], k + 1, tt + 1, b4, d4, b5, d5, b6, d6, rfl, by have := HTT.out; omega, ?_, ?_, ?_, ?_, ?_⟩
        · rw [HTN.out]; have := HLT.out; have := HPH.out; omega
        · rw [HTN.out]; have := HLT.out; have := HGH.out; omega
        · rw [HTN.out]
          have h1 := HKK.out
          rw [show 600 - k = (600 - (k + 1)) + 1 by omega, HSP.out HB1.out] at h1
          omega
        · (repeat' (first | with_reducible exact hM | with_reducible exact hMp | with_reducible apply Mem.drew | with_reducible apply Mem.drewN | with_reducible apply Mem.alloc | with_reducible apply Mem.set | with_reducible exact Sto.row | ((with_reducible refine Sto.rowEq2 ?_ ?_); omega; rfl) | ((with_reducible refine Sto.rowEq ?_); omega) | with_reducible apply Sto.int | with_reducible apply Sto.there | with_reducible assumption | (unfold I64; omega) | (with_reducible (have hMx := Mem.undrew hM; exact hMx)) | (with_reducible (have hMx := Mem.undrew hMp; exact hMx))))
        · exact .inr (by rw [HTN.out]; rfl)
set_option maxRecDepth 100000 in
set_option maxHeartbeats 30000000 in
theorem l21End_any (W Hn : Nat) (a : Option Addr) (n c : Nat) (xs : List Int) (af : Option Addr) (cf : Nat) (fs : List Int) (aw : Option Addr) (cw : Nat) (ws : List Int) (t : Int) (w : World) (h : Ints w a n c xs) (hf : Ints w af n cf fs) (hw : Ints w aw n cw ws) (hnp : 0 < n) (hn25 : n ≤ 25) (hW : 1 ≤ W ∧ W ≤ 5) (ht : 0 ≤ t ∧ t ≤ 100000) (hxs : ∀ x ∈ xs, 0 ≤ x ∧ x ≤ 20) (hfs : ∀ x ∈ fs, x ≤ 20) (hws : ∀ x ∈ ws, 0 ≤ x) :
    Calls Try.prog 85 #[.agg #[.int .i64 W, .int .i64 Hn, .slice a n c, .slice af n cf, .slice aw n cw, .int .i64 t]] w ((LastP W Hn n a c xs af cf fs aw cw ws t w)) := by
  have hM := Mem.start w
  have hfc : ∀ c, fs.getD c 0 ≤ 20 := fun c => by
    by_cases hc : c < fs.length
    · exact hfs _ (getD_mem hc)
    · rw [List.getD_eq_getElem?_getD, List.getElem?_eq_none (by omega)]; decide
  have hxc : ∀ c, xs.getD c 0 ≤ 20 := fun c => by
    by_cases hc : c < xs.length
    · exact (hxs _ (getD_mem hc)).2
    · rw [List.getD_eq_getElem?_getD, List.getElem?_eq_none (by omega)]; decide
  have HPB := Lib.hid (phi_bound hxc hfc n)
  have HXS := Lib.hid (show ∀ x ∈ xs, 0 ≤ x from fun x hx => (hxs x hx).1)
  have HS := Lib.hid (tickN_facts (W := W) (xs := xs) (s := ⟨fs, ws⟩) hf.len hw.len hws)
  have HST := Lib.hid h
  have HSF := Lib.hid hf
  have HSW := Lib.hid hw
  have HEK := Lib.hid (show restK W n xs (600 - 0) (tickN W n xs 0 ⟨fs, ws⟩) + 0 = endK W n xs fs ws from rfl)
  have HEF := Lib.hid (show endF W n xs fs ws = tickN W n xs (endK W n xs fs ws) ⟨fs, ws⟩ from rfl)
  have hKb : endK W n xs fs ws ≤ 600 := restK_le
  obtain ⟨K, hK⟩ : ∃ K, endK W n xs fs ws = K := ⟨_, rfl⟩
  obtain ⟨E, hE⟩ : ∃ E, endF W n xs fs ws = E := ⟨_, rfl⟩
  have hek := HEK.out
  have hef := HEF.out
  rw [hK] at hek hef hKb
  rw [hE] at hef
  have HPO := Lib.hid (show ∀ e w', (∃ b1 d1 b2 d2 b3 d3, e = .returned (.tuple #[.agg #[.int .i64 W, .int .i64 Hn, .slice b1 n d1, .slice b2 n d2, .slice b3 n d3, .int .i64 (t + (K : Nat))], .int .i64 (K : Nat)]) ∧
    ((K = 0 ∧ b1 = a ∧ d1 = c ∧ b2 = af ∧ d2 = cf ∧ b3 = aw ∧ d3 = cw ∧ Below w.heap.size w w') ∨ Mem w.heap.size w w' [intE b1 n d1 xs, intE b2 n d2 E.f, intE b3 n d3 E.w])) → LastP W Hn n a c xs af cf fs aw cw ws t w e w' from fun e w' hp => by unfold LastP; rw [hK, hE]; exact hp)
  clear HEK HEF
  have HEK := Lib.hid hek; have HEF := Lib.hid hef
  clear hek hef hfs hws hxs hfc hxc hK hE h hf hw
  go_enter Try.func85, Try.ntmps85
  go_wp2_with fail
  apply Mem.atWpA
  · (repeat' (first | with_reducible exact hM | with_reducible exact hMp | with_reducible apply Mem.drew | with_reducible apply Mem.drewN | with_reducible apply Mem.alloc | with_reducible apply Mem.set | with_reducible exact Sto.row | ((with_reducible refine Sto.rowEq2 ?_ ?_); omega; rfl) | ((with_reducible refine Sto.rowEq ?_); omega) | with_reducible apply Sto.int | with_reducible apply Sto.there | with_reducible assumption | (unfold I64; omega) | (with_reducible (have hMx := Mem.undrew hM; exact hMx)) | (with_reducible (have hMx := Mem.undrew hMp; exact hMx))))
  clear hM
  intro wst hM
  (try simp only [World.size_alloc, World.size_setCell, World.heap_drewN, heapDrew, Nat.add_assoc, Nat.reduceAdd, List.setIfInBounds_toArray, List.set_cons_zero, List.set_cons_succ, List.cons_append, List.nil_append] at hM)
  go_loopg [4] 1000 (fun gh s4 wr => ∃ (G : List Ent) (k : Nat) (tt : Int) (b1 : Option Addr) (d1 : Nat) (b2 : Option Addr) (d2 : Nat) (b3 : Option Addr) (d3 : Nat), s4 = .int .i64 k ∧ tt = t + k ∧ phi xs (tickN W n xs k ⟨fs, ws⟩).f n + k ≤ 21 * n ∧ phi xs (tickN W n xs k ⟨fs, ws⟩).f n ≤ gh ∧ restK W n xs (600 - k) (tickN W n xs k ⟨fs, ws⟩) + k = K ∧ Mem w.heap.size w wr (rowE (w.heap.size + 1) 46 #[.int .i64 0, .int .i64 0, .slice none 0 0, .slice none 0 0, .slice none 0 0, .int .i64 0] :: rowE w.heap.size 46 #[.int .i64 W, .int .i64 Hn, .slice b1 n d1, .slice b2 n d2, .slice b3 n d3, .int .i64 tt] :: G) ∧ ((k = 0 ∧ b1 = a ∧ d1 = c ∧ b2 = af ∧ d2 = cf ∧ b3 = aw ∧ d3 = cw ∧ G = []) ∨ G = [intE b1 n d1 xs, intE b2 n d2 (tickN W n xs k ⟨fs, ws⟩).f, intE b3 n d3 (tickN W n xs k ⟨fs, ws⟩).w]))
  case atStart => exact ⟨[], 0, t, a, c, af, cf, aw, cw, rfl, by omega, HPB.out, by have := HPB.out; show phi xs fs n ≤ 1000; omega, HEK.out, hM, .inl ⟨rfl, rfl, rfl, rfl, rfl, rfl, rfl, rfl⟩⟩
  case round =>
    clear hM
    obtain ⟨G, k, tt, b1, d1, b2, d2, b3, d3, rfl, htt, hph, hgh, hkk, hM, hD⟩ := hrel
    have hR : ∀ w', Mem w.heap.size w w' G → Ints w' b1 n d1 xs ∧ Ints w' b2 n d2 (tickN W n xs k ⟨fs, ws⟩).f ∧ Ints w' b3 n d3 (tickN W n xs k ⟨fs, ws⟩).w := by
      intro w' hm
      rcases hD with ⟨rfl, rfl, rfl, rfl, rfl, rfl, rfl, rfl⟩ | rfl
      · exact ⟨HST.out.ext hm.below, HSF.out.ext hm.below, HSW.out.ext hm.below⟩
      · exact hm.split3.2
    obtain ⟨-, -, hwp⟩ := HS.out k
    have hph2 : k ≤ 21 * n := by omega
    have htb : 0 ≤ tt ∧ tt ≤ 200000 := by omega
    have HTT := Lib.hid htt
    clear htt
    have htd := fun hb => tick_phi (W := W) (n := n) (xs := xs) (s := tickN W n xs k ⟨fs, ws⟩) hb
    have hdn := fun hb => restK_done (W := W) (n := n) (xs := xs) (m := 600 - k) (s := tickN W n xs k ⟨fs, ws⟩) hb
    have hsp := fun hb => restK_step (W := W) (n := n) (xs := xs) (m := 600 - (k + 1)) (s := tickN W n xs k ⟨fs, ws⟩) hb
    have htn : tickN W n xs (k + 1) ⟨fs, ws⟩ = tickF W n xs (tickN W n xs k ⟨fs, ws⟩) := rfl
    obtain ⟨S, hS⟩ : ∃ S, tickN W n xs k ⟨fs, ws⟩ = S := ⟨_, rfl⟩
    rw [hS] at hph hgh hkk hR hwp htd hdn hsp htn hD
    have HD := Lib.hid hD
    clear hD
    have HSS := Lib.hid hS
    have HR := Lib.hid hR
    have HPH := Lib.hid hph; have HGH := Lib.hid hgh; have HKK := Lib.hid hkk; have HTD := Lib.hid htd; have HDN := Lib.hid hdn; have HSP := Lib.hid hsp; have HTN := Lib.hid htn; have HWP := Lib.hid hwp
    clear hS hph hgh hkk htd hdn hsp htn hwp hR
    obtain ⟨h, hf, hw⟩ := HR.out _ hM.tail.tail
    obtain ⟨k1, f1, l1⟩ := hM.row (.there .here)
    go_wp2_with fail
    refine (l21Burning_any W Hn b1 n d1 xs b2 d2 S.f b3 d3 S.w tt _ h hf hw hn25).mono ?_
    clear h hf hw
    rintro e w2 ⟨a', m, c', rfl, hm⟩
    replace hM := hM.join hm
    clear hm k1 f1 l1
    (try simp only [World.size_alloc, World.size_setCell, World.heap_drewN, heapDrew, Nat.add_assoc, Nat.reduceAdd, List.setIfInBounds_toArray, List.set_cons_zero, List.set_cons_succ, List.cons_append, List.nil_append] at hM)
    have hml := (hM.ints .here).len
    have hmr := (hM.ints .here).room
    obtain ⟨h, hf, hw⟩ := HR.out _ hM.tail.tail.tail
    obtain ⟨k1, f1, l1⟩ := hM.row (.there .here)
    obtain ⟨k2, f2, l2⟩ := hM.row (.there (.there .here))
    by_cases hm0 : m = 0
    · subst hm0
      have hb0 : burnL n S.f = [] := List.eq_nil_of_length_eq_zero hml
      have hke : k = K := by have h1 := HKK.out; rw [HDN.out hb0] at h1; omega
      subst hke
      have HES := Lib.hid (show E = S by rw [HEF.out, HSS.out])
      clear hb0 hml h hf hw
      have HTV := Lib.hid (show Value.int .i64 tt = .int .i64 (t + k) by rw [HTT.out])
      go_wp2
      refine bodyPost_ret (v := .tuple #[.agg #[.int .i64 W, .int .i64 Hn, .slice b1 n d1, .slice b2 n d2, .slice b3 n d3, .int .i64 tt], .int .i64 k]) (by simp [results, Try.results85, go_sem, k1]) rfl (HPO.out _ _ ⟨b1, d1, b2, d2, b3, d3, by rw [HTV.out], ?_⟩)
      rcases HD.out with ⟨rfl, rfl, rfl, rfl, rfl, rfl, rfl, rfl⟩ | rfl
      · exact .inl ⟨rfl, rfl, rfl, rfl, rfl, rfl, rfl, (by apply Mem.below; (repeat' (first | with_reducible exact hM | with_reducible exact hMp | with_reducible apply Mem.drew | with_reducible apply Mem.drewN | with_reducible apply Mem.alloc | with_reducible apply Mem.set | with_reducible exact Sto.row | ((with_reducible refine Sto.rowEq2 ?_ ?_); omega; rfl) | ((with_reducible refine Sto.rowEq ?_); omega) | with_reducible apply Sto.int | with_reducible apply Sto.there | with_reducible assumption | (unfold I64; omega) | (with_reducible (have hMx := Mem.undrew hM; exact hMx)) | (with_reducible (have hMx := Mem.undrew hMp; exact hMx)))))⟩
      · rw [HES.out]
        refine .inr ?_
        apply Mem.tail
        apply Mem.tail
        apply Mem.tail
        (repeat' (first | with_reducible exact hM | with_reducible exact hMp | with_reducible apply Mem.drew | with_reducible apply Mem.drewN | with_reducible apply Mem.alloc | with_reducible apply Mem.set | with_reducible exact Sto.row | ((with_reducible refine Sto.rowEq2 ?_ ?_); omega; rfl) | ((with_reducible refine Sto.rowEq ?_); omega) | with_reducible apply Sto.int | with_reducible apply Sto.there | with_reducible assumption | (unfold I64; omega) | (with_reducible (have hMx := Mem.undrew hM; exact hMx)) | (with_reducible (have hMx := Mem.undrew hMp; exact hMx))))
    · have hb1 : burnL n S.f ≠ [] := fun e => hm0 (by rw [← hml, e]; rfl)
      have hmp : decide (0 < m) = true := decide_eq_true (by omega)
      have HB1 := Lib.hid hb1
      clear hb1 hml
      go_wp2_with fail
      apply Calls.mono
      · (apply l21Tick_any W Hn b1 n d1 xs b2 d2 S.f b3 d3 S.w tt) <;> (first | (show (_ : Prop); with_reducible assumption) | (apply Hid.out; with_reducible assumption) | (apply Mem.intsR hM; (repeat' (first | with_reducible exact In.here | with_reducible apply In.there)); done) | (apply Ints.ext (hb := hM.below); with_reducible assumption) | (apply Rd.ext (hb := hM.below); with_reducible assumption) | (apply Mem.row hM; (repeat' (first | with_reducible exact In.here | with_reducible apply In.there)); done) | (apply Row.ext (hb := hM.below); with_reducible assumption) | exact ⟨by omega, by omega⟩ | omega | (trace_state; fail))
      clear h hf hw k1 f1 l1 k2 f2 l2
      rintro e w3 ⟨b4, d4, b5, d5, b6, d6, rfl, hm⟩
      replace hM := hM.join hm
      clear hm
      replace hM : Mem w.heap.size w w3 [rowE (w.heap.size + 1) 46 #[.int .i64 0, .int .i64 0, .slice none 0 0, .slice none 0 0, .slice none 0 0, .int .i64 0], rowE w.heap.size 46 #[.int .i64 W, .int .i64 Hn, .slice b1 n d1, .slice b2 n d2, .slice b3 n d3, .int .i64 tt], intE b4 n d4 xs, intE b5 n d5 (fireT W n xs S.f S.w), intE b6 n d6 (wetT n S.w)] := hM.pick (is := [4, 5, 0, 1, 2]) (by decide) rfl
      obtain ⟨k1, f1, l1⟩ := hM.row (.there .here)
      have hwt : IntKind.i64.wrap ((k : Int) + 1) = ((k + 1 : Nat) : Int) := by rw [wrap_in (by omega)]; omega
      go_wp2
      have HLT := Lib.hid (HTD.out HB1.out)
      go_roundg (gk - 1)
      case measure => have := HLT.out; have := HGH.out; omega
      case rel =>
        refine ⟨[intE b4 n d4 xs, intE b5 n d5 (fireT W n xs S.f S.w), intE b6 n d6 (wetT n S.w)], k + 1, tt + 1, b4, d4, b5, d5, b6, d6, rfl, by have := HTT.out; omega, ?_, ?_, ?_, ?_, ?_⟩
        · rw [HTN.out]; have := HLT.out; have := HPH.out; omega
        · rw [HTN.out]; have := HLT.out; have := HGH.out; omega
        · rw [HTN.out]
          have h1 := HKK.out
          rw [show 600 - k = (600 - (k + 1)) + 1 by omega, HSP.out HB1.out] at h1
          omega
        · (repeat' (first | with_reducible exact hM | with_reducible exact hMp | with_reducible apply Mem.drew | with_reducible apply Mem.drewN | with_reducible apply Mem.alloc | with_reducible apply Mem.set | with_reducible exact Sto.row | ((with_reducible refine Sto.rowEq2 ?_ ?_); omega; rfl) | ((with_reducible refine Sto.rowEq ?_); omega) | with_reducible apply Sto.int | with_reducible apply Sto.there | with_reducible assumption | (unfold I64; omega) | (with_reducible (have hMx := Mem.undrew hM; exact hMx)) | (with_reducible (have hMx := Mem.undrew hMp; exact hMx))))
        · exact .inr (by rw [HTN.out]; rfl)

structure NB where
  k : Int
  ok : Bool
/-- does an incident end in time -/
def endB (W H : Int) (xs fs ws : List Int) (t : Int) : Bool := incB W H xs fs ws t && !decide (9999 < t + (endK W.toNat xs.length xs fs ws : Nat))
def ticksR (W H : Int) (xs fs ws : List Int) (t : Int) : NB := if endB W H xs fs ws t then ⟨(endK W.toNat xs.length xs fs ws : Nat), true⟩ else ⟨0, false⟩
def safeC (xs gs : List Int) (c : Nat) : Bool := brn xs c && (gs.getD c 0 == 0)
def safeR (W H : Int) (xs fs ws : List Int) (t : Int) : LB := if endB W H xs fs ws t then ⟨cellsN xs.length (safeC xs (endF W.toNat xs.length xs fs ws).f), true⟩ else ⟨[], false⟩
/-- what a valid incident gives -/
theorem incB_facts {W H : Int} {xs fs ws : List Int} {t : Int} (hi : incB W H xs fs ws t = true) : ∃ Wn Hn : Nat, W = Wn ∧ H = Hn ∧ fs.length = xs.length ∧ ws.length = xs.length ∧ 0 < xs.length ∧ xs.length ≤ 25 ∧ (1 ≤ Wn ∧ Wn ≤ 5) ∧ (0 ≤ t ∧ t ≤ 9999) ∧ (∀ x ∈ xs, 0 ≤ x ∧ x ≤ 20) ∧ (∀ x ∈ fs, x ≤ 20) ∧ (∀ x ∈ ws, 0 ≤ x) := by
  obtain ⟨hg, hlf, hlw, ht, hok⟩ := incB_true hi
  obtain ⟨Wn, Hn, rfl, rfl, p1, p2, p3, p4, hlen, h25, hall⟩ := goodB_true hg
  refine ⟨Wn, Hn, rfl, rfl, hlf, hlw, by rw [hlen]; exact Nat.mul_pos p1 p3, h25, ⟨p1, p2⟩, ht, hall, fun x hx => ?_, fun x hx => ?_⟩
  · obtain ⟨k, hk, rfl⟩ := List.getElem_of_mem hx
    have h1 := hok k (by omega)
    unfold okC at h1
    simp only [Bool.and_eq_true] at h1
    have h2 := (inB_true h1.1.2).2
    have h3 := (hall _ (getD_mem (xs := xs) (k := k) (by omega))).2
    have h4 : fs.getD k 0 = fs[k] := by simp [List.getD, hk]
    omega
  · obtain ⟨k, hk, rfl⟩ := List.getElem_of_mem hx
    have h1 := hok k (by omega)
    unfold okC at h1
    simp only [Bool.and_eq_true] at h1
    have h2 := (inB_true h1.2).1
    have h4 : ws.getD k 0 = ws[k] := by simp [List.getD, hk]
    omega

set_option maxRecDepth 100000 in
set_option maxHeartbeats 30000000 in
theorem implTicks_any (W H : Int) (a : Option Addr) (n c : Nat) (xs : List Int) (af : Option Addr) (nf cf : Nat) (fs : List Int) (aw : Option Addr) (nw cw : Nat) (ws : List Int) (t : Int) (w : World) (h : Ints w a n c xs) (hf : Ints w af nf cf fs) (hw : Ints w aw nw cw ws) :
    Calls Try.prog 28 #[.agg #[.int .i64 W, .int .i64 H, .slice a n c, .slice af nf cf, .slice aw nw cw, .int .i64 t]] w ((fun e w' => e = .returned (.tuple #[.int .i64 (ticksR W H xs fs ws t).k, .bool (ticksR W H xs fs ws t).ok]) ∧ Below w.heap.size w w')) := by
  have hM := Mem.start w
  cases hi : incB W H xs fs ws t
  · have HF := Lib.hid (show ticksR W H xs fs ws t = ⟨0, false⟩ by rw [ticksR, endB, hi]; rfl)
    go_enter Try.func28, Try.ntmps28
    go_wp2_with fail
    apply Mem.atA
    · (repeat' (first | with_reducible exact hM | with_reducible exact hMp | with_reducible apply Mem.drew | with_reducible apply Mem.drewN | with_reducible apply Mem.alloc | with_reducible apply Mem.set | with_reducible exact Sto.row | ((with_reducible refine Sto.rowEq2 ?_ ?_); omega; rfl) | ((with_reducible refine Sto.rowEq ?_); omega) | with_reducible apply Sto.int | with_reducible apply Sto.there | with_reducible assumption | (unfold I64; omega) | (with_reducible (have hMx := Mem.undrew hM; exact hMx)) | (with_reducible (have hMx := Mem.undrew hMp; exact hMx))))
    clear hM
    intro wst hM
    (try simp only [World.size_alloc, World.size_setCell, World.heap_drewN, heapDrew, Nat.add_assoc, Nat.reduceAdd, List.setIfInBounds_toArray, List.set_cons_zero, List.set_cons_succ, List.cons_append, List.nil_append] at hM)
    apply Calls.mono
    · (apply IsIncident_any) <;> (first | (show (_ : Prop); with_reducible assumption) | (apply Hid.out; with_reducible assumption) | (apply Mem.intsR hM; (repeat' (first | with_reducible exact In.here | with_reducible apply In.there)); done) | (apply Ints.ext (hb := hM.below); with_reducible assumption) | (apply Rd.ext (hb := hM.below); with_reducible assumption) | (apply Mem.row hM; (repeat' (first | with_reducible exact In.here | with_reducible apply In.there)); done) | (apply Row.ext (hb := hM.below); with_reducible assumption) | exact ⟨by omega, by omega⟩ | omega | (trace_state; fail))
    rw [hi]
    rintro e wc1 ⟨rfl, hb⟩
    replace hM := hM.ext hb
    clear hb
    obtain ⟨k0, f0, l0⟩ := hM.row .here
    go_wp2
    go_ret2
    exact ⟨by rw [HF.out]; rfl, (by apply Mem.below; (repeat' (first | with_reducible exact hM | with_reducible exact hMp | with_reducible apply Mem.drew | with_reducible apply Mem.drewN | with_reducible apply Mem.alloc | with_reducible apply Mem.set | with_reducible exact Sto.row | ((with_reducible refine Sto.rowEq2 ?_ ?_); omega; rfl) | ((with_reducible refine Sto.rowEq ?_); omega) | with_reducible apply Sto.int | with_reducible apply Sto.there | with_reducible assumption | (unfold I64; omega) | (with_reducible (have hMx := Mem.undrew hM; exact hMx)) | (with_reducible (have hMx := Mem.undrew hMp; exact hMx)))))⟩
  have HI := Lib.hid hi
  obtain ⟨Wn, Hn, rfl, rfl, hlf, hlw, hnp, hn25, hW, ht, hxs, hfs, hws⟩ := incB_facts hi
  rw [h.len] at hlf hlw hnp hn25
  obtain rfl : nf = n := by rw [← hlf, hf.len]
  obtain rfl : nw = nf := by rw [← hlw, hw.len]
  have HXS := Lib.hid hxs; have HFS := Lib.hid hfs; have HWS := Lib.hid hws
  have hKb : endK Wn nw xs fs ws ≤ 600 := restK_le
  have HF0 := Lib.hid (show ticksR Wn Hn xs fs ws t = if (!decide (9999 < t + (endK Wn nw xs fs ws : Nat))) then ⟨(endK Wn nw xs fs ws : Nat), true⟩ else ⟨0, false⟩ by rw [ticksR, endB, hi, h.len, Int.toNat_natCast, Bool.true_and])
  clear hxs hfs hws hlf hlw hi
  go_enter Try.func28, Try.ntmps28
  go_wp2_with fail
  apply Mem.atA
  · (repeat' (first | with_reducible exact hM | with_reducible exact hMp | with_reducible apply Mem.drew | with_reducible apply Mem.drewN | with_reducible apply Mem.alloc | with_reducible apply Mem.set | with_reducible exact Sto.row | ((with_reducible refine Sto.rowEq2 ?_ ?_); omega; rfl) | ((with_reducible refine Sto.rowEq ?_); omega) | with_reducible apply Sto.int | with_reducible apply Sto.there | with_reducible assumption | (unfold I64; omega) | (with_reducible (have hMx := Mem.undrew hM; exact hMx)) | (with_reducible (have hMx := Mem.undrew hMp; exact hMx))))
  clear hM
  intro wst hM
  (try simp only [World.size_alloc, World.size_setCell, World.heap_drewN, heapDrew, Nat.add_assoc, Nat.reduceAdd, List.setIfInBounds_toArray, List.set_cons_zero, List.set_cons_succ, List.cons_append, List.nil_append] at hM)
  apply Calls.mono
  · (apply IsIncident_any) <;> (first | (show (_ : Prop); with_reducible assumption) | (apply Hid.out; with_reducible assumption) | (apply Mem.intsR hM; (repeat' (first | with_reducible exact In.here | with_reducible apply In.there)); done) | (apply Ints.ext (hb := hM.below); with_reducible assumption) | (apply Rd.ext (hb := hM.below); with_reducible assumption) | (apply Mem.row hM; (repeat' (first | with_reducible exact In.here | with_reducible apply In.there)); done) | (apply Row.ext (hb := hM.below); with_reducible assumption) | exact ⟨by omega, by omega⟩ | omega | (trace_state; fail))
  rw [HI.out]
  rintro e wc2 ⟨rfl, hb⟩
  replace hM := hM.ext hb
  clear hb
  obtain ⟨k0, f0, l0⟩ := hM.row .here
  go_wp2_with fail
  apply Calls.mono
  · (apply last_any Wn Hn a nw c xs af cf fs aw cw ws t) <;> (first | (show (_ : Prop); with_reducible assumption) | (apply Hid.out; with_reducible assumption) | (apply Mem.intsR hM; (repeat' (first | with_reducible exact In.here | with_reducible apply In.there)); done) | (apply Ints.ext (hb := hM.below); with_reducible assumption) | (apply Rd.ext (hb := hM.below); with_reducible assumption) | (apply Mem.row hM; (repeat' (first | with_reducible exact In.here | with_reducible apply In.there)); done) | (apply Row.ext (hb := hM.below); with_reducible assumption) | exact ⟨by omega, by omega⟩ | omega | (trace_state; fail))
  clear k0 f0 l0
  rintro e w3 hp
  obtain ⟨G, b1, d1, b2, d2, b3, d3, rfl, hM2, -⟩ := hp.use hM h hf hw rfl
  clear hp hM
  replace hM := hM2
  clear hM2
  simp only [List.cons_append, List.nil_append] at hM
  obtain ⟨K, hK⟩ : ∃ K, endK Wn nw xs fs ws = K := ⟨_, rfl⟩
  have hf0 := HF0.out
  rw [hK] at hKb hf0
  have HF := Lib.hid hf0
  rw [hK]
  clear hK hf0
  obtain ⟨k0, f0, l0⟩ := hM.row .here
  have hwt : IntKind.i64.wrap (t + (K : Int)) = t + (K : Int) := wrap_in (by omega)
  by_cases hq : 9999 < t + (K : Int)
  · have HQ := Lib.hid (decide_eq_true hq)
    go_wp2
    go_ret2
    exact ⟨by rw [HF.out, HQ.out]; rfl, (by apply Mem.below; (repeat' (first | with_reducible exact hM | with_reducible exact hMp | with_reducible apply Mem.drew | with_reducible apply Mem.drewN | with_reducible apply Mem.alloc | with_reducible apply Mem.set | with_reducible exact Sto.row | ((with_reducible refine Sto.rowEq2 ?_ ?_); omega; rfl) | ((with_reducible refine Sto.rowEq ?_); omega) | with_reducible apply Sto.int | with_reducible apply Sto.there | with_reducible assumption | (unfold I64; omega) | (with_reducible (have hMx := Mem.undrew hM; exact hMx)) | (with_reducible (have hMx := Mem.undrew hMp; exact hMx)))))⟩
  · have HQ := Lib.hid (decide_eq_false hq)
    go_wp2
    go_ret2
    exact ⟨by rw [HF.out, HQ.out]; rfl, (by apply Mem.below; (repeat' (first | with_reducible exact hM | with_reducible exact hMp | with_reducible apply Mem.drew | with_reducible apply Mem.drewN | with_reducible apply Mem.alloc | with_reducible apply Mem.set | with_reducible exact Sto.row | ((with_reducible refine Sto.rowEq2 ?_ ?_); omega; rfl) | ((with_reducible refine Sto.rowEq ?_); omega) | with_reducible apply Sto.int | with_reducible apply Sto.there | with_reducible assumption | (unfold I64; omega) | (with_reducible (have hMx := Mem.undrew hM; exact hMx)) | (with_reducible (have hMx := Mem.undrew hMp; exact hMx)))))⟩
set_option maxRecDepth 100000 in
set_option maxHeartbeats 30000000 in
theorem specTicks_any (W H : Int) (a : Option Addr) (n c : Nat) (xs : List Int) (af : Option Addr) (nf cf : Nat) (fs : List Int) (aw : Option Addr) (nw cw : Nat) (ws : List Int) (t : Int) (w : World) (h : Ints w a n c xs) (hf : Ints w af nf cf fs) (hw : Ints w aw nw cw ws) :
    Calls Try.prog 29 #[.agg #[.int .i64 W, .int .i64 H, .slice a n c, .slice af nf cf, .slice aw nw cw, .int .i64 t]] w ((fun e w' => e = .returned (.tuple #[.int .i64 (ticksR W H xs fs ws t).k, .bool (ticksR W H xs fs ws t).ok]) ∧ Below w.heap.size w w')) := by
  have hM := Mem.start w
  cases hi : incB W H xs fs ws t
  · have HF := Lib.hid (show ticksR W H xs fs ws t = ⟨0, false⟩ by rw [ticksR, endB, hi]; rfl)
    go_enter Try.func29, Try.ntmps29
    go_wp2_with fail
    apply Mem.atA
    · (repeat' (first | with_reducible exact hM | with_reducible exact hMp | with_reducible apply Mem.drew | with_reducible apply Mem.drewN | with_reducible apply Mem.alloc | with_reducible apply Mem.set | with_reducible exact Sto.row | ((with_reducible refine Sto.rowEq2 ?_ ?_); omega; rfl) | ((with_reducible refine Sto.rowEq ?_); omega) | with_reducible apply Sto.int | with_reducible apply Sto.there | with_reducible assumption | (unfold I64; omega) | (with_reducible (have hMx := Mem.undrew hM; exact hMx)) | (with_reducible (have hMx := Mem.undrew hMp; exact hMx))))
    clear hM
    intro wst hM
    (try simp only [World.size_alloc, World.size_setCell, World.heap_drewN, heapDrew, Nat.add_assoc, Nat.reduceAdd, List.setIfInBounds_toArray, List.set_cons_zero, List.set_cons_succ, List.cons_append, List.nil_append] at hM)
    apply Calls.mono
    · (apply l21Good_any) <;> (first | (show (_ : Prop); with_reducible assumption) | (apply Hid.out; with_reducible assumption) | (apply Mem.intsR hM; (repeat' (first | with_reducible exact In.here | with_reducible apply In.there)); done) | (apply Ints.ext (hb := hM.below); with_reducible assumption) | (apply Rd.ext (hb := hM.below); with_reducible assumption) | (apply Mem.row hM; (repeat' (first | with_reducible exact In.here | with_reducible apply In.there)); done) | (apply Row.ext (hb := hM.below); with_reducible assumption) | exact ⟨by omega, by omega⟩ | omega | (trace_state; fail))
    rw [hi]
    rintro e wc3 ⟨rfl, hb⟩
    replace hM := hM.ext hb
    clear hb
    obtain ⟨k0, f0, l0⟩ := hM.row .here
    go_wp2
    go_ret2
    exact ⟨by rw [HF.out]; rfl, (by apply Mem.below; (repeat' (first | with_reducible exact hM | with_reducible exact hMp | with_reducible apply Mem.drew | with_reducible apply Mem.drewN | with_reducible apply Mem.alloc | with_reducible apply Mem.set | with_reducible exact Sto.row | ((with_reducible refine Sto.rowEq2 ?_ ?_); omega; rfl) | ((with_reducible refine Sto.rowEq ?_); omega) | with_reducible apply Sto.int | with_reducible apply Sto.there | with_reducible assumption | (unfold I64; omega) | (with_reducible (have hMx := Mem.undrew hM; exact hMx)) | (with_reducible (have hMx := Mem.undrew hMp; exact hMx)))))⟩
  have HI := Lib.hid hi
  obtain ⟨Wn, Hn, rfl, rfl, hlf, hlw, hnp, hn25, hW, ht, hxs, hfs, hws⟩ := incB_facts hi
  rw [h.len] at hlf hlw hnp hn25
  obtain rfl : nf = n := by rw [← hlf, hf.len]
  obtain rfl : nw = nf := by rw [← hlw, hw.len]
  have HXS := Lib.hid hxs; have HFS := Lib.hid hfs; have HWS := Lib.hid hws
  have hKb : endK Wn nw xs fs ws ≤ 600 := restK_le
  have HF0 := Lib.hid (show ticksR Wn Hn xs fs ws t = if (!decide (9999 < t + (endK Wn nw xs fs ws : Nat))) then ⟨(endK Wn nw xs fs ws : Nat), true⟩ else ⟨0, false⟩ by rw [ticksR, endB, hi, h.len, Int.toNat_natCast, Bool.true_and])
  clear hxs hfs hws hlf hlw hi
  go_enter Try.func29, Try.ntmps29
  go_wp2_with fail
  apply Mem.atA
  · (repeat' (first | with_reducible exact hM | with_reducible exact hMp | with_reducible apply Mem.drew | with_reducible apply Mem.drewN | with_reducible apply Mem.alloc | with_reducible apply Mem.set | with_reducible exact Sto.row | ((with_reducible refine Sto.rowEq2 ?_ ?_); omega; rfl) | ((with_reducible refine Sto.rowEq ?_); omega) | with_reducible apply Sto.int | with_reducible apply Sto.there | with_reducible assumption | (unfold I64; omega) | (with_reducible (have hMx := Mem.undrew hM; exact hMx)) | (with_reducible (have hMx := Mem.undrew hMp; exact hMx))))
  clear hM
  intro wst hM
  (try simp only [World.size_alloc, World.size_setCell, World.heap_drewN, heapDrew, Nat.add_assoc, Nat.reduceAdd, List.setIfInBounds_toArray, List.set_cons_zero, List.set_cons_succ, List.cons_append, List.nil_append] at hM)
  apply Calls.mono
  · (apply l21Good_any) <;> (first | (show (_ : Prop); with_reducible assumption) | (apply Hid.out; with_reducible assumption) | (apply Mem.intsR hM; (repeat' (first | with_reducible exact In.here | with_reducible apply In.there)); done) | (apply Ints.ext (hb := hM.below); with_reducible assumption) | (apply Rd.ext (hb := hM.below); with_reducible assumption) | (apply Mem.row hM; (repeat' (first | with_reducible exact In.here | with_reducible apply In.there)); done) | (apply Row.ext (hb := hM.below); with_reducible assumption) | exact ⟨by omega, by omega⟩ | omega | (trace_state; fail))
  rw [HI.out]
  rintro e wc4 ⟨rfl, hb⟩
  replace hM := hM.ext hb
  clear hb
  obtain ⟨k0, f0, l0⟩ := hM.row .here
  go_wp2_with fail
  apply Calls.mono
  · (apply l21End_any Wn Hn a nw c xs af cf fs aw cw ws t) <;> (first | (show (_ : Prop); with_reducible assumption) | (apply Hid.out; with_reducible assumption) | (apply Mem.intsR hM; (repeat' (first | with_reducible exact In.here | with_reducible apply In.there)); done) | (apply Ints.ext (hb := hM.below); with_reducible assumption) | (apply Rd.ext (hb := hM.below); with_reducible assumption) | (apply Mem.row hM; (repeat' (first | with_reducible exact In.here | with_reducible apply In.there)); done) | (apply Row.ext (hb := hM.below); with_reducible assumption) | exact ⟨by omega, by omega⟩ | omega | (trace_state; fail))
  clear k0 f0 l0
  rintro e w3 hp
  obtain ⟨G, b1, d1, b2, d2, b3, d3, rfl, hM2, -⟩ := hp.use hM h hf hw rfl
  clear hp hM
  replace hM := hM2
  clear hM2
  simp only [List.cons_append, List.nil_append] at hM
  obtain ⟨K, hK⟩ : ∃ K, endK Wn nw xs fs ws = K := ⟨_, rfl⟩
  have hf0 := HF0.out
  rw [hK] at hKb hf0
  have HF := Lib.hid hf0
  rw [hK]
  clear hK hf0
  obtain ⟨k0, f0, l0⟩ := hM.row .here
  have hwt : IntKind.i64.wrap (t + (K : Int)) = t + (K : Int) := wrap_in (by omega)
  by_cases hq : 9999 < t + (K : Int)
  · have HQ := Lib.hid (decide_eq_true hq)
    go_wp2
    go_ret2
    exact ⟨by rw [HF.out, HQ.out]; rfl, (by apply Mem.below; (repeat' (first | with_reducible exact hM | with_reducible exact hMp | with_reducible apply Mem.drew | with_reducible apply Mem.drewN | with_reducible apply Mem.alloc | with_reducible apply Mem.set | with_reducible exact Sto.row | ((with_reducible refine Sto.rowEq2 ?_ ?_); omega; rfl) | ((with_reducible refine Sto.rowEq ?_); omega) | with_reducible apply Sto.int | with_reducible apply Sto.there | with_reducible assumption | (unfold I64; omega) | (with_reducible (have hMx := Mem.undrew hM; exact hMx)) | (with_reducible (have hMx := Mem.undrew hMp; exact hMx)))))⟩
  · have HQ := Lib.hid (decide_eq_false hq)
    go_wp2
    go_ret2
    exact ⟨by rw [HF.out, HQ.out]; rfl, (by apply Mem.below; (repeat' (first | with_reducible exact hM | with_reducible exact hMp | with_reducible apply Mem.drew | with_reducible apply Mem.drewN | with_reducible apply Mem.alloc | with_reducible apply Mem.set | with_reducible exact Sto.row | ((with_reducible refine Sto.rowEq2 ?_ ?_); omega; rfl) | ((with_reducible refine Sto.rowEq ?_); omega) | with_reducible apply Sto.int | with_reducible apply Sto.there | with_reducible assumption | (unfold I64; omega) | (with_reducible (have hMx := Mem.undrew hM; exact hMx)) | (with_reducible (have hMx := Mem.undrew hMp; exact hMx)))))⟩
end Go.Proofs.Ytkohfegajcmdbaa
