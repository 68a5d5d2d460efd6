import Derived.Test.YtdhgkfmehegeoaaWinds
namespace Go.Proofs.Ytdhgkfmehegeoaa
set_option linter.unusedSimpArgs false
set_option linter.unusedVariables false
open Go.RowKit

/-- smoke after winds; none: no longer valid -/
def runF (W H : Nat) : List Int → Int → List WindI → Option (List Int × Int)
  | xs, t, [] => some (xs, t)
  | xs, t, v :: r => if v.ok && goodB 10000 W H (blowK W H v.e v.s v.q xs xs.length) then runF W H (blowK W H v.e v.s v.q xs xs.length) (t + leftK W H v.e v.s v.q xs xs.length) r else none
def runR (W H : Int) (xs : List Int) (ws : List WindI) : Grid3 :=
  if goodB 10000 W H xs && decide (ws.length ≤ 10) then
    match runF W.toNat H.toNat xs 0 ws with
    | some r => ⟨⟨W, H, r.1⟩, r.2, true⟩
    | none => ⟨⟨0, 0, []⟩, 0, false⟩
  else ⟨⟨0, 0, []⟩, 0, false⟩
theorem runF_bad {W H : Nat} {ws : List WindI} (h : ws.all WindI.ok = false) : ∀ (xs : List Int) (t : Int), runF W H xs t ws = none := by
  induction ws with
  | nil => simp at h
  | cons v r ih =>
    intro xs t
    simp only [runF]
    split
    · rename_i h1
      have hv : v.ok = true := by simp only [Bool.and_eq_true] at h1; exact h1.1
      exact ih (by simpa [hv] using h) _ _
    · rfl
theorem drop_at {ws : List WindI} {k : Nat} (hk : k < ws.length) : ws.drop k = ws.getD k zW :: ws.drop (k + 1) := by
  rw [List.drop_eq_getElem_cons hk, List.getD_eq_getElem?_getD, List.getElem?_eq_getElem hk]; rfl

set_option maxRecDepth 100000 in
set_option maxHeartbeats 4000000 in
theorem implRun_any (W H : Int) (a : Option Addr) (n c : Nat) (xs : List Int) (a' : Option Addr) (n' c' : Nat) (ws : List WindI) (w : World) (h : Ints w a n c xs) (h' : Winds w a' n' c' ws) :
    Calls Try.prog 9 #[.agg #[.int .i64 W, .int .i64 H, .slice a n c], .slice a' n' c'] w (Grid3Res w (runR W H xs ws).g.W (runR W H xs ws).g.H (runR W H xs ws).g.zs (runR W H xs ws).t (runR W H xs ws).ok) := by
  have hn := h.cap
  have hc := h.room
  have HL := Lib.hid h.len
  have hn' := h'.cap
  have hc' := h'.room
  have HL' := Lib.hid h'.len
  cases hg : goodB 10000 W H xs
  · have HF := Lib.hid (show runR W H xs ws = ⟨⟨0, 0, []⟩, 0, false⟩ by simp [runR, hg])
    go_enter Try.func9, Try.ntmps9
    go_wp2_with (go_at_call 12; refine (IsSmoke_any W H a n c xs _ (by exact (h.alloc _).alloc _)).mono ?_; rintro e w' ⟨rfl, hb⟩; rw [hg]; obtain ⟨k1, f1, l1⟩ := (Row.new _ (w.heap.size + 1) (by simp) _ _).below hb)
    rw [HF.out]
    refine bodyPost_ret (v := .tuple #[.agg #[.int .i64 0, .int .i64 0, .slice none 0 0], .int .i64 0, .bool false]) (by simp [results, Try.results9, go_sem, k1]) rfl ⟨none, 0, 0, rfl, own_nil _ _, ?_⟩
    (repeat' (first | exact Below.refl _ _ | with_reducible refine Below.setCell ?_ (by first | omega | (simp; done) | (simp; omega)) _ | with_reducible refine Below.alloc ?_ (by first | omega | (simp; done) | (simp; omega)) _ | with_reducible refine Below.drew ?_ | with_reducible refine bdrewN ?_ _ | with_reducible refine Below.trans ?_ (Below.mono hb (by first | omega | (simp; done) | (simp; omega)))))
  by_cases h10 : 10 < n'
  · have HF := Lib.hid (show runR W H xs ws = ⟨⟨0, 0, []⟩, 0, false⟩ by
      have : ¬ ws.length ≤ 10 := by rw [HL'.out]; omega
      simp [runR, this])
    go_enter Try.func9, Try.ntmps9
    go_wp2_with (go_at_call 12; refine (IsSmoke_any W H a n c xs _ (by exact (h.alloc _).alloc _)).mono ?_; rintro e w' ⟨rfl, hb⟩; rw [hg]; obtain ⟨k1, f1, l1⟩ := (Row.new _ (w.heap.size + 1) (by simp) _ _).below hb)
    rw [HF.out]
    refine bodyPost_ret (v := .tuple #[.agg #[.int .i64 0, .int .i64 0, .slice none 0 0], .int .i64 0, .bool false]) (by simp [results, Try.results9, go_sem, k1]) rfl ⟨none, 0, 0, rfl, own_nil _ _, ?_⟩
    (repeat' (first | exact Below.refl _ _ | with_reducible refine Below.setCell ?_ (by first | omega | (simp; done) | (simp; omega)) _ | with_reducible refine Below.alloc ?_ (by first | omega | (simp; done) | (simp; omega)) _ | with_reducible refine Below.drew ?_ | with_reducible refine bdrewN ?_ _ | with_reducible refine Below.trans ?_ (Below.mono hb (by first | omega | (simp; done) | (simp; omega)))))
  have HW : Hid (∀ (v : WindI) (w' : World), Calls Try.prog 65 #[.agg #[.int .i64 v.e, .int .i64 v.s, .int .i64 v.q]] w' fun o w'' => o = .returned (.bool (WindI.ok v)) ∧ Below w'.heap.size w' w'') := fun v w' => isWind_any v.e v.s v.q w'
  cases hw : ws.all WindI.ok
  · have HF := Lib.hid (show runR W H xs ws = ⟨⟨0, 0, []⟩, 0, false⟩ by simp [runR, runF_bad hw])
    go_enter Try.func9, Try.ntmps9
    go_wp2_with (first | (go_at_call 12; refine (IsSmoke_any W H a n c xs _ (by exact (h.alloc _).alloc _)).mono ?_; rintro e w' ⟨rfl, hb⟩; rw [hg]; have R1 := (Row.new _ (w.heap.size + 1) (by simp) _ _).below hb) | skip; fail)
    have l1 : w.heap.size + 1 < w'.heap.size := R1.lt
    have hb' : Below w.heap.size w w' := by (repeat' (first | exact Below.refl _ _ | with_reducible refine Below.setCell ?_ (by first | omega | (simp; done) | (simp; omega)) _ | with_reducible refine Below.alloc ?_ (by first | omega | (simp; done) | (simp; omega)) _ | with_reducible refine Below.drew ?_ | with_reducible refine bdrewN ?_ _ | with_reducible refine Below.trans ?_ (Below.mono hb (by first | omega | (simp; done) | (simp; omega)))))
    refine (allWind_any _ WindI.ok a' n' c' ws _ (h'.below hb') (enters Try.func65 (by kernel_rfl) rfl) HW.out).mono ?_
    rintro o w2 ⟨rfl, hb2⟩
    rw [hw]
    obtain ⟨k1, f1, m1⟩ := R1.ext hb2
    go_wp2
    rw [HF.out]
    refine bodyPost_ret (v := .tuple #[.agg #[.int .i64 0, .int .i64 0, .slice none 0 0], .int .i64 0, .bool false]) (by simp [results, Try.results9, go_sem, k1]) rfl ⟨none, 0, 0, rfl, own_nil _ _, ?_⟩
    (repeat' (first | exact Below.refl _ _ | with_reducible refine Below.setCell ?_ (by first | omega | (simp; done) | (simp; omega)) _ | with_reducible refine Below.alloc ?_ (by first | omega | (simp; done) | (simp; omega)) _ | with_reducible refine Below.drew ?_ | with_reducible refine bdrewN ?_ _ | with_reducible refine Below.trans ?_ (Below.mono hb' (by first | omega | (simp; done) | (simp; omega))) | with_reducible refine Below.trans ?_ (Below.mono hb2 (by first | omega | (simp; done) | (simp; omega)))))
  obtain ⟨Wn, Hn, rfl, rfl, a1, a2, b1, b2, hlen, h25, hall⟩ := goodB_true hg
  have hnp : 0 < n := by rw [← HL.out, hlen]; exact Nat.mul_pos a1 b1
  have hn25 : n ≤ 25 := by rw [← HL.out]; exact h25
  have HWH := Lib.hid (show n = Wn * Hn by rw [← HL.out, hlen])
  have HOK := Lib.hid (fun v (hv : v ∈ ws) => windB_true (show windB v.e v.s v.q = true from List.all_eq_true.1 hw v hv))
  have HV := Lib.hid (fun v (hv : v ∈ ws) => (show WindI.ok v = true from List.all_eq_true.1 hw v hv))
  have HF := Lib.hid (show runR Wn Hn xs ws = match runF Wn Hn xs 0 ws with | some r => ⟨⟨Wn, Hn, r.1⟩, r.2, true⟩ | none => ⟨⟨0, 0, []⟩, 0, false⟩ by
    have : ws.length ≤ 10 := by rw [HL'.out]; omega
    simp [runR, hg, this])
  have HG := Lib.hid hg
  clear h25 hlen hall
  go_enter Try.func9, Try.ntmps9
  go_wp2_with (first | (go_at_call 12; refine (IsSmoke_any _ _ a n c xs _ (by exact (h.alloc _).alloc _)).mono ?_; rintro e w' ⟨rfl, hb⟩; rw [hg]; have R0 := ((Row.new _ w.heap.size rfl _ _).alloc _).below hb; have R1 := (Row.new _ (w.heap.size + 1) (by simp) _ _).below hb) | skip; fail)
  have l1 : w.heap.size + 1 < w'.heap.size := R1.lt
  have hb' : Below w.heap.size w w' := by (repeat' (first | exact Below.refl _ _ | with_reducible refine Below.setCell ?_ (by first | omega | (simp; done) | (simp; omega)) _ | with_reducible refine Below.alloc ?_ (by first | omega | (simp; done) | (simp; omega)) _ | with_reducible refine Below.drew ?_ | with_reducible refine bdrewN ?_ _ | with_reducible refine Below.trans ?_ (Below.mono hb (by first | omega | (simp; done) | (simp; omega)))))
  refine (allWind_any _ WindI.ok a' n' c' ws _ (h'.below hb') (enters Try.func65 (by kernel_rfl) rfl) HW.out).mono ?_
  rintro o w2 ⟨rfl, hb2⟩
  rw [hw]
  have hs2 : w'.heap.size ≤ w2.heap.size := hb2.size
  have hb3 : Below w.heap.size w w2 := by (repeat' (first | exact Below.refl _ _ | with_reducible refine Below.setCell ?_ (by first | omega | (simp; done) | (simp; omega)) _ | with_reducible refine Below.alloc ?_ (by first | omega | (simp; done) | (simp; omega)) _ | with_reducible refine Below.drew ?_ | with_reducible refine bdrewN ?_ _ | with_reducible refine Below.trans ?_ (Below.mono hb' (by first | omega | (simp; done) | (simp; omega))) | with_reducible refine Below.trans ?_ (Below.mono hb2 (by first | omega | (simp; done) | (simp; omega)))))
  replace R0 := R0.ext hb2
  replace R1 := R1.ext hb2
  clear hb hb2 hb' hg
  have k0 := R0.cell
  have m0 := R0.lt
  go_wp2_with fail
  refine (copiedSmoke_any _ _ a n c xs _ (h.below hb3)).mono ?_
  rintro o w4 ⟨a3, c2, rfl, hO, hb5⟩
  have hF := (Far.refl w2).ext hb5
  replace R1 := R1.ext hb5
  have hs5 : w2.heap.size ≤ w4.heap.size := hb5.size
  have hnb : ¬ blockOf a3 w4.heap.size := fun e => by have := hO.till _ e; omega
  clear hb5 k0 R0
  go_wp2
  go_loopw [8, 31] (fun t i wr => ∃ (k : Nat) (ys : List Int) (tt : Int) (g' : Option Addr) (cc : Nat), k ≤ n' ∧ i = .int .i64 k ∧ t = .int .i64 tt ∧ 0 ≤ tt ∧ tt ≤ 250000 * k ∧ goodB 10000 Wn Hn ys = true ∧ runF Wn Hn xs 0 ws = runF Wn Hn ys tt (ws.drop k) ∧
      Row wr (w.heap.size + 1) #[.int .i64 0, .int .i64 0, .slice none 0 0] ∧ Row wr w4.heap.size #[.int .i64 Wn, .int .i64 Hn, .slice g' n cc] ∧ Own w2.heap.size wr g' n cc ys ∧ ¬ blockOf g' w4.heap.size ∧ Far w2 wr)
    (fun _ i _ => n' - (intOf i).toNat)
  case atStart => exact ⟨0, xs, 0, a3, c2, Nat.zero_le _, rfl, rfl, by omega, by omega, HG.out, rfl, R1.alloc _, Row.new _ _ rfl _ _, hO.alloc _, hnb, hF.alloc _⟩
  case round =>
    obtain ⟨k, ys, tt, g', cc, hk, rfl, rfl, t0, t1, hgy, hrun, hR1, hR2, hOk, hnbk, hFr⟩ := hrel
    have HR := Lib.hid hrun; clear hrun
    have HGY := Lib.hid hgy; clear hgy
    have k2 := hR2.cell
    have m2 := hR2.lt
    have hsf : w2.heap.size ≤ wr.heap.size := hFr.below.size
    by_cases hlt : k < n'
    · obtain ⟨b, off, rfl, hb, hcell⟩ := ((h'.below hb3).below hFr.below).at' _ hlt
      obtain ⟨c0, c1, c3⟩ := hcell k hlt
      clear hcell
      have hkl : k < ws.length := by rw [HL'.out]; exact hlt
      have hmem : ws.getD k zW ∈ ws := by rw [List.getD_eq_getElem?_getD, List.getElem?_eq_getElem hkl]; exact List.getElem_mem _
      have hdr := drop_at hkl
      obtain ⟨v, hv⟩ : ∃ v, ws.getD k zW = v := ⟨_, rfl⟩
      rw [hv] at c0 c1 c3 hmem hdr
      have HD := Lib.hid hdr
      clear hv hdr hkl
      obtain ⟨he, hs, hq⟩ := HOK.out v hmem
      have HAL : Hid (∀ x ∈ ys, 0 ≤ x ∧ x ≤ 10000) := by
        obtain ⟨_, _, _, _, _, _, _, _, _, _, hy⟩ := goodB_true HGY.out
        exact hy
      go_wp2_with fail
      refine (blow_any Wn Hn g' n cc ys v.e v.s v.q _ (hOk.alloc _).ints a1 a2 b1 b2 HWH.out HAL.out he hs hq).mono ?_
      rintro o w5 ⟨a5, c5, rfl, hO5, hb6⟩
      have hs6 : wr.heap.size < w5.heap.size := by have := hb6.size; simp at this; omega
      have hR1' := (hR1.alloc _).ext hb6
      have hR2' := (hR2.alloc _).ext hb6
      have hF5 := (hFr.alloc _).ext hb6
      have hlb := leftK_bound (W := Wn) (H := Hn) (e := v.e) (s := v.s) hq HAL.out n (by rw [hOk.len]; exact Nat.le_refl _)
      have HLN := Lib.hid hOk.len
      obtain ⟨lt, elt⟩ : ∃ lt, leftK Wn Hn v.e v.s v.q ys n = lt := ⟨_, rfl⟩
      rw [elt] at hlb ⊢
      have ELT := Lib.hid elt; clear elt
      obtain ⟨z0, z1⟩ := hlb
      clear k2 hb6 hR1 hR2 hFr hOk c0 c1 c3
      cases hg2 : goodB 10000 Wn Hn (blowK Wn Hn v.e v.s v.q ys n)
      · have HN : Hid (runF Wn Hn xs 0 ws = none) := by
          show _ = _
          rw [HR.out, HD.out, runF, HLN.out, hg2, Bool.and_false]; rfl
        go_wp2_with (go_at_call 12; refine (IsSmoke_any _ _ a5 n c5 _ _ (by exact (hO5.alloc _).ints)).mono ?_; rintro e w' ⟨rfl, hb7⟩; rw [hg2]; obtain ⟨k1, f1, m1⟩ := (hR1'.alloc _).below hb7)
        rw [HF.out, HN.out]
        have hbf := hF5.below
        refine bodyPost_ret (v := .tuple #[.agg #[.int .i64 0, .int .i64 0, .slice none 0 0], .int .i64 0, .bool false]) (by simp [results, Try.results9, go_sem, k1]) rfl ⟨none, 0, 0, rfl, own_nil _ _, ?_⟩
        have hs0 := hb3.size
        (repeat' (first | exact Below.refl _ _ | with_reducible refine Below.setCell ?_ (by first | omega | (simp; done) | (simp; omega)) _ | with_reducible refine Below.alloc ?_ (by first | omega | (simp; done) | (simp; omega)) _ | with_reducible refine Below.drew ?_ | with_reducible refine bdrewN ?_ _ | with_reducible refine Below.trans ?_ (Below.mono hb3 (by first | omega | (simp; done) | (simp; omega))) | with_reducible refine Below.trans ?_ (Below.mono hbf (by first | omega | (simp; done) | (simp; omega))) | with_reducible refine Below.trans ?_ (Below.mono hb7 (by first | omega | (simp; done) | (simp; omega)))))
      · have HN : Hid (runF Wn Hn xs 0 ws = runF Wn Hn (blowK Wn Hn v.e v.s v.q ys n) (tt + lt) (ws.drop (k + 1))) := by
          show _ = _
          rw [HR.out, HD.out, runF, HLN.out, hg2, HV.out v hmem, ELT.out]; rfl
        go_wp2_with (go_at_call 12; refine (IsSmoke_any _ _ a5 n c5 _ _ (by exact (hO5.alloc _).ints)).mono ?_; rintro e w' ⟨rfl, hb7⟩; rw [hg2]; obtain ⟨k1, f1, m1⟩ := (Row.new w5 w5.heap.size rfl _ _).below hb7; obtain ⟨k2, f2, m2⟩ := (hR2'.alloc _).below hb7)
        have hO6 := (hO5.alloc (.cells #[.int .i64 Wn, .int .i64 Hn, .slice a5 n c5] 26)).ext hb7
        have hR1'' := (hR1'.alloc (.cells #[.int .i64 Wn, .int .i64 Hn, .slice a5 n c5] 26)).ext hb7
        have hR2'' := (hR2'.alloc (.cells #[.int .i64 Wn, .int .i64 Hn, .slice a5 n c5] 26)).ext hb7
        have hF6 := (hF5.alloc (.cells #[.int .i64 Wn, .int .i64 Hn, .slice a5 n c5] 26)).ext hb7
        have hap : ¬ blockOf a5 w4.heap.size := hO6.apart (by simp; omega)
        go_roundw
        case rel =>
          refine ⟨k + 1, blowK Wn Hn v.e v.s v.q ys n, tt + lt, a5, c5, by omega, by go_num, rfl, by omega, by omega, hg2, HN.out, ?_, ((hR2''.set 0 _ (by simp)).set 1 _ (by simp)).set 2 _ (by simp), ?_, hap, ?_⟩
          · exact ((hR1''.far _ _ (by show w4.heap.size ≠ _; omega)).far _ _ (by show w4.heap.size ≠ _; omega)).far _ _ (by show w4.heap.size ≠ _; omega)
          · exact (((hO6.mono (by simp; omega)).setCell_far hap _).setCell_far hap _).setCell_far hap _
          · exact ((hF6.set _ _ hs5).set _ _ hs5).set _ _ hs5
        case measure => simp [intOf]; omega
    · obtain rfl : k = n' := by omega
      have HN : Hid (runF Wn Hn xs 0 ws = some (ys, tt)) := by
        show _ = _
        rw [HR.out, List.drop_of_length_le (by rw [HL'.out]; exact Nat.le_refl _)]; rfl
      obtain ⟨k1, f1, m1⟩ := hR1
      have hbf := hFr.below
      have hs0 := hb3.size
      go_wp2
      rw [HF.out, HN.out]
      refine bodyPost_ret (v := .tuple #[.agg #[.int .i64 Wn, .int .i64 Hn, .slice g' n cc], .int .i64 tt, .bool true]) (by simp [results, Try.results9, go_sem, k1]) rfl ⟨g', n, cc, rfl, ?_, ?_⟩
      · ((repeat with_reducible refine Own.setCell_far ?_ (hOk.apart (by first | omega | (simp; done) | (simp; omega))) _); exact hOk.mono (by first | omega | (simp; done) | (simp; omega)))
      · (repeat' (first | exact Below.refl _ _ | with_reducible refine Below.setCell ?_ (by first | omega | (simp; done) | (simp; omega)) _ | with_reducible refine Below.alloc ?_ (by first | omega | (simp; done) | (simp; omega)) _ | with_reducible refine Below.drew ?_ | with_reducible refine bdrewN ?_ _ | with_reducible refine Below.trans ?_ (Below.mono hb3 (by first | omega | (simp; done) | (simp; omega))) | with_reducible refine Below.trans ?_ (Below.mono hbf (by first | omega | (simp; done) | (simp; omega)))))

end Go.Proofs.Ytdhgkfmehegeoaa
