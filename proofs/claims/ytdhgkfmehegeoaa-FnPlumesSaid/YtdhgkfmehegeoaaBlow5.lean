import Derived.Test.YtdhgkfmehegeoaaBlow4
namespace Go.Proofs.Ytdhgkfmehegeoaa
set_option linter.unusedSimpArgs false
set_option linter.unusedVariables false
open Go.RowKit

def blowR (W H : Int) (xs : List Int) (e s q : Int) : Grid3 :=
  if goodB 10000 W H xs && windB e s q && goodB 10000 W H (blowK W.toNat H.toNat e s q xs xs.length) then ⟨⟨W, H, blowK W.toNat H.toNat e s q xs xs.length⟩, leftK W.toNat H.toNat e s q xs xs.length, true⟩ else ⟨⟨0, 0, []⟩, 0, false⟩
theorem windB_true {e s q : Int} (h : windB e s q = true) : (-1 ≤ e ∧ e ≤ 1) ∧ (-1 ≤ s ∧ s ≤ 1) ∧ (1 ≤ q ∧ q ≤ 10) := by
  simp only [windB, Bool.and_eq_true] at h
  exact ⟨inB_true h.1.1.1, inB_true h.1.1.2, inB_true h.2⟩

set_option maxRecDepth 100000 in
set_option maxHeartbeats 4000000 in
theorem specBlow_any (W H : Int) (a : Option Addr) (n c : Nat) (xs : List Int) (e s q : Int) (w : World) (h : Ints w a n c xs) :
    Calls Try.prog 17 #[.agg #[.int .i64 W, .int .i64 H, .slice a n c], .agg #[.int .i64 e, .int .i64 s, .int .i64 q]] w (Grid3Res w (blowR W H xs e s q).g.W (blowR W H xs e s q).g.H (blowR W H xs e s q).g.zs (blowR W H xs e s q).t (blowR W H xs e s q).ok) := by
  have hn := h.cap
  have hc := h.room
  have HL := Lib.hid h.len
  cases hg : goodB 10000 W H xs
  · have HF := Lib.hid (show blowR W H xs e s q = ⟨⟨0, 0, []⟩, 0, false⟩ by simp [blowR, hg])
    go_enter Try.func17, Try.ntmps17
    go_wp2_with (go_at_call 68; refine (l19Good_any W H a n c xs _ (by exact ((h.alloc _).alloc _).alloc _)).mono ?_; rintro e w' ⟨rfl, hb⟩; rw [hg]; obtain ⟨k1, f1, l1⟩ := (Row.new _ (w.heap.size + 2) (by simp) _ _).below hb)
    rw [HF.out]
    refine bodyPost_ret (v := .tuple #[.agg #[.int .i64 0, .int .i64 0, .slice none 0 0], .int .i64 0, .bool false]) (by simp [results, Try.results17, go_sem, k1]) rfl ⟨none, 0, 0, rfl, own_nil _ _, ?_⟩
    (repeat' (first | exact Below.refl _ _ | with_reducible refine Below.setCell ?_ (by first | omega | (simp; done) | (simp; omega)) _ | with_reducible refine Below.alloc ?_ (by first | omega | (simp; done) | (simp; omega)) _ | with_reducible refine Below.drew ?_ | with_reducible refine bdrewN ?_ _ | with_reducible refine Below.trans ?_ (Below.mono hb (by first | omega | (simp; done) | (simp; omega)))))
  cases hv : windB e s q
  · have HF := Lib.hid (show blowR W H xs e s q = ⟨⟨0, 0, []⟩, 0, false⟩ by simp [blowR, hv])
    go_enter Try.func17, Try.ntmps17
    go_wp2_with (first | (go_at_call 68; refine (l19Good_any W H a n c xs _ (by exact ((h.alloc _).alloc _).alloc _)).mono ?_; rintro e w' ⟨rfl, hb⟩; rw [hg]; obtain ⟨kW, fW, lW⟩ := ((Row.new _ (w.heap.size + 1) (by simp) _ _).alloc _).below hb; have R1 := (Row.new _ (w.heap.size + 2) (by simp) _ _).below hb) | skip; fail)
    have l1 : w.heap.size + 2 < w'.heap.size := R1.lt
    have hb' : Below w.heap.size w w' := by (repeat' (first | exact Below.refl _ _ | with_reducible refine Below.setCell ?_ (by first | omega | (simp; done) | (simp; omega)) _ | with_reducible refine Below.alloc ?_ (by first | omega | (simp; done) | (simp; omega)) _ | with_reducible refine Below.drew ?_ | with_reducible refine bdrewN ?_ _ | with_reducible refine Below.trans ?_ (Below.mono hb (by first | omega | (simp; done) | (simp; omega)))))
    refine (l19Wind_any e s q _).mono ?_
    rintro o w2 ⟨rfl, hb2⟩
    rw [hv]
    obtain ⟨k1, f1, m1⟩ := R1.ext hb2
    go_wp2
    rw [HF.out]
    refine bodyPost_ret (v := .tuple #[.agg #[.int .i64 0, .int .i64 0, .slice none 0 0], .int .i64 0, .bool false]) (by simp [results, Try.results17, go_sem, k1]) rfl ⟨none, 0, 0, rfl, own_nil _ _, ?_⟩
    (repeat' (first | exact Below.refl _ _ | with_reducible refine Below.setCell ?_ (by first | omega | (simp; done) | (simp; omega)) _ | with_reducible refine Below.alloc ?_ (by first | omega | (simp; done) | (simp; omega)) _ | with_reducible refine Below.drew ?_ | with_reducible refine bdrewN ?_ _ | with_reducible refine Below.trans ?_ (Below.mono hb' (by first | omega | (simp; done) | (simp; omega))) | with_reducible refine Below.trans ?_ (Below.mono hb2 (by first | omega | (simp; done) | (simp; omega)))))
  obtain ⟨he, hs, hq⟩ := windB_true hv
  obtain ⟨Wn, Hn, rfl, rfl, a1, a2, b1, b2, hlen, h25, hall⟩ := goodB_true hg
  have HA := Lib.hid hall; clear hall
  have hnp : 0 < n := by rw [← HL.out, hlen]; exact Nat.mul_pos a1 b1
  have HWH := Lib.hid (show n = Wn * Hn by rw [← HL.out, hlen])
  have HF := Lib.hid (show blowR Wn Hn xs e s q = if goodB 10000 Wn Hn (blowK Wn Hn e s q xs n) then ⟨⟨Wn, Hn, blowK Wn Hn e s q xs n⟩, leftK Wn Hn e s q xs n, true⟩ else ⟨⟨0, 0, []⟩, 0, false⟩ by simp [blowR, hg, hv, HL.out])
  clear h25 hlen
  go_enter Try.func17, Try.ntmps17
  go_wp2_with (first | (go_at_call 68; refine (l19Good_any _ _ a n c xs _ (by exact ((h.alloc _).alloc _).alloc _)).mono ?_; rintro e w' ⟨rfl, hb⟩; rw [hg]; have R0 := (((Row.new _ w.heap.size rfl _ _).alloc _).alloc _).below hb; obtain ⟨kW, fW, lW⟩ := ((Row.new _ (w.heap.size + 1) (by simp) _ _).alloc _).below hb; have RW : Row w' (w.heap.size + 1) _ := ⟨kW, fW, lW⟩; have R1 := (Row.new _ (w.heap.size + 2) (by simp) _ _).below hb) | skip; fail)
  have l1 : w.heap.size + 2 < w'.heap.size := R1.lt
  have hb' : Below w.heap.size w w' := by (repeat' (first | exact Below.refl _ _ | with_reducible refine Below.setCell ?_ (by first | omega | (simp; done) | (simp; omega)) _ | with_reducible refine Below.alloc ?_ (by first | omega | (simp; done) | (simp; omega)) _ | with_reducible refine Below.drew ?_ | with_reducible refine bdrewN ?_ _ | with_reducible refine Below.trans ?_ (Below.mono hb (by first | omega | (simp; done) | (simp; omega)))))
  refine (l19Wind_any e s q _).mono ?_
  rintro o w2 ⟨rfl, hb2⟩
  rw [hv]
  have hs2 : w'.heap.size ≤ w2.heap.size := hb2.size
  have hb3 : Below w.heap.size w w2 := by (repeat' (first | exact Below.refl _ _ | with_reducible refine Below.setCell ?_ (by first | omega | (simp; done) | (simp; omega)) _ | with_reducible refine Below.alloc ?_ (by first | omega | (simp; done) | (simp; omega)) _ | with_reducible refine Below.drew ?_ | with_reducible refine bdrewN ?_ _ | with_reducible refine Below.trans ?_ (Below.mono hb' (by first | omega | (simp; done) | (simp; omega))) | with_reducible refine Below.trans ?_ (Below.mono hb2 (by first | omega | (simp; done) | (simp; omega)))))
  replace R0 := R0.ext hb2
  replace RW := RW.ext hb2
  replace R1 := R1.ext hb2
  clear kW fW hb hb'
  have k0 := R0.cell
  have kW := RW.cell
  go_wp2_with fail
  refine (l19Blow_any Wn Hn a n c xs e s q _ (h.below hb3) a1 a2 b1 b2 HWH.out HA.out he hs hq).mono ?_
  rintro o w3 ⟨a3, c3, rfl, hO, hb4⟩
  have hs3 : w2.heap.size ≤ w3.heap.size := hb4.size
  replace R1 := R1.ext hb4
  clear k0 kW R0 RW
  obtain ⟨g, rfl, hgB, hgs, _, _⟩ := hO.head hnp
  obtain ⟨t, et⟩ : ∃ t, leftK Wn Hn e s q xs n = t := ⟨_, rfl⟩
  rw [et] at HF ⊢
  clear et
  cases hg2 : goodB 10000 Wn Hn (blowK Wn Hn e s q xs n)
  · go_wp2_with (go_at_call 68; refine (l19Good_any _ _ _ n c3 _ _ (by exact (hO.alloc _).ints)).mono ?_; rintro e w' ⟨rfl, hb5⟩; rw [hg2]; obtain ⟨k1, f1, m1⟩ := (R1.alloc _).below hb5)
    rw [HF.out, hg2]
    refine bodyPost_ret (v := .tuple #[.agg #[.int .i64 0, .int .i64 0, .slice none 0 0], .int .i64 0, .bool false]) (by simp [results, Try.results17, go_sem, k1]) rfl ⟨none, 0, 0, rfl, own_nil _ _, ?_⟩
    (repeat' (first | exact Below.refl _ _ | with_reducible refine Below.setCell ?_ (by first | omega | (simp; done) | (simp; omega)) _ | with_reducible refine Below.alloc ?_ (by first | omega | (simp; done) | (simp; omega)) _ | with_reducible refine Below.drew ?_ | with_reducible refine bdrewN ?_ _ | with_reducible refine Below.trans ?_ (Below.mono hb3 (by first | omega | (simp; done) | (simp; omega))) | with_reducible refine Below.trans ?_ (Below.mono hb4 (by first | omega | (simp; done) | (simp; omega))) | with_reducible refine Below.trans ?_ (Below.mono hb5 (by first | omega | (simp; done) | (simp; omega)))))
  · go_wp2_with (go_at_call 68; refine (l19Good_any _ _ _ n c3 _ _ (by exact (hO.alloc _).ints)).mono ?_; rintro e w' ⟨rfl, hb5⟩; rw [hg2]; obtain ⟨k1, f1, m1⟩ := (R1.alloc _).below hb5; obtain ⟨k2, f2, m2⟩ := (Row.new w3 w3.heap.size rfl _ _).below hb5)
    rw [HF.out, hg2]
    have hO3 := (hO.alloc (.cells #[.int .i64 Wn, .int .i64 Hn, .slice (some ⟨g, 0, none⟩) n c3] 26)).ext hb5
    refine bodyPost_ret (v := .tuple #[.agg #[.int .i64 Wn, .int .i64 Hn, .slice (some ⟨g, 0, none⟩) n c3], .int .i64 t, .bool true]) (by simp [results, Try.results17, go_sem, k1]) rfl ⟨_, n, c3, rfl, ?_, ?_⟩
    · ((repeat with_reducible refine Own.setCell_far ?_ (hO3.apart (by first | omega | (simp; done) | (simp; omega))) _); exact hO3.mono (by first | omega | (simp; done) | (simp; omega)))
    · (repeat' (first | exact Below.refl _ _ | with_reducible refine Below.setCell ?_ (by first | omega | (simp; done) | (simp; omega)) _ | with_reducible refine Below.alloc ?_ (by first | omega | (simp; done) | (simp; omega)) _ | with_reducible refine Below.drew ?_ | with_reducible refine bdrewN ?_ _ | with_reducible refine Below.trans ?_ (Below.mono hb3 (by first | omega | (simp; done) | (simp; omega))) | with_reducible refine Below.trans ?_ (Below.mono hb4 (by first | omega | (simp; done) | (simp; omega))) | with_reducible refine Below.trans ?_ (Below.mono hb5 (by first | omega | (simp; done) | (simp; omega)))))

end Go.Proofs.Ytdhgkfmehegeoaa
