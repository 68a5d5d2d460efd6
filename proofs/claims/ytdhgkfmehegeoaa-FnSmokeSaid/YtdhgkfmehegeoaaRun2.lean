import Derived.Test.YtdhgkfmehegeoaaRun
namespace Go.Proofs.Ytdhgkfmehegeoaa
set_option linter.unusedSimpArgs false
set_option linter.unusedVariables false
open Go.RowKit

theorem runR_one (W H : Int) (xs : List Int) (e s q : Int) : runR W H xs [⟨e, s, q⟩] = blowR W H xs e s q := by
  cases hg : goodB 10000 W H xs
  · simp [runR, blowR, hg]
  · have h2 := hg
    obtain ⟨Wn, Hn, rfl, rfl, _⟩ := goodB_true h2
    cases hw : windB e s q
    · simp [runR, blowR, hg, hw, runF, WindI.ok]
    · cases hg2 : goodB 10000 Wn Hn (blowK Wn Hn e s q xs xs.length)
      · simp [runR, blowR, hg, hw, runF, WindI.ok, hg2]
      · simp [runR, blowR, hg, hw, runF, WindI.ok, hg2]

set_option maxRecDepth 100000 in
set_option maxHeartbeats 1000000 in
theorem implBlow_any (W H : Int) (a : Option Addr) (n c : Nat) (xs : List Int) (e s q : Int) (w : World) (h : Ints w a n c xs) (he : I64 e) (hs : I64 s) (hq : I64 q) :
    Calls Try.prog 16 #[.agg #[.int .i64 W, .int .i64 H, .slice a n c], .agg #[.int .i64 e, .int .i64 s, .int .i64 q]] w (Grid3Res w (blowR W H xs e s q).g.W (blowR W H xs e s q).g.H (blowR W H xs e s q).g.zs (blowR W H xs e s q).t (blowR W H xs e s q).ok) := by
  rw [← runR_one]
  go_enter Try.func16, Try.ntmps16
  go_wp2_with fail
  have hN := Row.new (((w.alloc (.cells #[.int .i64 W, .int .i64 H, .slice a n c] 26)).alloc (.cells #[.int .i64 e, .int .i64 s, .int .i64 q] 37)).alloc (.cells #[.int .i64 0, .int .i64 0, .slice none 0 0] 26)) (w.heap.size + 1 + 1 + 1) (by simp) #[.int .i64 e, .int .i64 s, .int .i64 q] 37
  have hWs : Winds ((((w.alloc (.cells #[.int .i64 W, .int .i64 H, .slice a n c] 26)).alloc (.cells #[.int .i64 e, .int .i64 s, .int .i64 q] 37)).alloc (.cells #[.int .i64 0, .int .i64 0, .slice none 0 0] 26)).alloc (.cells #[.int .i64 e, .int .i64 s, .int .i64 q] 37)) (some ⟨w.heap.size + 1 + 1 + 1, 0, none⟩) 1 1 [⟨e, s, q⟩] := by
    refine ⟨rfl, by omega, by decide, by simp, by omega, ?_, fun k hk => ⟨_, 0, rfl, hN.lt, fun i hi => ?_⟩⟩
    · intro v hv
      obtain rfl : v = ⟨e, s, q⟩ := by simpa using hv
      exact ⟨he, hs, hq⟩
    · obtain rfl : i = 0 := by omega
      exact ⟨hN.cell 0, hN.cell 1, hN.cell 2⟩
  have R1 := ((Row.new ((w.alloc (.cells #[.int .i64 W, .int .i64 H, .slice a n c] 26)).alloc (.cells #[.int .i64 e, .int .i64 s, .int .i64 q] 37)) (w.heap.size + 1 + 1) (by simp) #[.int .i64 0, .int .i64 0, .slice none 0 0] 26).alloc (.cells #[.int .i64 e, .int .i64 s, .int .i64 q] 37))
  refine (implRun_any W H a n c xs _ 1 1 [⟨e, s, q⟩] _ ((((h.alloc _).alloc _).alloc _).alloc _) hWs).mono ?_
  rintro o w2 ⟨a2, n2, c2, rfl, hO, hb⟩
  obtain ⟨k1, f1, l1⟩ := R1.ext hb
  clear hN hWs R1
  go_wp2
  refine bodyPost_ret (v := .tuple #[.agg #[.int .i64 (runR W H xs [⟨e, s, q⟩]).g.W, .int .i64 (runR W H xs [⟨e, s, q⟩]).g.H, .slice a2 n2 c2], .int .i64 (runR W H xs [⟨e, s, q⟩]).t, .bool (runR W H xs [⟨e, s, q⟩]).ok]) (by simp [results, Try.results16, go_sem, k1]) rfl ⟨a2, n2, c2, rfl, ?_, ?_⟩
  · ((repeat with_reducible refine Own.setCell_far ?_ (hO.apart (by first | omega | (simp; done) | (simp; omega))) _); exact hO.mono (by first | omega | (simp; done) | (simp; omega)))
  · (repeat' (first | exact Below.refl _ _ | with_reducible refine Below.setCell ?_ (by first | omega | (simp; done) | (simp; omega)) _ | with_reducible refine Below.alloc ?_ (by first | omega | (simp; done) | (simp; omega)) _ | with_reducible refine Below.drew ?_ | with_reducible refine bdrewN ?_ _ | with_reducible refine Below.trans ?_ (Below.mono hb (by first | omega | (simp; done) | (simp; omega)))))

end Go.Proofs.Ytdhgkfmehegeoaa
