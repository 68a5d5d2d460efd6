import Derived.Test.YtdhgkfmehegeoaaBlow
namespace Go.Proofs.Ytdhgkfmehegeoaa
set_option linter.unusedSimpArgs false
set_option linter.unusedVariables false
open Go.RowKit

theorem to_steps {k Wn Hn : Nat} {e s : Int} (hW : 1 ≤ Wn) (hW5 : Wn ≤ 5) (hH : 1 ≤ Hn) (hH5 : Hn ≤ 5) (hk : k < 25) (he : -1 ≤ e ∧ e ≤ 1) (hs : -1 ≤ s ∧ s ≤ 1) : ∃ (q r : Nat) (x y z t : Int),
    ((k : Int) / (Wn : Int)) = (q : Int) ∧ ((k : Int) % (Wn : Int)) = (r : Int) ∧ IntKind.i64.wrap ((r : Int) + e) = x ∧ IntKind.i64.wrap ((q : Int) + s) = y ∧ IntKind.i64.wrap (y * (Wn : Int)) = z ∧ IntKind.i64.wrap (z + x) = t ∧
    toI Wn Hn e s k = (if inB x 0 ((Wn : Int) - 1) && inB y 0 ((Hn : Int) - 1) then t else -1) ∧ q ≤ 25 ∧ r ≤ 5 ∧ -1 ≤ x ∧ x ≤ 6 ∧ -1 ≤ y ∧ y ≤ 26 ∧ -5 ≤ z ∧ z ≤ 130 ∧ (k : Int).tmod (Wn : Int) = (r : Int) ∧ IntKind.i64.wrap ((k : Int) / (Wn : Int)) = (q : Int) := by
  have h2 : k % Wn < Wn := Nat.mod_lt k hW
  have h3 : k / Wn ≤ k := Nat.div_le_self k Wn
  have d1 : ((k : Int) / (Wn : Int)) = ((k / Wn : Nat) : Int) := (Int.natCast_ediv _ _).symm
  have d2 : ((k : Int) % (Wn : Int)) = ((k % Wn : Nat) : Int) := (Int.natCast_emod _ _).symm
  have d3 : (k : Int).tmod (Wn : Int) = ((k % Wn : Nat) : Int) := (Int.ofNat_tmod _ _).symm
  unfold toI
  rw [d1, d2, d3]
  generalize k / Wn = q at *
  generalize k % Wn = r at *
  clear d1 d2 d3
  have hz : -5 ≤ ((q : Int) + s) * (Wn : Int) ∧ ((q : Int) + s) * (Wn : Int) ≤ 130 := by
    generalize hy : (q : Int) + s = y
    have hy1 : -1 ≤ y ∧ y ≤ 26 := by omega
    have : Wn = 1 ∨ Wn = 2 ∨ Wn = 3 ∨ Wn = 4 ∨ Wn = 5 := by omega
    rcases this with rfl | rfl | rfl | rfl | rfl <;> simp <;> omega
  exact ⟨q, r, (r : Int) + e, (q : Int) + s, ((q : Int) + s) * (Wn : Int), ((q : Int) + s) * (Wn : Int) + ((r : Int) + e), rfl, rfl, wrap_in (by omega), wrap_in (by omega), wrap_in (by omega), wrap_in (by omega), rfl, by omega, by omega, by omega, by omega, by omega, by omega, hz.1, hz.2, rfl, wrap_in (by omega)⟩

set_option maxRecDepth 100000 in
set_option maxHeartbeats 4000000 in
theorem l19To_any (Wn Hn : Nat) (a : Option Addr) (n c : Nat) (e s u : Int) (k : Nat) (w : World) (hW : 1 ≤ Wn) (hW5 : Wn ≤ 5) (hH : 1 ≤ Hn) (hH5 : Hn ≤ 5) (hk : k < 25) (he : -1 ≤ e ∧ e ≤ 1) (hs : -1 ≤ s ∧ s ≤ 1) :
    Calls Try.prog 86 #[.agg #[.int .i64 Wn, .int .i64 Hn, .slice a n c], .agg #[.int .i64 e, .int .i64 s, .int .i64 u], .int .i64 k] w fun o w' => o = .returned (.int .i64 (toI Wn Hn e s k)) ∧ Below w.heap.size w w' := by
  obtain ⟨q, r, x, y, z, t, g1, g2, g3, g4, g5, g6, HT, q1, r1, x0, x1, y0, y1, z0, z1, g7, g8⟩ := to_steps hW hW5 hH hH5 hk he hs
  replace HT := Lib.hid HT
  obtain ⟨e0, e1⟩ := he
  obtain ⟨s0, s1⟩ := hs
  have hw1 : IntKind.i64.wrap ((Wn : Int) - 1) = (Wn : Int) - 1 := wrap_in (by omega)
  have hw2 : IntKind.i64.wrap ((Hn : Int) - 1) = (Hn : Int) - 1 := wrap_in (by omega)
  cases h1 : inB x 0 ((Wn : Int) - 1)
  · skip
    go_enter Try.func86, Try.ntmps86
    go_wp2_with fail
    go_quiet (fail)
    go_wp2_with (go_at_call 78; refine (l1In_any _ _ _ _).mono ?_; rintro e w' ⟨rfl, rfl⟩; rw [h1])
    go_ret
    exact ⟨ri (by rw [HT.out, h1]; rfl), by (repeat' (first | exact Below.refl _ _ | with_reducible refine Below.setCell ?_ (by first | omega | (simp; done) | (simp; omega)) _ | with_reducible refine Below.alloc ?_ (by first | omega | (simp; done) | (simp; omega)) _ | with_reducible refine Below.drew ?_ | with_reducible refine bdrewN ?_ _))⟩
  cases h2 : inB y 0 ((Hn : Int) - 1)
  · skip
    go_enter Try.func86, Try.ntmps86
    go_wp2_with fail
    go_quiet (fail)
    go_wp2_with (go_at_call 78; refine (l1In_any _ _ _ _).mono ?_; rintro e w' ⟨rfl, rfl⟩; first | rw [h1] | rw [h2])
    go_ret
    exact ⟨ri (by rw [HT.out, h1, h2]; rfl), by (repeat' (first | exact Below.refl _ _ | with_reducible refine Below.setCell ?_ (by first | omega | (simp; done) | (simp; omega)) _ | with_reducible refine Below.alloc ?_ (by first | omega | (simp; done) | (simp; omega)) _ | with_reducible refine Below.drew ?_ | with_reducible refine bdrewN ?_ _))⟩
  · skip
    go_enter Try.func86, Try.ntmps86
    go_wp2_with fail
    go_quiet (fail)
    go_wp2_with (go_at_call 78; refine (l1In_any _ _ _ _).mono ?_; rintro e w' ⟨rfl, rfl⟩; first | rw [h1] | rw [h2])
    go_ret
    exact ⟨ri (by rw [HT.out, h1, h2]; rfl), by (repeat' (first | exact Below.refl _ _ | with_reducible refine Below.setCell ?_ (by first | omega | (simp; done) | (simp; omega)) _ | with_reducible refine Below.alloc ?_ (by first | omega | (simp; done) | (simp; omega)) _ | with_reducible refine Below.drew ?_ | with_reducible refine bdrewN ?_ _))⟩

set_option maxRecDepth 100000 in
set_option maxHeartbeats 4000000 in
theorem from_any (Wn Hn : Nat) (a : Option Addr) (n c : Nat) (e s : Int) (k : Nat) (w : World) (hW : 1 ≤ Wn) (hW5 : Wn ≤ 5) (hH : 1 ≤ Hn) (hH5 : Hn ≤ 5) (hk : k < 25) (he : -1 ≤ e ∧ e ≤ 1) (hs : -1 ≤ s ∧ s ≤ 1) :
    Calls Try.prog 76 #[.agg #[.int .i64 Wn, .int .i64 Hn, .slice a n c], .int .i64 k, .int .i64 e, .int .i64 s] w fun o w' => o = .returned (.int .i64 (toI Wn Hn e s k)) ∧ Below w.heap.size w w' := by
  obtain ⟨q, r, x, y, z, t, g1, g2, g3, g4, g5, g6, HT, q1, r1, x0, x1, y0, y1, z0, z1, g7, g8⟩ := to_steps hW hW5 hH hH5 hk he hs
  replace HT := Lib.hid HT
  obtain ⟨e0, e1⟩ := he
  obtain ⟨s0, s1⟩ := hs
  have hw1 : IntKind.i64.wrap ((Wn : Int) - 1) = (Wn : Int) - 1 := wrap_in (by omega)
  have hw2 : IntKind.i64.wrap ((Hn : Int) - 1) = (Hn : Int) - 1 := wrap_in (by omega)
  cases h1 : inB x 0 ((Wn : Int) - 1)
  · skip
    go_enter Try.func76, Try.ntmps76
    go_wp2_with fail
    go_quiet (fail)
    go_wp2_with (go_at_call 70; refine (in_any _ _ _ _).mono ?_; rintro e w' ⟨rfl, rfl⟩; rw [h1])
    go_ret
    exact ⟨ri (by rw [HT.out, h1]; rfl), by (repeat' (first | exact Below.refl _ _ | with_reducible refine Below.setCell ?_ (by first | omega | (simp; done) | (simp; omega)) _ | with_reducible refine Below.alloc ?_ (by first | omega | (simp; done) | (simp; omega)) _ | with_reducible refine Below.drew ?_ | with_reducible refine bdrewN ?_ _))⟩
  cases h2 : inB y 0 ((Hn : Int) - 1)
  · skip
    go_enter Try.func76, Try.ntmps76
    go_wp2_with fail
    go_quiet (fail)
    go_wp2_with (go_at_call 70; refine (in_any _ _ _ _).mono ?_; rintro e w' ⟨rfl, rfl⟩; first | rw [h1] | rw [h2])
    go_ret
    exact ⟨ri (by rw [HT.out, h1, h2]; rfl), by (repeat' (first | exact Below.refl _ _ | with_reducible refine Below.setCell ?_ (by first | omega | (simp; done) | (simp; omega)) _ | with_reducible refine Below.alloc ?_ (by first | omega | (simp; done) | (simp; omega)) _ | with_reducible refine Below.drew ?_ | with_reducible refine bdrewN ?_ _))⟩
  · skip
    go_enter Try.func76, Try.ntmps76
    go_wp2_with fail
    go_quiet (fail)
    go_wp2_with (go_at_call 70; refine (in_any _ _ _ _).mono ?_; rintro e w' ⟨rfl, rfl⟩; first | rw [h1] | rw [h2])
    go_ret
    exact ⟨ri (by rw [HT.out, h1, h2]; rfl), by (repeat' (first | exact Below.refl _ _ | with_reducible refine Below.setCell ?_ (by first | omega | (simp; done) | (simp; omega)) _ | with_reducible refine Below.alloc ?_ (by first | omega | (simp; done) | (simp; omega)) _ | with_reducible refine Below.drew ?_ | with_reducible refine bdrewN ?_ _))⟩

end Go.Proofs.Ytdhgkfmehegeoaa
