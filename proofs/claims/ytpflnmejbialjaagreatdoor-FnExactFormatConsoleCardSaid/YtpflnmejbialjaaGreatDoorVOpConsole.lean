/-
  An argument that is a console, opened for a card.
-/
import Derived.Test.YtpflnmejbialjaaGreatDoorVOpPhase
/-
  An argument that is a console, opened for a card.
-/
namespace Go.Proofs.YtpflnmejbialjaaGreatDoor
set_option linter.unusedSimpArgs false
set_option linter.unusedVariables false
open Go.ChangeShapes Go.WideShapes Go.ChangeAt Go.RowKit Go.Joins

set_option maxRecDepth 100000 in
theorem elIncident {H : Type} {enc : TypeId × Value → H} {W : World} {f : Nat} {e0 e1 e2 e3 e4 e5 : Value} {x : DataW H × List MemPlace} (hf : DataW.trod enc Tryz.prog W 0 (fun _ => true) true f 26 [e0, e1, e2, e3, e4, e5] = some x) (hlt : ∀ q ∈ x.2, q.block < W.heap.size) (hsz : ∀ n ∈ x.1.weights Tryz.prog 26, n ≤ reachBytes) :
    ∃ Wd Hd a1 n1 c1 xs1 a2 n2 c2 xs2 a3 n3 c3 xs3 t, [e0, e1, e2, e3, e4, e5] = [.int .i64 Wd, .int .i64 Hd, .slice a1 n1 c1, .slice a2 n2 c2, .slice a3 n3 c3, .int .i64 t] ∧ Ints W a1 n1 c1 xs1 ∧ Ints W a2 n2 c2 xs2 ∧ Ints W a3 n3 c3 xs3 := by
  obtain ⟨d, p⟩ := x
  dsimp only at hlt hsz
  obtain ⟨y0, y1, y2, y3, m, hx, hl, h0, h1, h2, h3⟩ := trod_struct4 Tryz.underlying26 hf
  simp only [Prod.mk.injEq] at hx
  obtain ⟨rfl, rfl⟩ := hx
  have g0 : DataW.trod enc Tryz.prog W 0 (fun _ => true) true m 24 [e0, e1, e2] = some y0 := by simpa [Tryz.cells24] using h0
  have g1 : DataW.trod enc Tryz.prog W 0 (fun _ => true) true m 22 [e3] = some y1 := by simpa [Tryz.cells24, Tryz.cells22] using h1
  have g2 : DataW.trod enc Tryz.prog W 0 (fun _ => true) true m 22 [e4] = some y2 := by simpa [Tryz.cells24, Tryz.cells22] using h2
  have g3 : DataW.trod enc Tryz.prog W 0 (fun _ => true) true m 3 [e5] = some y3 := by simpa [Tryz.cells24, Tryz.cells22, Tryz.cells3] using h3
  obtain ⟨z0, z1, z2, m', hz, hl', i0, i1, i2⟩ := Go.Deep.trod_struct3 Tryz.underlying24 g0
  obtain ⟨d0, p0⟩ := y0
  simp only [Prod.mk.injEq] at hz
  obtain ⟨rfl, rfl⟩ := hz
  have j0 : DataW.trod enc Tryz.prog W 0 (fun _ => true) true m' 3 [e0] = some z0 := by simpa [Tryz.cells3] using i0
  have j1 : DataW.trod enc Tryz.prog W 0 (fun _ => true) true m' 3 [e1] = some z1 := by simpa [Tryz.cells3] using i1
  have j2 : DataW.trod enc Tryz.prog W 0 (fun _ => true) true m' 22 [e2] = some z2 := by simpa [Tryz.cells3, Tryz.cells22] using i2
  obtain ⟨Wd, q0, _, wa⟩ := DataW.trod_int Tryz.underlying3 j0
  obtain ⟨Hd, q1, _, wb⟩ := DataW.trod_int Tryz.underlying3 j1
  obtain ⟨a1, n1, c1, xs1, q2, I1⟩ := ints_open j2 (fun x hx => hlt x (by simp [hx])) (fun k hk => hsz k (by simp [DataW.weights, Tryz.underlying26, Tryz.underlying24, DataW.weightsEach, hk]))
  obtain ⟨a2, n2, c2, xs2, q3, I2⟩ := ints_open g1 (fun x hx => hlt x (by simp [hx])) (fun k hk => hsz k (by simp [DataW.weights, Tryz.underlying26, DataW.weightsEach, hk]))
  obtain ⟨a3, n3, c3, xs3, q4, I3⟩ := ints_open g2 (fun x hx => hlt x (by simp [hx])) (fun k hk => hsz k (by simp [DataW.weights, Tryz.underlying26, DataW.weightsEach, hk]))
  obtain ⟨t, q5, _, wt⟩ := DataW.trod_int Tryz.underlying3 g3
  simp only [List.cons.injEq, and_true] at q0 q1 q2 q3 q4 q5
  subst q0 q1 q2 q3 q4 q5
  exact ⟨Wd, Hd, a1, n1, c1, xs1, a2, n2, c2, xs2, a3, n3, c3, xs3, t, rfl, I1, I2, I3⟩
theorem cellsPS : Tryz.prog.cellsOf 27 = 1 := by kernel_rfl
theorem Tryz.cells31 : Tryz.prog.cellsOf 31 = 11 := by kernel_rfl
set_option maxRecDepth 100000 in
theorem openConsole {H : Type} {enc : TypeId × Value → H} {W : World} {base : Nat} {v : Value} {d : DataW H} {p : List MemPlace} (hval : Value.okWide Tryz.prog W .any base 31 v)
    (h : DataW.Trod enc Tryz.prog W 0 (fun _ => true) true 31 v d p) (hlt : ∀ x ∈ p, x.block < W.heap.size) (hsz : ∀ n ∈ d.weights Tryz.prog 31, n ≤ reachBytes) :
    ∃ (Wd Hd : Int) (a1 : Option Addr) (n1 c1 : Nat) (xs1 : List Int) (a2 : Option Addr) (n2 c2 : Nat) (xs2 : List Int) (a3 : Option Addr) (n3 c3 : Nat) (xs3 : List Int) (t : Int) (a4 : Option Addr) (n4 c4 : Nat) (ph : List PhaseI) (a5 : Option Addr) (n5 c5 : Nat) (av : List Int) (D P : Bs) (ct : Int),
      v = .agg #[.int .i64 Wd, .int .i64 Hd, .slice a1 n1 c1, .slice a2 n2 c2, .slice a3 n3 c3, .int .i64 t, .slice a4 n4 c4, .slice a5 n5 c5, .string (bsA D), .string (bsA P), .int .i64 ct] ∧ Ints W a1 n1 c1 xs1 ∧ Ints W a2 n2 c2 xs2 ∧ Ints W a3 n3 c3 xs3 ∧ Rd FPhase W a4 n4 c4 ph ∧ Ints W a5 n5 c5 av ∧ D.length ≤ maxLen ∧ P.length ≤ maxLen := by
  obtain ⟨f, hf⟩ := h
  obtain ⟨cs, rfl, hcs⟩ := okWide_struct Tryz.underlying31 hval
  obtain ⟨x0, x1, x2, x3, m, hx, hl, h0, h1, h2, h3⟩ := trod_struct4 Tryz.underlying31 hf
  simp only [Prod.mk.injEq] at hx
  obtain ⟨rfl, rfl⟩ := hx
  rw [Tryz.cells31] at hl
  obtain ⟨l, rfl⟩ : ∃ l : List Value, cs = l.toArray := ⟨cs.toList, by simp⟩
  simp only [Value.cells] at hl h0 h1 h2 h3
  match l, hl with
  | [e0, e1, e2, e3, e4, e5, e6, e7, e8, e9, e10], _ =>
    have g0 : DataW.trod enc Tryz.prog W 0 (fun _ => true) true m 26 [e0, e1, e2, e3, e4, e5] = some x0 := by simpa [Tryz.cells26] using h0
    have g1 : DataW.trod enc Tryz.prog W 0 (fun _ => true) true m 27 [e6] = some x1 := by simpa [Tryz.cells26, cellsPS] using h1
    have g2 : DataW.trod enc Tryz.prog W 0 (fun _ => true) true m 22 [e7] = some x2 := by simpa [Tryz.cells26, cellsPS, Tryz.cells22] using h2
    have g3 : DataW.trod enc Tryz.prog W 0 (fun _ => true) true m 29 [e8, e9, e10] = some x3 := by simpa [Tryz.cells26, cellsPS, Tryz.cells22, Tryz.cells29] using h3
    obtain ⟨d0, p0⟩ := x0
    obtain ⟨d1, p1⟩ := x1
    obtain ⟨d2, p2⟩ := x2
    obtain ⟨d3, p3⟩ := x3
    obtain ⟨Wd, Hd, a1, n1, c1, xs1, a2, n2, c2, xs2, a3, n3, c3, xs3, t, q0, I1, I2, I3⟩ := elIncident g0 (fun x hx => hlt x (by simp [hx])) (fun k hk => hsz k (by simp [DataW.weights, Tryz.underlying31, DataW.weightsEach, hk]))
    obtain ⟨a4, n4, c4, ph, q1, I4⟩ := openPhaseS g1 (fun x hx => hlt x (by simp [hx])) (fun k hk => hsz k (by simp [DataW.weights, Tryz.underlying31, DataW.weightsEach, hk]))
    obtain ⟨a5, n5, c5, av, q2, I5⟩ := ints_open g2 (fun x hx => hlt x (by simp [hx])) (fun k hk => hsz k (by simp [DataW.weights, Tryz.underlying31, DataW.weightsEach, hk]))
    obtain ⟨D, P, ct, q3, hD, hP⟩ := elLog _ _ _ g3
    simp only [List.cons.injEq, and_true] at q0 q1 q2 q3
    obtain ⟨rfl, rfl, rfl, rfl, rfl, rfl⟩ := q0
    obtain rfl := q1
    obtain rfl := q2
    obtain ⟨rfl, rfl, rfl⟩ := q3
    exact ⟨Wd, Hd, a1, n1, c1, xs1, a2, n2, c2, xs2, a3, n3, c3, xs3, t, a4, n4, c4, ph, a5, n5, c5, av, D, P, ct, rfl, I1, I2, I3, I4, I5, hD, hP⟩
end Go.Proofs.YtpflnmejbialjaaGreatDoor
