/- Lemmas. -/
import Derived.Test.YtjnbdgldpmmamaaMOpn
import Derived.Test.YtjnbdgldpmmamaaMWrap
import Derived.Test.YtjnbdgldpmmamaaMFlNote
namespace Go.Proofs.Ytjnbdgldpmmamaa
set_option linter.unusedSimpArgs false
set_option linter.unusedVariables false
open Go.ChangeShapes Go.WideShapes Go.ChangeAt Go.RowKit Go.Joins

/-- a slice of records that is read, whose elements say more -/
theorem rd_openN {H : Type} {enc : TypeId × Value → H} {W : World} {α : Type} (F : Fl α) (N : α → Prop) {t e : TypeId} {fuel : Nat} {cs : List Value} {x : DataW H × List MemPlace} (ht : Try.prog.underlying t = some (.slice e)) (hC : Try.prog.cellsOf e = F.sz) (hB : 8 * F.sz ≤ Try.prog.bytesOf e)
    (hel : ∀ (fuel : Nat) (cs : List Value) (x : DataW H × List MemPlace), DataW.trod enc Try.prog W 0 (fun _ => true) true fuel e cs = some x → (∀ p ∈ x.2, p.block < W.heap.size) → (∀ n ∈ x.1.weights Try.prog e, n ≤ reachBytes) → ∃ y, cs = F.enc y ∧ F.wf y ∧ N y)
    (h : DataW.trod enc Try.prog W 0 (fun _ => true) true fuel t cs = some x) (hlt : ∀ p ∈ x.2, p.block < W.heap.size) (hsz : ∀ n ∈ x.1.weights Try.prog t, n ≤ reachBytes) : ∃ a n c xs, cs = [.slice a n c] ∧ Rd F W a n c xs ∧ ∀ y ∈ xs, N y := by
  rcases Go.Deep.open_slice ht h with ⟨rfl, rfl⟩ | ⟨a, len, cap, m, n, D, Pl, rfl, _, hl, hm, hmm, rfl, hi⟩
  · exact ⟨none, 0, 0, [], rfl, ⟨rfl, Nat.le_refl _, Nat.zero_le _, fun _ => rfl, by omega, by simp, fun k hk => by omega⟩, by simp⟩
  · simp only [if_true] at hmm
    subst hmm
    have hw : (len + (m - len)) * Try.prog.bytesOf e ≤ reachBytes := by
      refine hsz _ ?_
      simp only [DataW.weights, ht]
      simp
    have hroom : len * F.sz ≤ 17592186044416 := by
      have h1 : len * (8 * F.sz) ≤ (len + (m - len)) * Try.prog.bytesOf e := Nat.mul_le_mul (by omega) hB
      have h2 : len * (8 * F.sz) = 8 * (len * F.sz) := by rw [← Nat.mul_assoc, Nat.mul_comm len 8, Nat.mul_assoc]
      unfold reachBytes at hw
      omega
    have hQ : ∀ i, i < len → ∃ y : α, F.wf y ∧ N y ∧ ∀ j, j < F.sz → W.cell? (a.add (i * F.sz + j)) = (F.enc y)[j]? := by
      intro i hil
      obtain ⟨cs', hc, htr⟩ := hi i (by omega)
      obtain ⟨y, rfl, hy, hN⟩ := hel _ _ _ htr (fun p hp => hlt p (by
        refine List.mem_append_right _ (List.mem_flatMap.2 ⟨i, List.mem_range.2 (by omega), hp⟩))) (fun k hk => hsz k (by
        simp only [DataW.weights, ht]
        exact List.mem_cons_of_mem _ (List.mem_append_left _ (weightsAll_mem (List.mem_map.2 ⟨i, List.mem_range.2 hil, rfl⟩) hk))))
      obtain ⟨_, _, hat⟩ := World.cells?_some hc
      refine ⟨y, hy, hN, fun j hj => ?_⟩
      rw [← hat j (by rw [hC]; exact hj), hC, ← Go.Deep.add_add]
    obtain ⟨xs, hlen, hxs⟩ := list_of F.z _ len hQ
    refine ⟨some a, len, m, xs, rfl, ⟨hlen, hl, hm, fun e => by simp at e, hroom, ?_, fun k hk => ?_⟩, ?_⟩
    · intro y hy
      obtain ⟨i, hi', rfl⟩ := List.getElem_of_mem hy
      have := (hxs i (by omega)).1
      simpa [List.getD, hi'] using this
    · have hp := F.pos
      obtain ⟨b, off, spot⟩ := a
      have h0 := (hxs 0 (by omega)).2.2 0 hp
      obtain rfl : spot = none := by
        cases spot with
        | none => rfl
        | some s =>
          rw [List.getElem?_eq_getElem (by rw [F.len]; exact hp)] at h0
          simp only [Addr.add, Nat.zero_mul, Nat.zero_add, if_true, World.cell?] at h0
          split at h0
          · simp at h0
          · cases h0
      refine ⟨b, off, rfl, ?_, fun i hi' j hj => ?_⟩
      · rw [List.getElem?_eq_getElem (by rw [F.len]; exact hp)] at h0
        have := World.block_lt_of_cell? W _ h0
        rwa [Addr.add_lit] at this
      · have := (hxs i hi').2.2 j hj
        rwa [Addr.add_lit] at this
    · intro y hy
      obtain ⟨i, hi', rfl⟩ := List.getElem_of_mem hy
      have := (hxs i (by omega)).2.1
      simpa [List.getD, hi'] using this
theorem Try.cells53 : Try.prog.cellsOf 53 = 4 := by kernel_rfl
theorem Try.cellsN36 : Try.prog.cellsOf 36 = 1 := by kernel_rfl
set_option maxRecDepth 100000 in
theorem elNote {H : Type} {enc : TypeId × Value → H} {W : World} (fuel : Nat) (cs : List Value) (x : DataW H × List MemPlace) (h : DataW.trod enc Try.prog W 0 (fun _ => true) true fuel 53 cs = some x) (hlt : ∀ p ∈ x.2, p.block < W.heap.size) (hsz : ∀ n ∈ x.1.weights Try.prog 53, n ≤ reachBytes) : ∃ y, cs = FNote.enc y ∧ FNote.wf y ∧ Ints W y.ad y.n y.c y.cl := by
  obtain ⟨ys, m, _, rfl, hl, hyl, hf⟩ := DataW.trod_struct Try.underlying53 h
  rw [Try.cells53] at hl
  match cs, hl, ys, hyl with
  | [c0, c1, c2, c3], _, [y0, y1, y2, y3], _ =>
    have ce0 : Try.prog.cellsOf 9 = 1 := by kernel_rfl
    have h0 : DataW.trod enc Try.prog W 0 (fun _ => true) true m 3 [c0] = some y0 := by simpa [Try.cells3] using hf 0 _ rfl
    obtain ⟨z0, e0, _, w0⟩ := DataW.trod_int Try.underlying3 h0
    simp only [List.cons.injEq, and_true] at e0
    subst e0
    have h1 : DataW.trod enc Try.prog W 0 (fun _ => true) true m 3 [c1] = some y1 := by simpa [Try.cells3] using hf 1 _ rfl
    obtain ⟨z1, e1, _, w1⟩ := DataW.trod_int Try.underlying3 h1
    simp only [List.cons.injEq, and_true] at e1
    subst e1
    have h2 : DataW.trod enc Try.prog W 0 (fun _ => true) true m 36 [c2] = some y2 := by simpa [Try.cells3, Try.cellsN36] using hf 2 _ rfl
    obtain ⟨a, n, c, cl, e2, hcl⟩ := ints_open h2 (fun p hp => hlt p (by simp [hp])) (fun k hk => hsz k (by simp [DataW.weights, Try.underlying53, DataW.weightsEach, hk]))
    simp only [List.cons.injEq, and_true] at e2
    subst e2
    have h3 : DataW.trod enc Try.prog W 0 (fun _ => true) true m 9 [c3] = some y3 := by simpa [Try.cells3, Try.cellsN36, ce0] using hf 3 _ rfl
    obtain ⟨z3, e3, _, w3⟩ := DataW.trod_string Try.underlying9 h3
    simp only [List.cons.injEq, and_true] at e3
    subst e3
    exact ⟨⟨z0, z1, a, n, c, cl, bl z3⟩, rfl, ⟨i64_of_wf w0, i64_of_wf w1, w3⟩, hcl⟩
theorem openNoteS {H : Type} {enc : TypeId × Value → H} {W : World} {fuel : Nat} {cs : List Value} {x : DataW H × List MemPlace} (h : DataW.trod enc Try.prog W 0 (fun _ => true) true fuel 22 cs = some x) (hlt : ∀ p ∈ x.2, p.block < W.heap.size) (hsz : ∀ n ∈ x.1.weights Try.prog 22, n ≤ reachBytes) : ∃ a n c xs, cs = [.slice a n c] ∧ RdN W a n c xs := by
  obtain ⟨a, n, c, xs, e, h1, h2⟩ := rd_openN FNote (fun y => Ints W y.ad y.n y.c y.cl) Try.underlying22 Try.cells53 (by rw [show Try.prog.bytesOf 53 = 56 from by kernel_rfl]; show 8 * 4 ≤ 56; omega) elNote h hlt hsz
  exact ⟨a, n, c, xs, e, h1, h2⟩
end Go.Proofs.Ytjnbdgldpmmamaa
