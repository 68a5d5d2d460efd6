/-
  Arguments that are read: slices of records.
-/
import Derived.Test.YtpflnmejbialjaaGreatDoorVWrap
import Derived.Test.YtpflnmejbialjaaGreatDoorVRd
import Derived.Deep.Slices
/-
  Arguments that are read: slices of records.
-/
namespace Go.Proofs.YtpflnmejbialjaaGreatDoor
set_option linter.unusedSimpArgs false
set_option linter.unusedVariables false
open Go.ChangeShapes Go.WideShapes Go.ChangeAt Go.RowKit Go.Joins

theorem weightsAll_mem {H : Type} {P : Program} {e : TypeId} {d : DataW H} {k : Nat} : ∀ {l : List (DataW H)}, d ∈ l → k ∈ d.weights P e → k ∈ DataW.weightsAll P e l
  | [], h, _ => by simp at h
  | x :: l, h, hk => by
    rw [DataW.weightsAll]
    rcases List.mem_cons.1 h with rfl | h
    · exact List.mem_append_left _ hk
    · exact List.mem_append_right _ (weightsAll_mem h hk)

theorem list_of {α : Type} (z : α) (Q : Nat → α → Prop) : ∀ (n : Nat), (∀ i, i < n → ∃ x, Q i x) → ∃ xs : List α, xs.length = n ∧ ∀ i, i < n → Q i (xs.getD i z)
  | 0, _ => ⟨[], rfl, fun i hi => by omega⟩
  | n + 1, h => by
    obtain ⟨xs, hl, hx⟩ := list_of z Q n (fun i hi => h i (by omega))
    obtain ⟨y, hy⟩ := h n (by omega)
    refine ⟨xs ++ [y], by simp [hl], fun i hi => ?_⟩
    by_cases e : i = n
    · subst e
      rw [List.getD_eq_getElem?_getD, List.getElem?_append_right (by omega), hl, Nat.sub_self]
      exact hy
    · rw [List.getD_eq_getElem?_getD, List.getElem?_append_left (by omega), ← List.getD_eq_getElem?_getD]
      exact hx i (by omega)

/-- a slice of records that is read -/
theorem rd_open {H : Type} {enc : TypeId × Value → H} {W : World} {α : Type} (F : Fl α) {t e : TypeId} {fuel : Nat} {cs : List Value} {x : DataW H × List MemPlace} (ht : Tryz.prog.underlying t = some (.slice e)) (hC : Tryz.prog.cellsOf e = F.sz) (hB : 8 * F.sz ≤ Tryz.prog.bytesOf e)
    (hel : ∀ (fuel : Nat) (cs : List Value) (x : DataW H × List MemPlace), DataW.trod enc Tryz.prog W 0 (fun _ => true) true fuel e cs = some x → (∀ n ∈ x.1.weights Tryz.prog e, n ≤ reachBytes) → ∃ y, cs = F.enc y ∧ F.wf y)
    (h : DataW.trod enc Tryz.prog W 0 (fun _ => true) true fuel t cs = some x) (hlt : ∀ p ∈ x.2, p.block < W.heap.size) (hsz : ∀ n ∈ x.1.weights Tryz.prog t, n ≤ reachBytes) : ∃ a n c xs, cs = [.slice a n c] ∧ Rd F W a n c xs := by
  rcases Go.Deep.open_slice ht h with ⟨rfl, rfl⟩ | ⟨a, len, cap, m, n, D, Pl, rfl, _, hl, hm, hmm, rfl, hi⟩
  · exact ⟨none, 0, 0, [], rfl, rfl, Nat.le_refl _, Nat.zero_le _, fun _ => rfl, by omega, by simp, fun k hk => by omega⟩
  · simp only [if_true] at hmm
    subst hmm
    have hw : (len + (m - len)) * Tryz.prog.bytesOf e ≤ reachBytes := by
      refine hsz _ ?_
      simp only [DataW.weights, ht]
      simp
    have hroom : len * F.sz ≤ 17592186044416 := by
      have h1 : len * (8 * F.sz) ≤ (len + (m - len)) * Tryz.prog.bytesOf e := Nat.mul_le_mul (by omega) hB
      have h2 : len * (8 * F.sz) = 8 * (len * F.sz) := by rw [← Nat.mul_assoc, Nat.mul_comm len 8, Nat.mul_assoc]
      unfold reachBytes at hw
      omega
    have hQ : ∀ i, i < len → ∃ y : α, F.wf y ∧ ∀ j, j < F.sz → W.cell? (a.add (i * F.sz + j)) = (F.enc y)[j]? := by
      intro i hil
      obtain ⟨cs', hc, htr⟩ := hi i (by omega)
      obtain ⟨y, rfl, hy⟩ := hel _ _ _ htr (fun k hk => hsz k (by
        simp only [DataW.weights, ht]
        exact List.mem_cons_of_mem _ (List.mem_append_left _ (weightsAll_mem (List.mem_map.2 ⟨i, List.mem_range.2 hil, rfl⟩) hk))))
      obtain ⟨_, _, hat⟩ := World.cells?_some hc
      refine ⟨y, hy, fun j hj => ?_⟩
      rw [← hat j (by rw [hC]; exact hj), hC, ← Go.Deep.add_add]
    obtain ⟨xs, hlen, hxs⟩ := list_of F.z _ len hQ
    refine ⟨some a, len, m, xs, rfl, hlen, hl, hm, fun e => by simp at e, hroom, ?_, fun k hk => ?_⟩
    · intro y hy
      obtain ⟨i, hi', rfl⟩ := List.getElem_of_mem hy
      have := (hxs i (by omega)).1
      simpa [List.getD, hi'] using this
    · have hp := F.pos
      obtain ⟨b, off, spot⟩ := a
      have h0 := (hxs 0 (by omega)).2 0 hp
      obtain rfl : spot = none := by
        cases spot with
        | none => rfl
        | some s =>
          rw [List.getElem?_eq_getElem (by rw [F.len]; exact hp)] at h0
          simp only [Addr.add, Nat.zero_mul, Nat.zero_add, if_true, World.cell?] at h0
          split at h0
          · simp at h0
          · cases h0
      refine ⟨b, off, rfl, ?_, fun i hi' j hj => ?_⟩
      · rw [List.getElem?_eq_getElem (by rw [F.len]; exact hp)] at h0
        have := World.block_lt_of_cell? W _ h0
        rwa [Addr.add_lit] at this
      · have := (hxs i hi').2 j hj
        rwa [Addr.add_lit] at this
end Go.Proofs.YtpflnmejbialjaaGreatDoor
