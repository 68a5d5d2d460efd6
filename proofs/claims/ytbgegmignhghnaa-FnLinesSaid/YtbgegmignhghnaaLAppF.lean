/-
  append onto a slice that is full: always new memory.
-/
import Derived.Test.YtbgegmignhghnaaLQueue
/-
  append onto a slice that is full: always new memory.
-/
namespace Go.Proofs.Ytbgegmignhghnaa
set_option linter.unusedSimpArgs false
set_option linter.unusedVariables false
open Go.RowKit

set_option maxRecDepth 100000 in
theorem run_appendF (t ty : TypeId) (ht : Try.prog.underlying t = some (.slice 3)) {w : World} {va : Option Addr} {na : Nat} {xs : List Int} (h : Ints w va na na xs) {xa : Option Addr} {m cx : Nat} {ys : List Int} (hI : Ints w xa m cx ys) (hm : 0 < m) (hroom : na + m ≤ 17592186044416) :
    ∃ a' c' w', (Builtin.append_ #[t, t] ty #[.slice va na na, .slice xa m cx]).run Try.prog w = .ok (.slice a' (na + m) c') w' ∧ Own w.heap.size w' a' (na + m) c' (xs ++ ys) ∧ Below w.heap.size w w' := by
  obtain ⟨i0, hi, hz0, hz1, hz2⟩ := info_parts Try.info3
  have hlen : (xs ++ ys).length = na + m := by rw [List.length_append, h.len, hI.len]
  have hwf : ∀ x ∈ xs ++ ys, I64 x := fun x hx => (List.mem_append.1 hx).elim (h.wf x) (hI.wf x)
  obtain ⟨ad, rfl⟩ : ∃ ad, xa = some ad := by
    obtain ⟨b, off, e, _⟩ := hI.at' 0 (by omega)
    exact ⟨_, e⟩
  have hnl : (cellsI ys).length = m * 1 := by rw [cellsI_length, hI.len, Nat.mul_one]
  have hgb : ∀ {w' : World}, w.grownBy w' none → Below w.heap.size w w' := fun h3 => ((Keeps.grown h3).mono (d' := fun _ => False) (fun k _ hk => by cases hk)).below (Nat.le_refl _) (fun k hk => hk.elim)
  cases va with
  | none =>
    obtain rfl : na = 0 := h.nil rfl
    obtain rfl : xs = [] := List.eq_nil_of_length_eq_zero h.len
    obtain ⟨a', c', w', h1, h2, h3, h4⟩ := run_appendI (P := Try.prog) w t ty 3 i0 ht hi hz0 hz1 hz2 w.heap.size none 0 0 [] (World.ownsRow_nil _ _ _ _) (some ad) m cx ys hI hroom (Nat.le_refl _)
    exact ⟨a', c', w', h1, ⟨hlen, hroom, hwf, h2⟩, hgb h3⟩
  | some va =>
    obtain ⟨v', w', h1, h2, h3⟩ := run_append_arg_grows (P := Try.prog) w t ty 3 i0 _ 1 8 ht hi hz0 hz1 hz2 rfl (by decide) va na na (cellsI xs) (by rw [cellsI_length, h.len, Nat.mul_one]) (fun j u hj => by
        obtain ⟨h5, rfl⟩ := cellsI_get xs j u hj
        have h6 : j < na := by rw [← h.len]; exact h5
        obtain ⟨b, off, e, -, -⟩ := h.at' j h6
        injection e with e
        subst e
        rw [Addr.add_lit]
        exact h.get h6) ad m cx (cellsI ys) hnl (hI.news ad rfl) (by omega) (by unfold maxLen; omega) (by omega)
    rw [← cellsI_append] at h2
    obtain ⟨a', c', rfl⟩ : ∃ a' c', v' = .slice a' (na + m) c' := by
      rcases h2.2 with ⟨rfl, e⟩ | ⟨g', cap, cur', e, _⟩
      · omega
      · exact ⟨_, _, e⟩
    exact ⟨a', c', w', h1, ⟨hlen, hroom, hwf, h2⟩, hgb h3⟩
section
variable {B : Nat} {w0 w : World} {G : List Ent}
theorem wp_appF {o : Oper} {a : Act} {K : Act → World → Prop} {Q : Exit → Act → World → Prop} {va : Option Addr} {na : Nat} {xs : List Int} {xa : Option Addr} {m cx : Nat} {ys : List Int} (hM : Mem B w0 w G) (h : Ints w va na na xs) (hI : Ints w xa m cx ys) (hm : 0 < m) (hroom : na + m ≤ 17592186044416)
    (s v : Operand) (t : TypeId) (ht : Try.prog.underlying t = some (.slice 3)) (ho : o.op = .call { callee := .builtin .append, args := #[s, v], argTypes := #[t, t] }) (hs : a.eval s = .slice va na na) (hv : a.eval v = .slice xa m cx)
    (k : ∀ a' c' w', Mem B w0 w' (intE a' (na + m) c' (xs ++ ys) :: G) → K (a.put o.dst (.slice a' (na + m) c')) w') : o.wp Try.prog a w K Q := by
  obtain ⟨a', c', w', hr, h2, h3⟩ := run_appendF t o.type ht h hI hm hroom
  unfold Oper.wp execOp
  simp only [ho, resolve, invoke, builtin, Sem.run_bind, Sem.run_pure, Result.andThen_ok, List.map_toArray, List.map_cons, List.map_nil, hs, hv, hr]
  exact k a' c' w' (hM.own h3 h2)
theorem step_appF {ops : Array Oper} {o : Oper} {a : Act} {K : Act → World → Prop} {Q : Exit → Act → World → Prop} {R : Prop} {va : Option Addr} {na : Nat} {xs : List Int} {xa : Option Addr} {m cx : Nat} {ys : List Int} (hM : Mem B w0 w G) (h : Ints w va na na xs) (hI : Ints w xa m cx ys) (hm : 0 < m) (hroom : na + m ≤ 17592186044416)
    (hgd : o.guard = none) (s v : Operand) (t : TypeId) (ht : Try.prog.underlying t = some (.slice 3)) (ho : o.op = .call { callee := .builtin .append, args := #[s, v], argTypes := #[t, t] }) (hs : a.eval s = .slice va na na) (hv : a.eval v = .slice xa m cx)
    (k : ∀ a' c' w', Mem B w0 w' (intE a' (na + m) c' (xs ++ ys) :: G) → K (a.put o.dst (.slice a' (na + m) c')) w') : if Region.wanted o (yielded ops a.tmps) = true then Oper.wp Try.prog o a w K Q else R := by
  have hw : Region.wanted o (yielded ops a.tmps) = true := by unfold Region.wanted; rw [hgd]
  rw [if_pos hw]
  exact wp_appF hM h hI hm hroom s v t ht ho hs hv k
end
end Go.Proofs.Ytbgegmignhghnaa
