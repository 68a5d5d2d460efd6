/-
  Bytes of a string in memory of the call's own, and back.
-/
import Derived.Test.YtkpicemjiokdpaaDoorProg
import Derived.Test.YtkpicemjiokdpaaDoorStr
import Derived.Lib.ConvBytes
import Derived.Laws.IdiomStrings
namespace Go.Proofs.YtkpicemjiokdpaaDoor
set_option linter.unusedSimpArgs false
set_option linter.unusedVariables false
open Go.RowKit

/-- block g holds the bytes l, that may be written -/
def bytE (g : Nat) (l : Bs) : Ent where
  hold B w := B ≤ g ∧ ∃ cs t fr hi, w.heap[g]? = some (.cells cs t (fr, hi)) ∧ l.length ≤ fr ∧ ∀ j (hj : j < l.length), cs[j]? = some (.int .u8 (l[j].toNat : Int))
  blk k := k = g
  lt := by
    rintro B w ⟨h1, cs, t, fr, hi, h2, _⟩ k rfl
    exact ⟨h1, (Array.getElem?_eq_some_iff.1 h2).1⟩
  mono := fun h hB => ⟨Nat.le_trans hB h.1, h.2⟩
  keep := by
    rintro B w d w' ⟨h1, cs, t, fr, hi, h2, h3, h4⟩ hk hd
    exact ⟨h1, cs, t, fr, hi, by rw [hk.block g (Array.getElem?_eq_some_iff.1 h2).1 (hd g rfl)]; exact h2, h3, h4⟩

section
variable {B : Nat} {w0 w w' : World} {G G' : List Ent} {g : Nat} {l : Bs}
theorem Mem.bytCell (h : Mem B w0 w G) (i : In G (bytE g l)) : g < w.heap.size ∧ (∀ j (hj : j < l.length), w.cell? ⟨g, j, none⟩ = some (.int .u8 (l[j].toNat : Int))) ∧ ∀ j, j < l.length → w.frozen? ⟨g, j, none⟩ = false := by
  obtain ⟨_, cs, t, fr, hi, h2, h3, h4⟩ := h.ents _ i.mem
  refine ⟨(Array.getElem?_eq_some_iff.1 h2).1, fun j hj => ?_, fun j hj => ?_⟩
  · simp only [World.cell?, h2]
    exact h4 j hj
  · simp only [World.frozen?, h2]
    have : ¬ fr ≤ j := by omega
    simp [this]
theorem Mem.bytSet (h : Mem B w0 w G) {j : Nat} {x : UInt8} (hj : j < l.length) (p : Put G (bytE g l) (bytE g (l.set j x)) G') : Mem B w0 (w.setCell ⟨g, j, none⟩ (.int .u8 (x.toNat : Int))) G' := by
  refine h.put p (Keeps.setCell (d := (bytE g l).blk) (Keeps.refl _ _) ⟨g, j, none⟩ (show g = g from rfl) _) ?_ (fun k hk => .inl hk)
  obtain ⟨h1, cs, t, fr, hi, h2, h3, h4⟩ := h.ents _ p.mem
  refine ⟨h1, cs.setIfInBounds j (.int .u8 (x.toNat : Int)), t, fr, hi, ?_, by rw [List.length_set]; exact h3, fun i hi' => ?_⟩
  · simp only [World.setCell, Array.getElem?_modify, h2]
    simp
  · rw [List.length_set] at hi'
    have hjc : j < cs.size := by
      have := h4 j hj
      exact (Array.getElem?_eq_some_iff.1 this).1
    by_cases e : j = i
    · subst e
      simp [hjc]
    · simp [e, h4 i hi']
theorem bytesWorld_keeps (w : World) (e : TypeId) (s : ByteArray) : Below w.heap.size w (Lib.bytesWorld w e s) := by
  refine ⟨?_, ?_, ?_, ?_, ?_⟩
  all_goals first | rfl | (rw [Lib.bytesWorld_size]; omega) | (intro j hj; exact Lib.bytesWorld_at_old w e s j hj)
/-- []byte(s) -/
theorem wpList_toBytes {ops : Array Oper} {rest : List Oper} {o : Oper} {a : Act} {Q : Exit → Act → World → Prop} (hM : Mem B w0 w G) (hgd : o.guard = none) (src dst e : TypeId) (x : Operand) (ho : o.op = .convert src dst x) (hx : a.eval x = .string (bsA l)) {u : TypeDesc}
    (hs : Tryd.prog.underlying src = some u) (hd : Tryd.prog.underlying dst = some (.slice e)) (he : Tryd.prog.underlying e = some (.int .u8))
    (h : ∀ c w', Mem B w0 w' (bytE w.heap.size l :: G) → wpList Tryd.prog ops Q rest (a.put o.dst (.slice (some ⟨w.heap.size, 0, none⟩) l.length c)) w') : wpList Tryd.prog ops Q (o :: rest) a w := by
  refine wpList_plain hgd fun K hK => ?_
  have hr := Lib.run_convert_string_bytes (P := Tryd.prog) w src dst e (bsA l) hs hd he
  unfold Oper.wp execOp
  simp only [ho, hx, hr, Sem.run_bind, Result.andThen_ok, Sem.run_pure]
  refine hK _ _ (h _ _ ?_)
  have hn := Lib.bytesWorld_at_new w e (bsA l)
  have hsz : l.length ≤ (Lib.bytesCells w e (bsA l)).size := by
    unfold Lib.bytesCells
    simp [bsA]
  refine hM.new (bytesWorld_keeps w e (bsA l)) (bytE w.heap.size l) ⟨Nat.le_refl _, _, _, _, _, hn, hsz, ?_⟩ ⟨hM.size, _, _, _, _, hn, hsz, ?_⟩
  all_goals
    intro j hj
    simp [Lib.bytesCells, bsA, Array.getElem?_append, hj]
theorem step_toBytes {ops : Array Oper} {o : Oper} {a : Act} {K : Act → World → Prop} {Q : Exit → Act → World → Prop} {R : Prop} (hM : Mem B w0 w G) (hgd : o.guard = none) (src dst e : TypeId) (x : Operand) (ho : o.op = .convert src dst x) (hx : a.eval x = .string (bsA l)) {u : TypeDesc}
    (hs : Tryd.prog.underlying src = some u) (hd : Tryd.prog.underlying dst = some (.slice e)) (he : Tryd.prog.underlying e = some (.int .u8))
    (h : ∀ c w', Mem B w0 w' (bytE w.heap.size l :: G) → K (a.put o.dst (.slice (some ⟨w.heap.size, 0, none⟩) l.length c)) w') : if Region.wanted o (yielded ops a.tmps) = true then Oper.wp Tryd.prog o a w K Q else R := by
  have hw : Region.wanted o (yielded ops a.tmps) = true := by simp [Region.wanted, hgd]
  rw [if_pos hw]
  have hr := Lib.run_convert_string_bytes (P := Tryd.prog) w src dst e (bsA l) hs hd he
  unfold Oper.wp execOp
  simp only [ho, hx, hr, Sem.run_bind, Result.andThen_ok, Sem.run_pure]
  refine h _ _ ?_
  have hn := Lib.bytesWorld_at_new w e (bsA l)
  have hsz : l.length ≤ (Lib.bytesCells w e (bsA l)).size := by
    unfold Lib.bytesCells
    simp [bsA]
  refine hM.new (bytesWorld_keeps w e (bsA l)) (bytE w.heap.size l) ⟨Nat.le_refl _, _, _, _, _, hn, hsz, ?_⟩ ⟨hM.size, _, _, _, _, hn, hsz, ?_⟩
  all_goals
    intro j hj
    simp [Lib.bytesCells, bsA, Array.getElem?_append, hj]
/-- string(b) -/
theorem wpList_toString {ops : Array Oper} {rest : List Oper} {o : Oper} {a : Act} {Q : Exit → Act → World → Prop} {c : Nat} (hM : Mem B w0 w G) (i : In G (bytE g l)) (hgd : o.guard = none) (src dst e : TypeId) (x : Operand) (ho : o.op = .convert src dst x) (hx : a.eval x = .slice (some ⟨g, 0, none⟩) l.length c)
    (hs : Tryd.prog.underlying src = some (.slice e)) (he : Tryd.prog.underlying e = some (.int .u8)) (hd : Tryd.prog.underlying dst = some .string)
    (h : wpList Tryd.prog ops Q rest (a.put o.dst (.string (bsA l))) w) : wpList Tryd.prog ops Q (o :: rest) a w := by
  refine wpList_plain hgd fun K hK => ?_
  obtain ⟨_, hc, _⟩ := hM.bytCell i
  have hr := run_convert_bytes_back (P := Tryd.prog) w src dst e ⟨g, 0, none⟩ c l hs he hd (fun j hj => by rw [Addr.add_lit, Nat.zero_add]; exact hc j hj)
  unfold Oper.wp execOp
  simp only [ho, hx, hr, Sem.run_bind, Result.andThen_ok, Sem.run_pure]
  exact hK _ _ h
end
end Go.Proofs.YtkpicemjiokdpaaDoor
