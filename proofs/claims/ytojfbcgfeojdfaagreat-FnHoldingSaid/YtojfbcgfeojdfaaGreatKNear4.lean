/- Lemmas. -/
import Derived.Test.YtojfbcgfeojdfaaGreatKMkr
import Derived.Test.YtojfbcgfeojdfaaGreatKMir
import Derived.ArgAppend
import Derived.Deep.Upon
import Derived.Test.YtojfbcgfeojdfaaGreatKSpeedW
/-
  A queue: a slice of numbers that is cut at its head and appended to; and appends of one number, in terms of entries.
-/
namespace Go.Proofs.YtojfbcgfeojdfaaGreat
set_option linter.unusedSimpArgs false
set_option linter.unusedVariables false
open Go.RowKit

theorem setCells_rec (g : Nat) : ∀ (vs : List Value) (o : Nat) (w : World), w.setCells g o vs = setRec w g o vs
  | [], _, _ => rfl
  | _ :: vs, o, w => setCells_rec g vs (o + 1) _

/-- the slice (a, n, c) lies in a block from B on, that is nobody else's, with the numbers xs -/
structure Qu (B : Nat) (w : World) (a : Option Addr) (n c : Nat) (xs : List Int) : Prop where
  len : xs.length = n
  cap : n ≤ c
  capm : c ≤ maxLen
  room : n ≤ 17592186044416
  wf : ∀ x ∈ xs, I64 x
  at' : (a = none ∧ c = 0) ∨ ∃ g off cur, a = some ⟨g, off, none⟩ ∧ B ≤ g ∧ w.heap[g]? = some (.cells cur 3 (0, 0)) ∧ off + c ≤ cur.size ∧ (cur.toList.drop off).take n = cellsI xs

theorem Own.qu {B : Nat} {w : World} {a : Option Addr} {n c : Nat} {xs : List Int} (h : Own B w a n c xs) : Qu B w a n c xs := by
  refine ⟨h.len, h.ints.cap, h.ints.capm, h.room, h.wf, ?_⟩
  obtain ⟨h1, h2⟩ := h.row
  rcases h2 with ⟨e, hn⟩ | ⟨g, cap, cur, e, hb, hh, hle, hm, hs, ht⟩
  · cases e
    exact .inl ⟨rfl, rfl⟩
  · cases e
    exact .inr ⟨g, 0, cur, rfl, hb, hh, by omega, by simpa using ht⟩

theorem Qu.ints {B : Nat} {w : World} {a : Option Addr} {n c : Nat} {xs : List Int} (h : Qu B w a n c xs) : Ints w a n c xs := by
  refine ⟨h.len, h.cap, h.capm, ?_, h.room, h.wf, fun k hk => ?_⟩
  · rintro rfl
    rcases h.at' with ⟨_, h1⟩ | ⟨g, off, cur, e, _⟩
    · exact h1
    · cases e
  · rcases h.at' with ⟨_, h1⟩ | ⟨g, off, cur, e, hb, hh, hle, ht⟩
    · have := h.cap; omega
    · refine ⟨g, off, e, (Array.getElem?_eq_some_iff.1 hh).1, fun i hi => ?_⟩
      have h2 : (cellsI xs)[i]? = some (.int .i64 (xs.getD i 0)) := by
        have hx : i < xs.length := by rw [h.len]; exact hi
        simp [cellsI, List.getElem?_map, List.getElem?_eq_getElem hx, List.getD_eq_getElem?_getD]
      rw [← ht, List.getElem?_take_of_lt hi, List.getElem?_drop] at h2
      simp [World.cell?, hh]
      simpa using h2

def quE (a : Option Addr) (n c : Nat) (xs : List Int) : Ent where
  hold B w := Qu B w a n c xs
  blk k := blockOf a k
  lt := by
    rintro B w h k ⟨ad, rfl, rfl⟩
    rcases h.at' with ⟨e, _⟩ | ⟨g, off, cur, e, hb, hh, _⟩
    · cases e
    · cases e
      exact ⟨hb, (Array.getElem?_eq_some_iff.1 hh).1⟩
  mono := fun h hB => ⟨h.len, h.cap, h.capm, h.room, h.wf, h.at'.imp id fun ⟨g, off, cur, h1, h2, h3⟩ => ⟨g, off, cur, h1, Nat.le_trans hB h2, h3⟩⟩
  keep := by
    rintro B w d w' h hk hd
    refine ⟨h.len, h.cap, h.capm, h.room, h.wf, h.at'.imp id fun ⟨g, off, cur, h1, h2, h3, h4⟩ => ⟨g, off, cur, h1, h2, ?_, h4⟩⟩
    rw [hk.block g (Array.getElem?_eq_some_iff.1 h3).1 (hd g ⟨_, h1, rfl⟩)]
    exact h3
section
variable {B : Nat} {w0 w w' : World} {G G' : List Ent}
theorem Mem.qu {a : Option Addr} {n c : Nat} {xs : List Int} (h : Mem B w0 w G) (i : In G (quE a n c xs)) : Qu B w a n c xs := h.ents _ i.mem
theorem Mem.toQu {a : Option Addr} {n c : Nat} {xs : List Int} (h : Mem B w0 w G) (p : Put G (intE a n c xs) (quE a n c xs) G') : Mem B w0 w G' :=
  h.put p (Keeps.refl _ _) (h.ents _ p.mem : Own B w a n c xs).qu (fun k hk => .inl hk)
/-- the head cut off -/
theorem Mem.popQu {g off n c : Nat} {x : Int} {xs : List Int} (h : Mem B w0 w G) (p : Put G (quE (some ⟨g, off, none⟩) (n + 1) (c + 1) (x :: xs)) (quE (some ⟨g, off + 1, none⟩) n c xs) G') : Mem B w0 w G' := by
  have q : Qu B w (some ⟨g, off, none⟩) (n + 1) (c + 1) (x :: xs) := h.ents _ p.mem
  refine h.put p (Keeps.refl _ _) ?_ (fun k hk => .inl (by obtain ⟨ad, e, rfl⟩ := hk; cases e; exact ⟨_, rfl, rfl⟩))
  refine ⟨by have := q.len; simpa using this, by have := q.cap; omega, by have := q.capm; omega, by have := q.room; omega, fun y hy => q.wf y (by simp [hy]), ?_⟩
  rcases q.at' with ⟨e, _⟩ | ⟨g', off', cur, e, hb, hh, hle, ht⟩
  · cases e
  · cases e
    refine .inr ⟨_, _, cur, rfl, hb, hh, by omega, ?_⟩
    have h1 := congrArg (List.drop 1) ht
    rw [List.drop_take, List.drop_drop] at h1
    simpa [cellsI] using h1
/-- .. where it was the last, the address stays -/
theorem Mem.popQu1 {a : Option Addr} {x : Int} {xs : List Int} {n : Nat} (h : Mem B w0 w G) (p : Put G (quE a (n + 1) 1 (x :: xs)) (quE a 0 0 []) G') : Mem B w0 w G' := by
  have q : Qu B w a (n + 1) 1 (x :: xs) := h.ents _ p.mem
  refine h.put p (Keeps.refl _ _) ?_ (fun k hk => .inl hk)
  refine ⟨rfl, by omega, by omega, by omega, by simp, ?_⟩
  rcases q.at' with ⟨e, e1⟩ | ⟨g', off', cur, e, hb, hh, hle, ht⟩
  · omega
  · exact .inr ⟨_, _, cur, e, hb, hh, by omega, by simp [cellsI]⟩

/-- append onto a queue -/
theorem run_appendQ (t ty : TypeId) (ht : Tryz.prog.underlying t = some (.slice 3)) {va : Option Addr} {na ca : Nat} {xs : List Int} (q : Qu B w va na ca xs) {xa : Option Addr} {m cx : Nat} {ys : List Int} (hI : Ints w xa m cx ys)
    (hroom : na + m ≤ 17592186044416) (hB : B ≤ w.heap.size) :
    ∃ a' c' w', (Builtin.append_ #[t, t] ty #[.slice va na ca, .slice xa m cx]).run Tryz.prog w = .ok (.slice a' (na + m) c') w' ∧ Qu B w' a' (na + m) c' (xs ++ ys) ∧ Keeps (blockOf va) w w' ∧ ∀ k, blockOf a' k → blockOf va k ∨ w.heap.size ≤ k := by
  obtain ⟨i0, hi, hz0, hz1, hz2⟩ := info_parts Tryz.info3
  have hlen : (xs ++ ys).length = na + m := by rw [List.length_append, q.len, hI.len]
  have hwf : ∀ x ∈ xs ++ ys, I64 x := fun x hx => (List.mem_append.1 hx).elim (q.wf x) (hI.wf x)
  by_cases hm : m = 0
  · subst hm
    obtain rfl : ys = [] := List.eq_nil_of_length_eq_zero hI.len
    have hs : Src Tryz.prog i0.size t (.slice xa 0 cx) 0 [] w := by
      cases xa with
      | none => exact Src.ofNil w ht cx
      | some ad => exact Src.ofSlice w ht ad 0 cx [] (by simp) (by simp) (by simp)
    refine ⟨va, ca, w, run_append_nothing w t t ty 3 i0 ht hi va na ca q.cap _ hs, by simpa using q, Keeps.refl _ _, fun k hk => .inl hk⟩
  obtain ⟨ad, rfl⟩ : ∃ ad, xa = some ad := by
    obtain ⟨b, off, e, _⟩ := hI.at' 0 (by omega)
    exact ⟨_, e⟩
  have hnl : (cellsI ys).length = m * 1 := by rw [cellsI_length, hI.len, Nat.mul_one]
  rcases q.at' with ⟨rfl, rfl⟩ | ⟨g, off, cur, rfl, hb, hh, hle, htk⟩
  · obtain rfl : na = 0 := by have := q.cap; omega
    obtain rfl : xs = [] := List.eq_nil_of_length_eq_zero q.len
    obtain ⟨a', c', w', h1, h2, h3, h4⟩ := run_appendI (P := Tryz.prog) w t ty 3 i0 ht hi hz0 hz1 hz2 w.heap.size none 0 0 [] (World.ownsRow_nil _ _ _ _) (some ad) m cx ys hI hroom (Nat.le_refl _)
    have ho : Own w.heap.size w' a' (0 + m) c' ([] ++ ys) := ⟨hlen, hroom, hwf, h2⟩
    exact ⟨a', c', w', h1, (quE a' (0 + m) c' ([] ++ ys)).mono ho.qu hB, (Keeps.grown h3).mono (fun k _ hk => by cases hk), fun k hk => (h4 k hk).imp id (fun e => by omega)⟩
  · have holds : ∀ j u, (cellsI xs)[j]? = some u → w.cell? ⟨g, off + j, none⟩ = some u := by
      intro j u hj
      obtain ⟨h1, rfl⟩ := cellsI_get xs j u hj
      exact q.ints.get (by rw [← q.len]; exact h1)
    by_cases hr : na + m ≤ ca
    · have hrun := run_append_room_cells (P := Tryz.prog) w t ty 3 i0 ht hi g off na ca ad m cx (cellsI ys) (by rw [hz1]; exact hnl) (hI.news ad rfl) (cellsI_one ys) hr
        (fun j hj => by
          rw [hz1, Nat.mul_one]
          have : off + na + j < cur.size := by rw [hnl] at hj; omega
          simp [World.cell?, hh, this])
        (fun j hj => by simp [World.frozen?, hh])
      rw [hz1, Nat.mul_one, setCells_rec] at hrun
      obtain ⟨cur', a1, a2, a3⟩ := setRec_heap g 3 (cellsI ys) (off + na) w cur hh (by rw [hnl]; omega)
      refine ⟨_, _, _, hrun, ⟨hlen, hr, q.capm, hroom, hwf, .inr ⟨g, off, cur', rfl, hb, a1, by omega, ?_⟩⟩, setRec_keeps g ⟨_, rfl, rfl⟩ _ _ _, fun k hk => .inl (by obtain ⟨ad', e, rfl⟩ := hk; cases e; exact ⟨_, rfl, rfl⟩)⟩
      rw [a3]
      have hcl : cur.toList.length = cur.size := by simp
      have e1 : (cur.toList.take (off + na)).length = off + na := by rw [List.length_take]; omega
      rw [List.append_assoc, List.drop_append_of_le_length (by omega), List.drop_take, show off + na - off = na by omega, htk, ← List.append_assoc, ← cellsI_append, List.take_append_of_le_length (by rw [cellsI_length, hlen]; exact Nat.le_refl _)]
      exact List.take_of_length_le (by rw [cellsI_length, hlen]; exact Nat.le_refl _)
    · obtain ⟨v', w', h1, h2, h3⟩ := run_append_arg_grows (P := Tryz.prog) w t ty 3 i0 _ 1 8 ht hi hz0 hz1 hz2 rfl (by decide) ⟨g, off, none⟩ na ca (cellsI xs) (by rw [cellsI_length, q.len, Nat.mul_one]) (fun j u hj => by rw [Addr.add_lit]; exact holds j u hj) ad m cx (cellsI ys) hnl (hI.news ad rfl) (by omega) (by unfold maxLen; omega) (by omega)
      rw [← cellsI_append] at h2
      obtain ⟨a', c', rfl⟩ : ∃ a' c', v' = .slice a' (na + m) c' := by
        rcases h2.2 with ⟨rfl, e⟩ | ⟨g', cap, cur', e, _⟩
        · omega
        · exact ⟨_, _, e⟩
      have ho : Own w.heap.size w' a' (na + m) c' (xs ++ ys) := by
        have e : Value.slice a' (na + m) c' = .slice a' (na + m) c' := rfl
        exact ⟨hlen, hroom, hwf, h2⟩
      refine ⟨a', c', w', h1, (quE a' (na + m) c' (xs ++ ys)).mono ho.qu hB, (Keeps.grown h3).mono (fun k _ hk => by cases hk), fun k hk => .inr (ho.from k hk)⟩
end
section
variable {B : Nat} {w0 w w' : World} {G : List Ent} {G' : Ent → List Ent}
theorem Mem.oneI {b : Nat} {x : Int} (h : Mem B w0 w G) (i : In G (rowE b 3 #[.int .i64 x])) (hx : I64 x) : Ints w (some ⟨b, 0, none⟩) 1 1 [x] := by
  have hr := h.row i
  refine ⟨rfl, Nat.le_refl _, by unfold maxLen; omega, by simp, by omega, by simpa using hx, fun k hk => ⟨b, 0, rfl, hr.lt, fun j hj => ?_⟩⟩
  obtain rfl : j = 0 := by omega
  rw [hr.cell]
  rfl
/-- out = append(out, x) -/
theorem wpList_pushI {ops : Array Oper} {rest : List Oper} {o : Oper} {a : Act} {Q : Exit → Act → World → Prop} {b : Nat} {x : Int} {va : Option Addr} {na ca : Nat} {xs : List Int} (hM : Mem B w0 w (rowE b 3 #[.int .i64 x] :: G)) (p : ∀ e', Put G (intE va na ca xs) e' (G' e')) (hx : I64 x) (hroom : na + 1 ≤ 17592186044416)
    (hgd : o.guard = none) (s v : Operand) (t : TypeId) (ht : Tryz.prog.underlying t = some (.slice 3)) (ho : o.op = .call { callee := .builtin .append, args := #[s, v], argTypes := #[t, t] }) (hs : a.eval s = .slice va na ca) (hv : a.eval v = .slice (some ⟨b, 0, none⟩) 1 1)
    (h : ∀ a' c' w', Mem B w0 w' (G' (intE a' (na + 1) c' (xs ++ [x]))) → wpList Tryz.prog ops Q rest (a.put o.dst (.slice a' (na + 1) c')) w') : wpList Tryz.prog ops Q (o :: rest) a w := by
  obtain ⟨i0, hi, hz0, hz1, hz2⟩ := info_parts Tryz.info3
  have hown := hM.ents _ (List.mem_cons_of_mem _ (p (rowE 0 0 #[])).mem)
  have ho1 : Own B w va na ca xs := hown
  refine wpList_appendI hgd s v t ho 3 i0 ht hi hz0 hz1 hz2 B va na ca xs hs ho1.row (some ⟨b, 0, none⟩) 1 1 [x] hv (hM.oneI .here hx) hroom hM.size ?_
  intro a' c' w' h1 h2 h3
  refine h a' c' w' ?_
  refine (hM.tail).put (p _) ((Keeps.grown h2).mono (fun k _ hk => ownBlock_blockOf hk)) (e' := intE a' (na + 1) c' (xs ++ [x])) ⟨by rw [List.length_append, ho1.len]; rfl, hroom, ?_, h1⟩ (fun k hk => (h3 k hk).imp id (fun e => by omega))
  intro y hy
  rcases List.mem_append.1 hy with hy | hy
  · exact ho1.wf y hy
  · obtain rfl : y = x := by simpa using hy
    exact hx
theorem wpList_appQ {ops : Array Oper} {rest : List Oper} {o : Oper} {a : Act} {Q : Exit → Act → World → Prop} {va : Option Addr} {na ca : Nat} {xs : List Int} {xa : Option Addr} {m cx : Nat} {ys : List Int} (hM : Mem B w0 w G) (p : ∀ e', Put G (quE va na ca xs) e' (G' e')) (hI : Ints w xa m cx ys) (hroom : na + m ≤ 17592186044416)
    (hgd : o.guard = none) (s v : Operand) (t : TypeId) (ht : Tryz.prog.underlying t = some (.slice 3)) (ho : o.op = .call { callee := .builtin .append, args := #[s, v], argTypes := #[t, t] }) (hs : a.eval s = .slice va na ca) (hv : a.eval v = .slice xa m cx)
    (h : ∀ a' c' w', Mem B w0 w' (G' (quE a' (na + m) c' (xs ++ ys))) → wpList Tryz.prog ops Q rest (a.put o.dst (.slice a' (na + m) c')) w') : wpList Tryz.prog ops Q (o :: rest) a w := by
  have hq : Qu B w va na ca xs := hM.ents _ (p (rowE 0 0 #[])).mem
  refine wpList_plain hgd fun K hK' => ?_
  obtain ⟨a', c', w', h1, h2, h3, h4⟩ := run_appendQ t o.type ht hq hI hroom hM.size
  unfold Oper.wp execOp
  simp only [ho, resolve, invoke, builtin, Sem.run_bind, Sem.run_pure, Result.andThen_ok, List.map_toArray, List.map_cons, List.map_nil, hs, hv, h1]
  exact hK' _ _ (h a' c' w' (hM.put (p _) h3 (e' := quE a' (na + m) c' (xs ++ ys)) h2 h4))
/-- queue = append(queue, x) -/
theorem wpList_pushQ {ops : Array Oper} {rest : List Oper} {o : Oper} {a : Act} {Q : Exit → Act → World → Prop} {b : Nat} {x : Int} {va : Option Addr} {na ca : Nat} {xs : List Int} (hM : Mem B w0 w (rowE b 3 #[.int .i64 x] :: G)) (p : ∀ e', Put G (quE va na ca xs) e' (G' e')) (hx : I64 x) (hroom : na + 1 ≤ 17592186044416)
    (hgd : o.guard = none) (s v : Operand) (t : TypeId) (ht : Tryz.prog.underlying t = some (.slice 3)) (ho : o.op = .call { callee := .builtin .append, args := #[s, v], argTypes := #[t, t] }) (hs : a.eval s = .slice va na ca) (hv : a.eval v = .slice (some ⟨b, 0, none⟩) 1 1)
    (h : ∀ a' c' w', Mem B w0 w' (G' (quE a' (na + 1) c' (xs ++ [x]))) → wpList Tryz.prog ops Q rest (a.put o.dst (.slice a' (na + 1) c')) w') : wpList Tryz.prog ops Q (o :: rest) a w :=
  wpList_appQ (G' := fun e => rowE b 3 #[.int .i64 x] :: G' e) hM (fun e' => .there (p e')) (hM.oneI .here hx) hroom hgd s v t ht ho hs hv (fun a' c' w' hm => h a' c' w' hm.tail)
end

section
variable {B : Nat} {w0 w : World} {G : List Ent} {G' : Ent → List Ent}
/-- an append as a step of a region that draws its order -/
theorem step_appM {ops : Array Oper} {o : Oper} {a : Act} {K : Act → World → Prop} {Q : Exit → Act → World → Prop} {R : Prop} {va : Option Addr} {na ca : Nat} {xs : List Int} {xa : Option Addr} {m cx : Nat} {ys : List Int} (hM : Mem B w0 w G) (p : ∀ e', Put G (intE va na ca xs) e' (G' e')) (hI : Ints w xa m cx ys) (hroom : na + m ≤ 17592186044416)
    (hgd : o.guard = none) (s v : Operand) (t : TypeId) (ht : Tryz.prog.underlying t = some (.slice 3)) (ho : o.op = .call { callee := .builtin .append, args := #[s, v], argTypes := #[t, t] }) (hs : a.eval s = .slice va na ca) (hv : a.eval v = .slice xa m cx)
    (h : ∀ a' c' w', Mem B w0 w' (G' (intE a' (na + m) c' (xs ++ ys))) → K (a.put o.dst (.slice a' (na + m) c')) w') :
    if Region.wanted o (yielded ops a.tmps) = true then Oper.wp Tryz.prog o a w K Q else R := by
  obtain ⟨i0, hi, hz0, hz1, hz2⟩ := info_parts Tryz.info3
  have ho1 : Own B w va na ca xs := hM.ents _ (p (rowE 0 0 #[])).mem
  refine step_appendI hgd s v t ho 3 i0 ht hi hz0 hz1 hz2 B va na ca xs hs ho1.row xa m cx ys hv hI hroom hM.size ?_
  intro a' c' w' h1 h2 h3
  refine h a' c' w' ?_
  refine hM.put (p _) ((Keeps.grown h2).mono (fun k _ hk => ownBlock_blockOf hk)) (e' := intE a' (na + m) c' (xs ++ ys)) ⟨by rw [List.length_append, ho1.len, hI.len], hroom, ?_, h1⟩ (fun k hk => (h3 k hk).imp id (fun e => by omega))
  intro y hy
  rcases List.mem_append.1 hy with hy | hy
  · exact ho1.wf y hy
  · exact hI.wf y hy
end
theorem Ints.takeI {w : World} {a : Option Addr} {n c : Nat} {xs : List Int} (h : Ints w a n c xs) {k : Nat} (hk : k ≤ n) : Ints w a k c (xs.take k) := by
  have hl := h.len
  refine ⟨by rw [List.length_take]; omega, by have := h.cap; omega, h.capm, h.nil, by have := h.room; omega, fun x hx => h.wf x (List.mem_of_mem_take hx), fun j hj => ?_⟩
  obtain ⟨b, off, ha, hb, hc⟩ := h.at' j (by omega)
  refine ⟨b, off, ha, hb, fun i hi => ?_⟩
  rw [hc i (by omega), List.getD_eq_getElem?_getD, List.getD_eq_getElem?_getD, List.getElem?_take, if_pos hi]
theorem Ints.dropI {w : World} {g off n c : Nat} {xs : List Int} (h : Ints w (some ⟨g, off, none⟩) n c xs) {k : Nat} (hk : k ≤ n) : Ints w (some ⟨g, off + k, none⟩) (n - k) (c - k) (xs.drop k) := by
  have hl := h.len
  refine ⟨by rw [List.length_drop]; omega, by have := h.cap; omega, by have := h.capm; omega, by simp, by have := h.room; omega, fun x hx => h.wf x (List.mem_of_mem_drop hx), fun j hj => ?_⟩
  obtain ⟨b, off', ha, hb, hc⟩ := h.at' (k + j) (by omega)
  simp only [Option.some.injEq, Addr.mk.injEq] at ha
  obtain ⟨rfl, rfl, _⟩ := ha
  refine ⟨g, off + k, rfl, hb, fun i hi => ?_⟩
  have := hc (k + i) (by omega)
  rw [Nat.add_assoc, this, List.getD_eq_getElem?_getD, List.getD_eq_getElem?_getD, List.getElem?_drop]
theorem Ints.zeroI {w : World} {a : Option Addr} {c : Nat} (hc : c ≤ maxLen) (h : a = none → c = 0) : Ints w a 0 c [] :=
  ⟨rfl, Nat.zero_le _, hc, h, by omega, by simp, fun k hk => by omega⟩
/-- n bools -/
def bitsA (n : Nat) (f : Nat → Bool) : Array Value := ((List.range n).map fun i => Value.bool (f i)).toArray
theorem bitsA_get {n k : Nat} {f : Nat → Bool} (hk : k < n) : (bitsA n f)[k]? = some (.bool (f k)) := by simp [bitsA, hk]
theorem bitsA_congr {n : Nat} {f g : Nat → Bool} (h : ∀ k, k < n → f k = g k) : bitsA n f = bitsA n g := by
  unfold bitsA
  rw [List.map_congr_left (fun k hk => by rw [h k (List.mem_range.1 hk)])]
theorem bitsA_set {n k : Nat} {f : Nat → Bool} (hk : k < n) : (bitsA n f).setIfInBounds k (.bool true) = bitsA n (fun i => f i || i == k) := by
  apply Array.ext_getElem?
  intro i
  by_cases hi : i < n
  · rw [bitsA_get hi]
    by_cases e : k = i
    · subst e
      have : k < (bitsA n f).size := by simp [bitsA, hk]
      simp [this]
    · rw [Array.getElem?_setIfInBounds_ne e, bitsA_get hi]
      have : ¬ i = k := fun h => e h.symm
      simp [this]
  · simp [bitsA, hi]
theorem made_bits (n : Nat) : madeCells #[Value.bool false] n = bitsA n (fun _ => false) := by
  apply Array.ext_getElem?
  intro i
  by_cases hi : i < n
  · rw [bitsA_get hi]
    simp [madeCells, hi, Nat.mod_one]
  · simp [madeCells, bitsA, hi]
end Go.Proofs.YtojfbcgfeojdfaaGreat

namespace Go.Proofs.YtojfbcgfeojdfaaGreat
set_option linter.unusedSimpArgs false
set_option linter.unusedVariables false
open Go.RowKit

/-- what a function value (bound fi, captured caps) answers on the numbers below n -/
def AnsN (f : FuncId) (fi caps : Array Value) (p : Nat → Bool) (n : Nat) (w : World) : Prop :=
  ∀ k, k < n → ∀ w', Below w.heap.size w w' → Calls Tryz.prog f (fi ++ #[.int .i64 (k : Int)] ++ caps) w' fun e w'' => e = .returned (.bool (p k)) ∧ Below w'.heap.size w' w''
theorem i64_nat {k : Nat} (h : k ≤ 1000000000) : I64 (k : Int) := by unfold I64; omega

set_option maxRecDepth 100000 in
set_option maxHeartbeats 1000000 in
theorem cellsThat_any (f : FuncId) (fi caps : Array Value) (p : Nat → Bool) (W H : Int) (a : Option Addr) (n c : Nat) (xs : List Int) (w : World) (h : Ints w a n c xs) (hn25 : n ≤ 25) (hcf : ∀ args w, (callFunc f args).run Tryz.prog w = .ok (.enter f args) w) (hf : AnsN f fi caps p n w) :
    Calls Tryz.prog 126 #[.agg #[.int .i64 W, .int .i64 H, .slice a n c], .func (.func f) fi caps] w fun e w' => ∃ a' m c', e = .returned (.slice a' m c') ∧ Mem w.heap.size w w' [intE a' m c' (cellsN n p)] := by
  have HF := Lib.hid hf
  clear hf
  have hM := Mem.start w
  go_enter Tryz.func126, Tryz.ntmps126
  go_wp2_with fail
  go_loopw [5, 11] (fun s i wr => ∃ (k : Nat) (a' : Option Addr) (m c' : Nat), k ≤ n ∧ i = .int .i64 k ∧ s = .slice a' m c' ∧ Mem w.heap.size w wr [intE a' m c' (cellsN k p), rowE w.heap.size 26 #[.int .i64 W, .int .i64 H, .slice a n c]]) (fun _ i _ => n - (intOf i).toNat)
  case atStart =>
    refine ⟨0, _, 0, _, Nat.zero_le _, rfl, rfl, ?_⟩
    have hM := (hM.alloc #[.int .i64 W, .int .i64 H, .slice a n c] 26).empty
    simp only [World.size_alloc] at hM
    exact hM
  case round =>
    clear hM
    obtain ⟨k, a', m, c', hk, rfl, rfl, hM⟩ := hrel
    by_cases hlt : k < n
    · have hm := (hM.ints .here).len
      have hl := cellsN_length k p
      obtain ⟨ys, hys⟩ : ∃ ys, cellsN k p = ys := ⟨_, rfl⟩
      have hsu := cellsN_succ k p
      rw [hys] at hM hl hm hsu
      have HY := Lib.hid hsu; clear hys hsu
      have hmk : m ≤ k := by omega
      have HL := Lib.hid hm; clear hm hl
      go_wp2_with fail
      apply Mem.at
      · exact memA
      clear hM
      intro hM
      (try simp only [World.size_alloc, World.size_setCell, World.heap_drewN, heapDrew, Nat.add_assoc, Nat.reduceAdd, sA, List.cons_append, List.nil_append] at hM)
      refine (HF.out k hlt _ hM.below).mono ?_
      rintro e w1 ⟨rfl, hb⟩
      replace hM := hM.ext hb
      clear hb
      cases hp : p k
      · go_wp2
        go_roundw
        case rel =>
          refine ⟨k + 1, a', m, c', by omega, by go_num, rfl, ?_⟩
          rw [HY.out, hp]
          simpa using hM
        case measure => simp [intOf]; omega
      · go_wp2_with (at_builtin; apply Mem.atL; (focus ((exact memA); done)); clear hM; intro hM; refine wpList_pushI hM (fun _ => .here) (i64_nat (by omega)) (by omega) rfl _ _ _ Tryz.underlying24 rfl rfl rfl ?_)
        intro a2 c2 w2 hM
        go_wp2
        go_roundw
        case rel =>
          refine ⟨k + 1, a2, m + 1, c2, by omega, by go_num, rfl, ?_⟩
          rw [HY.out, hp]
          exact hM
        case measure => simp [intOf]; omega
    · obtain rfl : k = n := by omega
      go_wp2
      go_ret
      exact ⟨a', m, c', rfl, hM.first⟩
end Go.Proofs.YtojfbcgfeojdfaaGreat

namespace Go.Proofs.YtojfbcgfeojdfaaGreat
set_option linter.unusedSimpArgs false
set_option linter.unusedVariables false
open Go.RowKit

/-- what a function value answers on the numbers of a list -/
def AnsL (f : FuncId) (fi caps : Array Value) (p : Int → Bool) (xs : List Int) (w : World) : Prop :=
  ∀ x ∈ xs, ∀ w', Below w.heap.size w w' → Calls Tryz.prog f (fi ++ #[.int .i64 x] ++ caps) w' fun e w'' => e = .returned (.bool (p x)) ∧ Below w'.heap.size w' w''

set_option maxRecDepth 100000 in
set_option maxHeartbeats 1000000 in
theorem filterI_any (f : FuncId) (fi caps : Array Value) (p : Int → Bool) (a : Option Addr) (n c : Nat) (xs : List Int) (w : World) (h : Ints w a n c xs) (hcf : ∀ args w, (callFunc f args).run Tryz.prog w = .ok (.enter f args) w) (hf : AnsL f fi caps p xs w) :
    Calls Tryz.prog 93 #[.slice a n c, .func (.func f) fi caps] w fun e w' => ∃ a' m c', e = .returned (.slice a' m c') ∧ Mem w.heap.size w w' [intE a' m c' (xs.filter p)] := by
  have HF := Lib.hid hf
  clear hf
  have hM := Mem.start w
  have hn := h.cap
  have hc := h.room
  have HL := Lib.hid h.len
  go_enter Tryz.func93, Tryz.ntmps93
  go_wp2_with fail
  go_loopw [5, 11] (fun s i wr => ∃ (k : Nat) (a' : Option Addr) (m c' : Nat), k ≤ n ∧ i = .int .i64 k ∧ s = .slice a' m c' ∧ Mem w.heap.size w wr [intE a' m c' ((xs.take k).filter p)]) (fun _ i _ => n - (intOf i).toNat)
  case atStart =>
    refine ⟨0, _, 0, _, Nat.zero_le _, rfl, rfl, ?_⟩
    exact hM.empty
  case round =>
    clear hM
    obtain ⟨k, a', m, c', hk, rfl, rfl, hM⟩ := hrel
    by_cases hlt : k < n
    · obtain ⟨b, off, rfl, _⟩ := h.at' _ hlt
      have hck := (h.ext hM.below).get hlt
      have hm := (hM.ints .here).len
      have hl : ((xs.take k).filter p).length ≤ k := Nat.le_trans (List.length_filter_le _ _) (List.length_take_le _ _)
      have hkl : k < xs.length := by rw [HL.out]; exact hlt
      have hsu := take_succ' hkl
      have hmem := getD_mem hkl
      have hix := h.wf _ hmem
      obtain ⟨x, hx⟩ : ∃ x, xs.getD k 0 = x := ⟨_, rfl⟩
      rw [hx] at hck hsu hmem hix
      clear hkl hx
      obtain ⟨ys, hys⟩ : ∃ ys, (xs.take k).filter p = ys := ⟨_, rfl⟩
      have hs2 : (xs.take (k + 1)).filter p = ys ++ if p x then [x] else [] := by
        rw [hsu, List.filter_append, hys]
        cases hp : p x <;> simp [hp]
      rw [hys] at hM hl hm
      have HY := Lib.hid hs2; clear hys hsu hs2
      have hmk : m ≤ k := by omega
      have HL2 := Lib.hid hm; clear hm hl
      have HIX := Lib.hid hix; clear hix
      go_wp2_with fail
      apply Mem.at
      · exact memA
      clear hM
      intro hM
      (try simp only [World.size_alloc, World.size_setCell, World.heap_drewN, heapDrew, Nat.add_assoc, Nat.reduceAdd, sA, List.cons_append, List.nil_append] at hM)
      refine (HF.out x hmem _ hM.below).mono ?_
      rintro e w1 ⟨rfl, hb⟩
      replace hM := hM.ext hb
      clear hb hck
      cases hp : p x
      · go_wp2
        go_roundw
        case rel =>
          refine ⟨k + 1, a', m, c', by omega, by go_num, rfl, ?_⟩
          rw [HY.out, hp]
          simpa using hM
        case measure => simp [intOf]; omega
      · go_wp2_with (at_builtin; apply Mem.atL; (focus ((exact memA); done)); clear hM; intro hM; refine wpList_pushI hM (fun _ => .here) HIX.out (by omega) rfl _ _ _ Tryz.underlying24 rfl rfl rfl ?_)
        intro a2 c2 w2 hM
        go_wp2
        go_roundw
        case rel =>
          refine ⟨k + 1, a2, m + 1, c2, by omega, by go_num, rfl, ?_⟩
          rw [HY.out, hp]
          exact hM
        case measure => simp [intOf]; omega
    · obtain rfl : k = n := by omega
      rw [List.take_of_length_le (by rw [HL.out]; exact Nat.le_refl _)] at hM
      go_wp2
      go_ret
      exact ⟨a', m, c', rfl, hM⟩

set_option maxRecDepth 100000 in
set_option maxHeartbeats 400000 in
theorem neighbors1_any (W : Nat) (H : Int) (s : Value) (k b1 b2 d : Nat) (w : World) (hW : 1 ≤ W ∧ W ≤ 5) (hk : k ≤ 1000) (hd : d ≤ 1000) (h1 : Row w b1 #[.int .i64 W, .int .i64 H, s]) (h2 : Row w b2 #[.int .i64 d]) :
    Calls Tryz.prog 131 #[.int .i64 k, .pointer (some ⟨b1, 0, none⟩), .pointer (some ⟨b2, 0, none⟩)] w fun e w' => e = .returned (.bool (nearN W k d)) ∧ Below w.heap.size w w' := by
  have hA := (apI_bound (W := W) hk hd)
  obtain ⟨r, hr⟩ : ∃ r, apI W k d = r := ⟨_, rfl⟩
  have HF := Lib.hid (show nearN W k d = (r == 1) by unfold nearN; rw [hr])
  have HR := Lib.hid hr
  clear hr hA
  have k1 := h1.cell
  have k2 := h2.cell
  go_enter Tryz.func131, Tryz.ntmps131
  go_wp2_with fail
  refine (apart_any W H s k d _ hW hk hd).mono ?_
  rw [HR.out]
  rintro e w1 ⟨rfl, hb⟩
  go_wp2
  go_ret
  exact ⟨rb HF.out.symm, hb⟩

set_option maxRecDepth 100000 in
set_option maxHeartbeats 400000 in
theorem neighbors_any (W : Nat) (H : Int) (a : Option Addr) (n c : Nat) (xs : List Int) (d : Nat) (w : World) (h : Ints w a n c xs) (hn25 : n ≤ 25) (hW : 1 ≤ W ∧ W ≤ 5) (hd : d ≤ 1000) :
    Calls Tryz.prog 94 #[.agg #[.int .i64 W, .int .i64 H, .slice a n c], .int .i64 d] w fun e w' => ∃ a' m c', e = .returned (.slice a' m c') ∧ Mem w.heap.size w w' [intE a' m c' (cellsN n (nearN W d))] := by
  have hmf : ∀ (fn : Fn) (first cap : Array Value) (w : World), (Instr.makeFunc fn first cap).run Tryz.prog w = .ok (.func fn first cap) w := fun _ _ _ _ => rfl
  have hM := Mem.start w
  have HC := Lib.hid (cellsN_congr (n := n) (p := fun k => nearN W k d) (q := nearN W d) (fun k _ => nearN_symm W k d))
  go_enter Tryz.func94, Tryz.ntmps94
  go_wp2_with fail
  apply Mem.at
  · exact memA
  clear hM
  intro hM
  (try simp only [World.size_alloc, World.size_setCell, World.heap_drewN, heapDrew, Nat.add_assoc, Nat.reduceAdd, sA, List.cons_append, List.nil_append] at hM)
  refine (cellsThat_any _ _ _ (fun k => nearN W k d) _ _ a n c xs _ (h.ext hM.below) hn25 (enters Tryz.func131 (by kernel_rfl) rfl) (fun k hk w' hb => by
    have hM' := hM.ext hb
    exact neighbors1_any W H _ k _ _ d w' hW (by omega) hd (hM'.row (.there .here)) (hM'.row .here))).mono ?_
  rw [HC.out]
  rintro e w1 ⟨a', m, c', rfl, hm⟩
  replace hM := hM.join hm
  clear hm
  go_wp2
  go_ret
  exact ⟨a', m, c', rfl, hM.first⟩

set_option maxRecDepth 100000 in
set_option maxHeartbeats 1000000 in
theorem l2Near_any (W : Nat) (H : Int) (a : Option Addr) (n c : Nat) (xs : List Int) (d : Nat) (w : World) (h : Ints w a n c xs) (hn25 : n ≤ 25) (hW : 1 ≤ W ∧ W ≤ 5) (hd : d ≤ 1000) :
    Calls Tryz.prog 98 #[.agg #[.int .i64 W, .int .i64 H, .slice a n c], .int .i64 d] w fun e w' => ∃ a' m c', e = .returned (.slice a' m c') ∧ Mem w.heap.size w w' [intE a' m c' (cellsN n (nearN W d))] := by
  have hM := Mem.start w
  go_enter Tryz.func98, Tryz.ntmps98
  go_wp2_with fail
  go_loopw [5, 6] (fun s i wr => ∃ (k : Nat) (a' : Option Addr) (m c' : Nat), k ≤ n ∧ i = .int .i64 k ∧ s = .slice a' m c' ∧ Mem w.heap.size w wr [intE a' m c' (cellsN k (nearN W d)), rowE w.heap.size 26 #[.int .i64 W, .int .i64 H, .slice a n c]]) (fun _ i _ => n - (intOf i).toNat)
  case atStart =>
    refine ⟨0, _, 0, _, Nat.zero_le _, rfl, rfl, ?_⟩
    have hM := (hM.alloc #[.int .i64 W, .int .i64 H, .slice a n c] 26).empty
    simp only [World.size_alloc] at hM
    exact hM
  case round =>
    clear hM
    obtain ⟨k, a', m, c', hk, rfl, rfl, hM⟩ := hrel
    by_cases hlt : k < n
    · have hm := (hM.ints .here).len
      have hl := cellsN_length k (nearN W d)
      obtain ⟨ys, hys⟩ : ∃ ys, cellsN k (nearN W d) = ys := ⟨_, rfl⟩
      have hsu := cellsN_succ k (nearN W d)
      rw [hys] at hM hl hm hsu
      obtain ⟨r, hr⟩ : ∃ r, apI W d k = r := ⟨_, rfl⟩
      have hsu2 : cellsN (k + 1) (nearN W d) = ys ++ if r == 1 then [(k : Int)] else [] := by rw [hsu]; unfold nearN; rw [hr]
      have HY := Lib.hid hsu2; clear hys hsu hsu2
      have HR := Lib.hid hr; clear hr
      have hmk : m ≤ k := by omega
      have HL := Lib.hid hm; clear hm hl
      obtain ⟨k1, f1, l1⟩ := hM.row (.there .here)
      go_wp2_with fail
      clear k1 f1 l1
      apply Mem.at
      · exact memA
      clear hM
      intro hM
      (try simp only [World.size_alloc, World.size_setCell, World.heap_drewN, heapDrew, Nat.add_assoc, Nat.reduceAdd, sA, List.cons_append, List.nil_append] at hM)
      refine (l2Apart_any W H _ d k _ hW hd (by omega)).mono ?_
      rw [HR.out]
      rintro e w1 ⟨rfl, hb⟩
      replace hM := hM.ext hb
      clear hb
      obtain ⟨k1, f1, l1⟩ := hM.row (.there .here)
      cases hp : (r == 1)
      · go_wp2
        go_roundw
        case rel =>
          refine ⟨k + 1, a', m, c', by omega, by go_num, rfl, ?_⟩
          rw [HY.out, hp]
          simpa using hM
        case measure => simp [intOf]; omega
      · go_wp2_with (at_builtin; apply Mem.atL; (focus ((exact memA); done)); clear hM k1 f1 l1; intro hM; refine wpList_pushI hM (fun _ => .here) (i64_nat (by omega)) (by omega) rfl _ _ _ Tryz.underlying24 rfl rfl rfl ?_)
        intro a2 c2 w2 hM
        go_wp2
        go_roundw
        case rel =>
          refine ⟨k + 1, a2, m + 1, c2, by omega, by go_num, rfl, ?_⟩
          rw [HY.out, hp]
          exact hM
        case measure => simp [intOf]; omega
    · obtain rfl : k = n := by omega
      obtain ⟨k1, f1, l1⟩ := hM.row (.there .here)
      go_wp2
      go_ret
      exact ⟨a', m, c', rfl, hM.first⟩
end Go.Proofs.YtojfbcgfeojdfaaGreat
