/-
  A region that draws its order and has a last operation t, for which all others wait: a condition S on the world is asked behind every operation but t.
-/
import Derived.Test.YtojfbcgfeojdfaaGreatKVoc
import Derived.OrdersHeld
import Derived.Deep.RegionHeld3
/-
  Memory of a call's own, as a list of entries that lie apart from each other; and what is below as it was.
-/
namespace Go.Proofs.YtojfbcgfeojdfaaGreat
set_option linter.unusedSimpArgs false
set_option linter.unusedVariables false
open Go.RowKit

theorem heapDrew (w : World) : w.drew.heap = w.heap := rfl

/-- an assertion on memory: what it says, of which blocks -/
structure Ent where
  hold : Nat → World → Prop
  blk : Nat → Prop
  lt : ∀ {B w}, hold B w → ∀ k, blk k → B ≤ k ∧ k < w.heap.size
  mono : ∀ {B B' w}, hold B w → B' ≤ B → hold B' w
  keep : ∀ {B w d w'}, hold B w → Keeps d w w' → (∀ k, blk k → ¬ d k) → hold B w'

/-- block b holds the cells cs -/
def rowE (b : Nat) (T : TypeId) (cs : Array Value) : Ent where
  hold B w := B ≤ b ∧ w.heap[b]? = some (.cells cs T (0, 0))
  blk k := k = b
  lt := by
    rintro B w ⟨h1, h2⟩ k rfl
    exact ⟨h1, (Array.getElem?_eq_some_iff.1 h2).1⟩
  mono := fun h hB => ⟨Nat.le_trans hB h.1, h.2⟩
  keep := by
    rintro B w d w' ⟨h1, h2⟩ hk hd
    exact ⟨h1, by rw [hk.block b (Array.getElem?_eq_some_iff.1 h2).1 (hd b rfl)]; exact h2⟩

/-- the slice (a, n, c) owns the numbers xs -/
def intE (a : Option Addr) (n c : Nat) (xs : List Int) : Ent where
  hold B w := Own B w a n c xs
  blk k := blockOf a k
  lt := fun h k hk => ⟨h.from k hk, h.till k hk⟩
  mono := fun h hB => h.mono hB
  keep := fun h hk hd => h.keeps hk hd

structure Mem (B : Nat) (w0 w : World) (G : List Ent) : Prop where
  below : Below B w0 w
  size : B ≤ w.heap.size
  ents : ∀ e ∈ G, e.hold B w
  apart : G.Pairwise fun e e' => ∀ k, e.blk k → ¬ e'.blk k

section
variable {B : Nat} {w0 w w' : World} {G G' : List Ent}

theorem Mem.start (w : World) : Mem w.heap.size w w [] := ⟨Below.refl _ _, Nat.le_refl _, by simp, List.Pairwise.nil⟩

/-- what has changed lies in no entry -/
theorem Mem.keeps {d : Nat → Prop} (h : Mem B w0 w G) (hk : Keeps d w w') (hd : ∀ k, d k → B ≤ k) (hn : ∀ e ∈ G, ∀ k, e.blk k → ¬ d k) : Mem B w0 w' G :=
  ⟨h.below.trans (hk.below h.size hd), Nat.le_trans h.size hk.size, fun e he => e.keep (h.ents e he) hk (hn e he), h.apart⟩
theorem Mem.ext (h : Mem B w0 w G) (hb : Below w.heap.size w w') : Mem B w0 w' G :=
  ⟨h.below.trans (hb.mono h.size), Nat.le_trans h.size hb.size, fun e he => e.keep (h.ents e he) (Keeps.of_below (d := fun _ => False) hb) (fun _ _ => id), h.apart⟩
theorem Mem.drew (h : Mem B w0 w G) : Mem B w0 w.drew G := h.ext (Below.refl _ _).drew
theorem Mem.drewN (h : Mem B w0 w G) (n : Nat) : Mem B w0 (w.drewN n) G := h.ext (bdrewN (Below.refl _ _) n)
theorem Mem.undrew (h : Mem B w0 w.drew G) : Mem B w0 w G := h.ext (w' := w) ⟨rfl, rfl, rfl, Nat.le_refl _, fun _ _ => rfl⟩
/-- new entries in new memory -/
theorem Mem.new (h : Mem B w0 w G) (hb : Below w.heap.size w w') (e : Ent) (he : e.hold w.heap.size w') (hm : e.hold B w') : Mem B w0 w' (e :: G) := by
  have h1 := h.ext hb
  refine ⟨h1.below, h1.size, ?_, List.pairwise_cons.2 ⟨fun e' he' k hk hk' => ?_, h1.apart⟩⟩
  · intro e' he'
    rcases List.mem_cons.1 he' with rfl | he'
    · exact hm
    · exact h1.ents e' he'
  · have := (e.lt he k hk).1
    have := (e'.lt (h.ents e' he') k hk').2
    omega
theorem Mem.alloc (h : Mem B w0 w G) (cs : Array Value) (T : TypeId) : Mem B w0 (w.alloc (.cells cs T)) (rowE w.heap.size T cs :: G) :=
  h.new ((Below.refl _ _).alloc (Nat.le_refl _) _) _ ⟨Nat.le_refl _, heap_alloc_new w _⟩ ⟨h.size, heap_alloc_new w _⟩
theorem Mem.own (h : Mem B w0 w G) (hb : Below w.heap.size w w') {a : Option Addr} {n c : Nat} {xs : List Int} (ho : Own w.heap.size w' a n c xs) : Mem B w0 w' (intE a n c xs :: G) :=
  h.new hb _ ho (ho.mono h.size)

/-- one entry out of a list, and the list with another in its place -/
def Put (G : List Ent) (e e' : Ent) (G' : List Ent) : Prop := ∃ G1 G2, G = G1 ++ e :: G2 ∧ G' = G1 ++ e' :: G2
theorem Put.here {e e' : Ent} {G : List Ent} : Put (e :: G) e e' (e' :: G) := ⟨[], G, rfl, rfl⟩
theorem Put.there {e e' x : Ent} {G G' : List Ent} (p : Put G e e' G') : Put (x :: G) e e' (x :: G') := by
  obtain ⟨G1, G2, rfl, rfl⟩ := p
  exact ⟨x :: G1, G2, rfl, rfl⟩
theorem Put.way {e e' : Ent} {motive : List Ent → List Ent → Prop} {G G' : List Ent} (p : Put G e e' G') (h : ∀ G, motive (e :: G) (e' :: G)) (t : ∀ x G G', Put G e e' G' → motive G G' → motive (x :: G) (x :: G')) : motive G G' := by
  obtain ⟨G1, G2, rfl, rfl⟩ := p
  induction G1 with
  | nil => exact h G2
  | cons x G1 ih => exact t x _ _ ⟨G1, G2, rfl, rfl⟩ ih
theorem Put.mem {e e' : Ent} (p : Put G e e' G') : e ∈ G := by
  obtain ⟨G1, G2, rfl, rfl⟩ := p
  simp
theorem Put.sub {e e' x : Ent} (p : Put G e e' G') (hx : x ∈ G') : x = e' ∨ x ∈ G := by
  obtain ⟨G1, G2, rfl, rfl⟩ := p
  simp only [List.mem_append, List.mem_cons] at hx ⊢
  rcases hx with h | h | h
  · exact .inr (.inl h)
  · exact .inl h
  · exact .inr (.inr (.inr h))
theorem put_apart {e e' : Ent} {f : Nat → Prop} (hf : ∀ k, f k → ∀ x ∈ G, ¬ x.blk k) (hb : ∀ k, e'.blk k → e.blk k ∨ f k) (p : Put G e e' G') (h : G.Pairwise fun e e' => ∀ k, e.blk k → ¬ e'.blk k) : G'.Pairwise fun e e' => ∀ k, e.blk k → ¬ e'.blk k := by
  revert hf h
  refine p.way (motive := fun G G' => (∀ k, f k → ∀ x ∈ G, ¬ x.blk k) → G.Pairwise (fun e e' => ∀ k, e.blk k → ¬ e'.blk k) → G'.Pairwise fun e e' => ∀ k, e.blk k → ¬ e'.blk k) ?_ ?_
  · intro G hf h
    obtain ⟨h1, h2⟩ := List.pairwise_cons.1 h
    refine List.pairwise_cons.2 ⟨fun x hx k hk => ?_, h2⟩
    rcases hb k hk with hk' | hk'
    · exact h1 x hx k hk'
    · exact hf k hk' x (by simp [hx])
  · intro y G G' p ih hf h
    obtain ⟨h1, h2⟩ := List.pairwise_cons.1 h
    refine List.pairwise_cons.2 ⟨fun x hx k hk hk' => ?_, ih (fun k hk x hx => hf k hk x (by simp [hx])) h2⟩
    rcases Put.sub p hx with rfl | hx
    · rcases hb k hk' with hk'' | hk''
      · exact h1 _ (Put.mem p) k hk hk''
      · exact hf k hk'' _ (by simp) hk
    · exact h1 x hx k hk hk'
theorem put_other {e e' x : Ent} (p : Put G e e' G') (h : G.Pairwise fun e e' => ∀ k, e.blk k → ¬ e'.blk k) (hx : x ∈ G') : x = e' ∨ (x ∈ G ∧ ∀ k, x.blk k → ¬ e.blk k) := by
  revert h hx
  refine p.way (motive := fun G G' => G.Pairwise (fun e e' => ∀ k, e.blk k → ¬ e'.blk k) → x ∈ G' → x = e' ∨ (x ∈ G ∧ ∀ k, x.blk k → ¬ e.blk k)) ?_ ?_
  · intro G h hx
    obtain ⟨h1, h2⟩ := List.pairwise_cons.1 h
    rcases List.mem_cons.1 hx with rfl | hx
    · exact .inl rfl
    · exact .inr ⟨by simp [hx], fun k hk hk' => h1 x hx k hk' hk⟩
  · intro y G G' p ih h hx
    obtain ⟨h1, h2⟩ := List.pairwise_cons.1 h
    rcases List.mem_cons.1 hx with rfl | hx
    · exact .inr ⟨by simp, fun k hk hk' => h1 _ (Put.mem p) k hk hk'⟩
    · rcases ih h2 hx with rfl | ⟨h3, h4⟩
      · exact .inl rfl
      · exact .inr ⟨by simp [h3], h4⟩

/-- one entry changes -/
theorem Mem.put {e e' : Ent} (h : Mem B w0 w G) (p : Put G e e' G') (hk : Keeps e.blk w w') (he : e'.hold B w') (hb : ∀ k, e'.blk k → e.blk k ∨ w.heap.size ≤ k) : Mem B w0 w' G' := by
  have hm := h.ents e p.mem
  refine ⟨h.below.trans (hk.below h.size (fun k hk => (e.lt hm k hk).1)), Nat.le_trans h.size hk.size, fun x hx => ?_, ?_⟩
  · rcases put_other p h.apart hx with rfl | ⟨hx, hd⟩
    · exact he
    · exact x.keep (h.ents x hx) hk hd
  · refine put_apart (f := fun k => w.heap.size ≤ k) (fun k hk x hx hx' => ?_) hb p h.apart
    have := (x.lt (h.ents x hx) k hx').2
    omega

/-- a store into one of the entries -/
def Sto (G : List Ent) (b o : Nat) (v : Value) (G' : List Ent) : Prop := ∃ e e', Put G e e' G' ∧ (∀ k, e.blk k ↔ k = b) ∧ (∀ k, e'.blk k ↔ k = b) ∧ ∀ B w, e.hold B w → e'.hold B (w.setCell ⟨b, o, none⟩ v)
theorem Sto.put {b o : Nat} {v : Value} (s : Sto G b o v G') : ∃ e e', Put G e e' G' ∧ (∀ k, e.blk k ↔ k = b) ∧ (∀ k, e'.blk k ↔ k = b) ∧ ∀ B w, e.hold B w → e'.hold B (w.setCell ⟨b, o, none⟩ v) := s
theorem Sto.row {b : Nat} {T : TypeId} {cs : Array Value} {o : Nat} {v : Value} {G : List Ent} : Sto (rowE b T cs :: G) b o v (rowE b T (cs.setIfInBounds o v) :: G) := by
  refine ⟨_, _, .here, fun k => Iff.rfl, fun k => Iff.rfl, ?_⟩
  rintro B w ⟨h1, h2⟩
  refine ⟨h1, ?_⟩
  simp only [World.setCell, Array.getElem?_modify, h2]
  simp
theorem Sto.rowEq {b b' : Nat} {T : TypeId} {cs : Array Value} {o : Nat} {v : Value} {G : List Ent} (e : b = b') : Sto (rowE b T cs :: G) b' o v (rowE b T (cs.setIfInBounds o v) :: G) := e ▸ Sto.row
theorem Sto.rowEq2 {b b' : Nat} {T : TypeId} {cs cs' : Array Value} {o : Nat} {v : Value} {G : List Ent} (e : b = b') (h : cs' = cs.setIfInBounds o v) : Sto (rowE b T cs :: G) b' o v (rowE b T cs' :: G) := by
  subst h
  exact Sto.rowEq e
theorem Sto.int {b n c : Nat} {xs : List Int} {o : Nat} {x : Int} {G : List Ent} (hx : I64 x) : Sto (intE (some ⟨b, 0, none⟩) n c xs :: G) b o (.int .i64 x) (intE (some ⟨b, 0, none⟩) n c (xs.set o x) :: G) := by
  refine ⟨_, _, .here, fun k => ?_, fun k => ?_, fun B w h => Own.set h o x hx⟩ <;> (constructor <;> intro h)
  · obtain ⟨ad, e1, e2⟩ := h; injection e1 with e1; subst e1; exact e2
  · exact ⟨_, rfl, h⟩
  · obtain ⟨ad, e1, e2⟩ := h; injection e1 with e1; subst e1; exact e2
  · exact ⟨_, rfl, h⟩
theorem Sto.there {e : Ent} {b o : Nat} {v : Value} {G G' : List Ent} (s : Sto G b o v G') : Sto (e :: G) b o v (e :: G') := by
  obtain ⟨x, x', p, h⟩ := s
  exact ⟨x, x', .there p, h⟩
theorem Mem.set {b o : Nat} {v : Value} (h : Mem B w0 w G) (s : Sto G b o v G') : Mem B w0 (w.setCell ⟨b, o, none⟩ v) G' := by
  obtain ⟨e, e', p, h1, h2, h3⟩ := s.put
  exact h.put p (Keeps.setCell (Keeps.refl _ _) _ ((h1 b).2 rfl) v) (h3 _ _ (h.ents e p.mem)) (fun k hk => .inl ((h1 k).2 ((h2 k).1 hk)))

theorem Mem.tail {e : Ent} (h : Mem B w0 w (e :: G)) : Mem B w0 w G := ⟨h.below, h.size, fun x hx => h.ents x (by simp [hx]), (List.pairwise_cons.1 h.apart).2⟩
theorem Mem.drop1 {e f : Ent} (h : Mem B w0 w (e :: f :: G)) : Mem B w0 w (e :: G) :=
  ⟨h.below, h.size, fun x hx => h.ents x (by simp at hx ⊢; rcases hx with h | h <;> simp [h]), h.apart.sublist (by simp)⟩
theorem Mem.sub (h : Mem B w0 w G) (hs : G'.Sublist G) : Mem B w0 w G' :=
  ⟨h.below, h.size, fun x hx => h.ents x (hs.subset hx), h.apart.sublist hs⟩
theorem Mem.perm (h : Mem B w0 w G) (hp : G.Perm G') : Mem B w0 w G' :=
  ⟨h.below, h.size, fun x hx => h.ents x (hp.mem_iff.2 hx), h.apart.perm hp (fun hab k h1 h2 => hab k h2 h1)⟩
theorem Mem.first {e : Ent} (h : Mem B w0 w (e :: G)) : Mem B w0 w [e] := h.sub (by simp)
theorem Mem.swap {e f : Ent} (h : Mem B w0 w (e :: f :: G)) : Mem B w0 w (f :: e :: G) := h.perm (.swap _ _ _)

/-- the word for an entry at a place -/
def In (G : List Ent) (e : Ent) : Prop := e ∈ G
theorem In.here {e : Ent} {G : List Ent} : In (e :: G) e := List.mem_cons_self
theorem In.there {e x : Ent} {G : List Ent} (h : In G e) : In (x :: G) e := List.mem_cons_of_mem _ h
theorem In.mem {e : Ent} (h : In G e) : e ∈ G := h
theorem Mem.row {b : Nat} {T : TypeId} {cs : Array Value} (h : Mem B w0 w G) (i : In G (rowE b T cs)) : Row w b cs := by
  obtain ⟨_, h2⟩ := h.ents _ i.mem
  refine ⟨fun o => ?_, fun o => ?_, (Array.getElem?_eq_some_iff.1 h2).1⟩
  · simp [World.cell?, h2]
  · simp [World.frozen?, h2]
theorem Mem.ints {a : Option Addr} {n c : Nat} {xs : List Int} (h : Mem B w0 w G) (i : In G (intE a n c xs)) : Own B w a n c xs := h.ents _ i.mem
theorem Mem.intsR {a : Option Addr} {n c : Nat} {xs : List Int} (h : Mem B w0 w G) (i : In G (intE a n c xs)) : Ints w a n c xs := (h.ints i).ints
/-- an array of numbers written out -/
theorem Mem.toInts {b : Nat} {cs : Array Value} {xs : List Int} (h : Mem B w0 w G) (p : Put G (rowE b 3 cs) (intE (some ⟨b, 0, none⟩) xs.length xs.length xs) G') (hc : cs.toList = cellsI xs) (hw : ∀ x ∈ xs, I64 x) (hl : xs.length ≤ 17592186044416) : Mem B w0 w G' := by
  have h1 := h.ents _ p.mem
  obtain ⟨h2, h3⟩ := h1
  refine h.put p (Keeps.refl _ _) ?_ (fun k hk => ?_)
  · refine ⟨rfl, hl, hw, by simp [cellsI], .inr ⟨b, xs.length, cs, rfl, h2, h3, Nat.le_refl _, by unfold maxLen; omega, ?_, ?_⟩⟩
    · have := congrArg List.length hc
      simp [cellsI] at this
      simpa using this
    · rw [hc]
      simp only [Nat.mul_one]
      exact List.take_of_length_le (by simp [cellsI])
  · obtain ⟨ad, e1, e2⟩ := hk
    injection e1 with e1
    subst e1
    exact .inl e2

theorem Mem.toInts0 {b : Nat} (h : Mem B w0 w (rowE b 3 #[] :: G)) : Mem B w0 w [intE (some ⟨b, 0, none⟩) 0 0 []] :=
  (h.first.toInts (xs := []) .here rfl (by simp) (by simp))

/-- behind an append -/
theorem Mem.appended {a : Option Addr} {n c : Nat} {xs : List Int} {a' : Option Addr} {n' c' : Nat} {ys : List Int} (h : Mem B w0 w G) (p : Put G (intE a n c xs) (intE a' n' c' ys) G')
    (ho : Own B w' a' n' c' ys) (hg : w.grownBy w' (Value.ownBlock (.slice a n c))) (hb : ∀ k, blockOf a' k → blockOf a k ∨ k = w.heap.size) : Mem B w0 w' G' :=
  h.put p ((Keeps.grown hg).mono fun k _ hk => ownBlock_blockOf hk) ho (fun k hk => (hb k hk).elim .inl (fun e => .inr (by omega)))
end
section
variable {B : Nat} {w0 w w' : World} {G G' : List Ent}
theorem Mem.at {P : Program} {f : FuncId} {args : Array Value} {Q : Ending → World → Prop} (h : Mem B w0 w G) (k : Mem B w0 w G → Calls P f args w Q) : Calls P f args w Q := k h
theorem Mem.atWp {P : Program} {c : Code} {a : Act} {Q : Exit → Act → World → Prop} (h : Mem B w0 w G) (k : Mem B w0 w G → c.wp P Q a w) : c.wp P Q a w := k h
theorem Mem.atL {P : Program} {ops l : _} {a : Act} {Q : Exit → Act → World → Prop} (h : Mem B w0 w G) (k : Mem B w0 w G → wpList P ops Q l a w) : wpList P ops Q l a w := k h
/-- the same, the world forgotten -/
theorem Mem.atA {P : Program} {f : FuncId} {args : Array Value} {Q : Ending → World → Prop} (h : Mem B w0 w G) (k : ∀ w, Mem B w0 w G → Calls P f args w Q) : Calls P f args w Q := k w h
theorem Mem.atWpA {P : Program} {c : Code} {a : Act} {Q : Exit → Act → World → Prop} (h : Mem B w0 w G) (k : ∀ w, Mem B w0 w G → c.wp P Q a w) : c.wp P Q a w := k w h
theorem Mem.atEx {e : Exit} {a : Act} {Q : Exit → Act → World → Prop} (h : Mem B w0 w G) (k : ∀ w, Mem B w0 w G → Q e a w) : Q e a w := k w h
/-- what a callee made -/
theorem Mem.join (h : Mem B w0 w G) (h' : Mem w.heap.size w w' G') : Mem B w0 w' (G' ++ G) := by
  have h1 := h.ext h'.below
  refine ⟨h1.below, h1.size, fun e he => ?_, List.pairwise_append.2 ⟨h'.apart, h1.apart, fun e he e' he' k hk hk' => ?_⟩⟩
  · rcases List.mem_append.1 he with he | he
    · exact e.mono (h'.ents e he) h.size
    · exact h1.ents e he
  · have := (e.lt (h'.ents e he) k hk).1
    have := (e'.lt (h.ents e' he') k hk').2
    omega
end
theorem sA {α : Type} : (∀ (l : List α) (i : Nat) (x : α), l.toArray.setIfInBounds i x = (l.set i x).toArray) ∧ (∀ (y : α) (l : List α) (x : α), (y :: l).set 0 x = x :: l) ∧ (∀ (y : α) (l : List α) (i : Nat) (x : α), (y :: l).set (i + 1) x = y :: l.set i x) :=
  ⟨fun _ _ _ => List.setIfInBounds_toArray _ _ _, fun _ _ _ => List.set_cons_zero, fun _ _ _ _ => List.set_cons_succ⟩
theorem memA {p : Prop} (h : p := by (repeat' (first | with_reducible exact hM | with_reducible exact hMp | with_reducible apply Mem.drew | with_reducible apply Mem.drewN | with_reducible apply Mem.alloc | with_reducible apply Mem.set | with_reducible exact Sto.row | ((with_reducible refine Sto.rowEq2 ?_ ?_); omega; rfl) | ((with_reducible refine Sto.rowEq ?_); omega) | with_reducible apply Sto.int | with_reducible apply Sto.there | with_reducible assumption | (unfold I64; omega) | (with_reducible (have hMx := Mem.undrew hM; exact hMx)) | (with_reducible (have hMx := Mem.undrew hMp; exact hMx))))) : p := h
end Go.Proofs.YtojfbcgfeojdfaaGreat

/-
  A region that draws its order and has a last operation t, for which all others wait: a condition S on the world is asked behind every operation but t.
-/
namespace Go.Proofs.YtojfbcgfeojdfaaGreat
set_option linter.unusedSimpArgs false
set_option linter.unusedVariables false
open Go.RowKit

section
variable {P : Program} {ops : Array Oper} {Q : Exit → Act → World → Prop} {md : Region.Mode} {S : World → Prop} {t : Nat}

/-- does t wait for i, by way of others too -/
def anc (md : Region.Mode) (ops : Array Oper) (i : Nat) : Nat → Nat → Bool
  | 0, _ => false
  | f + 1, t => match ops[t]? with
    | some o => o.after.any fun e => Region.binds md e && (e.on == i || anc md ops i f e.on)
    | none => false

/-- what has come up waits for nothing that hasn't -/
def Closed (md : Region.Mode) (ops : Array Oper) (l : Array Bool) : Prop :=
  ∀ j o, ops[j]? = some o → l.getD j false = true → ∀ e ∈ o.after, Region.binds md e = true → l.getD e.on false = true

theorem anc_listed {i : Nat} {l : Array Bool} (hc : Closed md ops l) : ∀ (f t : Nat) (o : Oper), ops[t]? = some o → anc md ops i f t = true →
    (∀ e ∈ o.after, Region.binds md e = true → l.getD e.on false = true) → l.getD i false = true
  | 0, _, _, _, h, _ => by cases h
  | f + 1, t, o, ho, h, hall => by
    unfold anc at h
    rw [ho] at h
    obtain ⟨e, he, hb⟩ := Array.any_eq_true'.1 h
    simp only [Bool.and_eq_true, Bool.or_eq_true, beq_iff_eq] at hb
    have hl := hall e he hb.1
    rcases hb.2 with e1 | e1
    · rw [← e1]; exact hl
    · cases ho' : ops[e.on]? with
      | none =>
        cases f with
        | zero => cases e1
        | succ f =>
          unfold anc at e1
          rw [ho'] at e1
          cases e1
      | some o' => exact anc_listed hc f e.on o' ho' e1 (hc e.on o' ho' hl)

theorem Closed.set {l : Array Bool} {j : Nat} (hc : Closed md ops l) (hj : j ∈ Region.ready md ops l) : Closed md ops (l.setIfInBounds j true) := by
  obtain ⟨_, oj, hoj, hall⟩ := mem_ready.1 hj
  intro k o ho hl e he hb
  by_cases hjk : j = k
  · subst hjk
    have : o = oj := Option.some.inj (ho.symm.trans hoj)
    subst this
    exact getD_set_true (hall e he hb)
  · rw [getD_set_ne false hjk] at hl
    exact getD_set_true (hc k o ho hl e he hb)

theorem Closed.none (n : Nat) : Closed md ops (Array.replicate n false) := by
  intro j o _ hl
  by_cases h : j < n <;> simp [h] at hl

theorem not_ready {i : Nat} {l : Array Bool} {f : Nat} (hc : Closed md ops l) (ha : anc md ops i f t = true) (hi : i ∈ Region.ready md ops l) : t ∉ Region.ready md ops l := by
  intro ht
  obtain ⟨_, o, ho, hall⟩ := mem_ready.1 ht
  have h1 := anc_listed hc f t o ho ha hall
  have h2 := (mem_ready.1 hi).1
  by_cases hlt : i < l.size
  · simp [hlt] at h1 h2
    rw [h1] at h2
    cases h2
  · simp [hlt] at h1

/-- whatever order is picked; S holds behind each operation but t -/
def wpAnyT (P : Program) (md : Region.Mode) (ops : Array Oper) (Q : Exit → Act → World → Prop) (S : World → Prop) (t : Nat) : Nat → Array Bool → Act → World → Prop
  | 0, l, a, w => Region.ready md ops l = [] ∧ Q .normal a w
  | f + 1, l, a, w => (Region.ready md ops l = [] → Q .normal a w) ∧ ∀ i ∈ Region.ready md ops l, wpOp P ops Q i (fun a' w' => (i ≠ t → S w') ∧ wpAnyT P md ops Q S t f (l.setIfInBounds i true) a' w') a w

theorem wpAny_of_T : ∀ (f : Nat) (l : Array Bool) (a : Act) (w : World), wpAnyT P md ops Q S t f l a w → wpAny P md ops Q f l a w
  | 0, _, _, _, h => h
  | f + 1, _, _, _, h => ⟨h.1, fun i hi => wpOp_mono (fun a' w' h' => wpAny_of_T f _ a' w' h'.2) (h.2 i hi)⟩

theorem wpAnyT_first {i : Nat} {oi : Oper} {v : Value} {fa : Nat} (hi : ops[i]? = some oi) (hsel : ∀ (j : Nat) (o : Oper) cs b, ops[j]? = some o → o.op ≠ .select cs b)
    (hQ : ∀ c a w, Q (.panic c) (a.put oi.dst v) w → Q (.panic c) a w) (ha : anc md ops i fa t = true) :
    ∀ (f : Nat) (l : Array Bool) (a : Act) (w : World), Closed md ops l →
      (∀ j oj, ops[j]? = some oj → j ≠ i → l.getD j true = false → (∀ e ∈ oj.after, Region.binds md e = true → e.on ≠ i) → oi.apart ops oj = true) →
      i ∈ Region.ready md ops l → YieldsIf P ops S oi v a → S w → wpAnyT P md ops Q S t f (l.setIfInBounds i true) (a.put oi.dst v) w → wpAnyT P md ops Q S t (f + 1) l a w
  | f, l, a, w, hc, hfree, hr, hy, hS, H => by
    refine ⟨fun h => (by rw [h] at hr; cases hr), fun j hj => ?_⟩
    by_cases hji : j = i
    · subst hji
      exact hy.wpOp hi hS ⟨fun _ => hS, H⟩
    · have hjt : j ≠ t := fun e => not_ready hc ha hr (e ▸ hj)
      cases f with
      | zero =>
        have := ready_mono hj hji
        rw [H.1] at this
        cases this
      | succ f =>
        obtain ⟨hjun, oj, hoj, hall⟩ := mem_ready.1 hj
        have hun := (mem_ready.1 hr).1
        have hnot : ∀ e ∈ oj.after, Region.binds md e = true → e.on ≠ i := by
          intro e he hb heq
          have h1 := hall e he hb
          rw [heq] at h1
          by_cases hlt : i < l.size
          · simp [hlt] at hun h1
            rw [hun] at h1
            cases h1
          · simp [hlt] at hun
        have h2 := wpOp_putIf hoj (hfree j oj hoj hji hjun hnot) (fun cs b => hsel i oi cs b hi) (fun cs b => hsel j oj cs b hoj) hQ hy (H.2 j (ready_mono hj hji))
        refine wpOp_mono (fun a' w' h3 => ⟨h3.2.1, wpAnyT_first hi hsel hQ ha f (l.setIfInBounds j true) a' w' (hc.set hj) ?_ (ready_mono hr (Ne.symm hji)) h3.1 (h3.2.1 hjt) ?_⟩) h2
        · intro k ok hk hki hkun hno
          refine hfree k ok hk hki ?_ hno
          by_cases hjk : j = k
          · subst hjk; exact hjun
          · rw [getD_set_ne true hjk] at hkun; exact hkun
        · rw [Array.setIfInBounds_comm _ _ hji]
          exact h3.2.2

/-- The walk's own form: the state and what has come up so far, that it is closed. -/
def AtT (P : Program) (md : Region.Mode) (ops : Array Oper) (Q : Exit → Act → World → Prop) (S : World → Prop) (t f : Nat) (l : Array Bool) (a : Act) (w : World) : Prop :=
  Closed md ops l → wpAnyT P md ops Q S t f l a w

theorem AtT.start {id : Nat} {a : Act} {w : World} (t : Nat) (hm : P.follows .mixedOrders = true) (h : AtT P .any ops Q S t ops.size (Array.replicate ops.size false) a w.drew) : (Code.region id ops true).wp P Q a w :=
  wp_region_any hm (wpAny_of_T _ _ _ _ (h (Closed.none _)))

theorem AtT.take {i : Nat} {oi : Oper} {v : Value} {f : Nat} {l : Array Bool} {a : Act} {w : World} (hi : ops[i]? = some oi)
    (hs : Region.noSelect ops = true) (hf : Region.free md ops l i = true) (hr : (Region.ready md ops l).contains i = true) (ha : anc md ops i ops.size t = true)
    (hQ : ∀ c a w, Q (.panic c) (a.put oi.dst v) w → Q (.panic c) a w) (hy : YieldsIf P ops S oi v a) (hS : S w)
    (h : AtT P md ops Q S t f (l.setIfInBounds i true) (a.put oi.dst v) w) : AtT P md ops Q S t (f + 1) l a w := fun hc =>
  have hr' : i ∈ Region.ready md ops l := by simpa using hr
  wpAnyT_first hi (Region.noSelect_spec hs) hQ ha f l a w hc (Region.free_spec hi hf) hr' hy hS (h (hc.set hr'))

theorem AtT.taked {i : Nat} {oi : Oper} {v : Value} {f : Nat} {l : Array Bool} {a : Act} {w : World} (d : Option Tmp) (hi : ops[i]? = some oi) (hd : oi.dst = d)
    (hs : Region.noSelect ops = true) (hf : Region.free md ops l i = true) (hr : (Region.ready md ops l).contains i = true) (ha : anc md ops i ops.size t = true)
    (hQ : ∀ c a w, Q (.panic c) (a.put d v) w → Q (.panic c) a w) (hy : YieldsIf P ops S oi v a) (hS : S w)
    (h : AtT P md ops Q S t f (l.setIfInBounds i true) (a.put d v) w) : AtT P md ops Q S t (f + 1) l a w := by
  subst hd
  exact AtT.take hi hs hf hr ha hQ hy hS h

/-- a region's way on, that no tactic looks into -/
def ShutT (p : Prop) : Prop := p
theorem ShutT.out {p : Prop} (h : ShutT p) : p := h

/-- one operation alone may come up -/
theorem AtT.only {i : Nat} {o : Oper} {f : Nat} {l : Array Bool} {a : Act} {w : World} (hr : Region.ready md ops l = [i]) (ho : ops[i]? = some o) (hit : (i == t) = false)
    (h : ∀ K' : Act → World → Prop, ShutT (∀ a w, S w → AtT P md ops Q S t f (l.setIfInBounds i true) a w → K' a w) → if Region.wanted o (yielded ops a.tmps) = true then Oper.wp P o a w K' Q else K' (a.put o.dst undef) w) : AtT P md ops Q S t (f + 1) l a w := fun hc => by
  have hri : i ∈ Region.ready md ops l := by rw [hr]; simp
  refine ⟨fun h0 => (by rw [h0] at hr; cases hr), fun j hj => ?_⟩
  rw [hr] at hj
  obtain rfl : j = i := by simpa using hj
  exact wpOp_step ho fun K' hK => h K' fun a w hS hA => hK a w ⟨fun _ => hS, hA (hc.set hri)⟩

/-- one of two may come up -/
theorem AtT.two {i j : Nat} {oi oj : Oper} {f : Nat} {l : Array Bool} {a : Act} {w : World} (hr : Region.ready md ops l = [i, j]) (hoi : ops[i]? = some oi) (hoj : ops[j]? = some oj) (hit : (i == t) = false) (hjt : (j == t) = false)
    (h1 : ∀ K' : Act → World → Prop, ShutT (∀ a w, S w → AtT P md ops Q S t f (l.setIfInBounds i true) a w → K' a w) → if Region.wanted oi (yielded ops a.tmps) = true then Oper.wp P oi a w K' Q else K' (a.put oi.dst undef) w)
    (h2 : ∀ K' : Act → World → Prop, ShutT (∀ a w, S w → AtT P md ops Q S t f (l.setIfInBounds j true) a w → K' a w) → if Region.wanted oj (yielded ops a.tmps) = true then Oper.wp P oj a w K' Q else K' (a.put oj.dst undef) w) : AtT P md ops Q S t (f + 1) l a w := fun hc => by
  have hri : i ∈ Region.ready md ops l := by rw [hr]; simp
  have hrj : j ∈ Region.ready md ops l := by rw [hr]; simp
  refine ⟨fun h0 => (by rw [h0] at hr; cases hr), fun k hk => ?_⟩
  rw [hr] at hk
  rcases (by simpa using hk : k = i ∨ k = j) with rfl | rfl
  · exact wpOp_step hoi fun K' hK => h1 K' fun a w hS hA => hK a w ⟨fun _ => hS, hA (hc.set hri)⟩
  · exact wpOp_step hoj fun K' hK => h2 K' fun a w hS hA => hK a w ⟨fun _ => hS, hA (hc.set hrj)⟩

/-- the last operation -/
theorem AtT.last {o : Oper} {f : Nat} {l : Array Bool} {a : Act} {w : World} (hr : Region.ready md ops l = [t]) (ho : ops[t]? = some o) (hd : Region.ready md ops (l.setIfInBounds t true) = [])
    (h : ∀ K' : Act → World → Prop, ShutT (∀ a w, Q .normal a w → K' a w) → if Region.wanted o (yielded ops a.tmps) = true then Oper.wp P o a w K' Q else K' (a.put o.dst undef) w) : AtT P md ops Q S t (f + 1) l a w := fun _ => by
  refine ⟨fun h0 => (by rw [h0] at hr; cases hr), fun j hj => ?_⟩
  rw [hr] at hj
  obtain rfl : j = t := by simpa using hj
  refine wpOp_step ho fun K' hK => h K' fun a w hq => hK a w ⟨fun e => absurd rfl e, ?_⟩
  cases f with
  | zero => exact ⟨hd, hq⟩
  | succ f => exact ⟨fun _ => hq, by rw [hd]; simp⟩

end
section
variable {P : Program} {ops : Array Oper} {Q : Exit → Act → World → Prop} {md : Region.Mode} {S : World → Prop} {t : Nat}
theorem AtT.tk (i : Nat) (v : Value) (d : Nat) {oi : Oper} {f : Nat} {l : Array Bool} {a : Act} {w : World} (hy : ∀ w, S w → (execOp a.eval oi).run P w = .ok (.value v) w) (hS : S w) (h : AtT P md ops Q S t f (l.setIfInBounds i true) (a.put (some d) v) w) (hi : ops[i]? = some oi := by exact rfl) (hd : oi.dst = some d := by exact rfl) (hs : Region.noSelect ops = true := by kernel_rfl) (hf : Region.free md ops l i = true := by kernel_rfl) (hr : (Region.ready md ops l).contains i = true := by kernel_rfl) (ha : anc md ops i ops.size t = true := by kernel_rfl) (hQ : ∀ c a w, Q (.panic c) (a.put (some d) v) w → Q (.panic c) a w := by exact (fun _ _ _ h => h)) (hw : Region.wanted oi (yielded ops a.tmps) = true := by kernel_rfl) : AtT P md ops Q S t (f + 1) l a w :=
  AtT.taked (some d) hi hd hs hf hr ha hQ (Or.inl ⟨hw, hy⟩) hS h
theorem AtT.tn (i : Nat) (d : Nat) {oi : Oper} {f : Nat} {l : Array Bool} {a : Act} {w : World} (hS : S w) (h : AtT P md ops Q S t f (l.setIfInBounds i true) (a.put (some d) undef) w) (hi : ops[i]? = some oi := by exact rfl) (hd : oi.dst = some d := by exact rfl) (hs : Region.noSelect ops = true := by kernel_rfl) (hf : Region.free md ops l i = true := by kernel_rfl) (hr : (Region.ready md ops l).contains i = true := by kernel_rfl) (ha : anc md ops i ops.size t = true := by kernel_rfl) (hQ : ∀ c a w, Q (.panic c) (a.put (some d) undef) w → Q (.panic c) a w := by exact (fun _ _ _ h => h)) (hw : Region.wanted oi (yielded ops a.tmps) = false := by kernel_rfl) : AtT P md ops Q S t (f + 1) l a w :=
  AtT.taked (some d) hi hd hs hf hr ha hQ (Or.inr ⟨hw, rfl⟩) hS h
end
end Go.Proofs.YtojfbcgfeojdfaaGreat
