/-
  Memory of a call's own, as a list of entries that lie apart from each other; and what is below as it was.
-/
import Derived.Test.YtpflnmejbialjaaGreatDoorVVoc
/-
  Memory of a call's own, as a list of entries that lie apart from each other; and what is below as it was.
-/
namespace Go.Proofs.YtpflnmejbialjaaGreatDoor
set_option linter.unusedSimpArgs false
set_option linter.unusedVariables false
open Go.RowKit

theorem heapDrew (w : World) : w.drew.heap = w.heap := rfl

/-- an assertion on memory: what it says, of which blocks -/
structure Ent where
  hold : Nat → World → Prop
  blk : Nat → Prop
  lt : ∀ {B w}, hold B w → ∀ k, blk k → B ≤ k ∧ k < w.heap.size
  mono : ∀ {B B' w}, hold B w → B' ≤ B → hold B' w
  keep : ∀ {B w d w'}, hold B w → Keeps d w w' → (∀ k, blk k → ¬ d k) → hold B w'

/-- block b holds the cells cs -/
def rowE (b : Nat) (T : TypeId) (cs : Array Value) : Ent where
  hold B w := B ≤ b ∧ w.heap[b]? = some (.cells cs T (0, 0))
  blk k := k = b
  lt := by
    rintro B w ⟨h1, h2⟩ k rfl
    exact ⟨h1, (Array.getElem?_eq_some_iff.1 h2).1⟩
  mono := fun h hB => ⟨Nat.le_trans hB h.1, h.2⟩
  keep := by
    rintro B w d w' ⟨h1, h2⟩ hk hd
    exact ⟨h1, by rw [hk.block b (Array.getElem?_eq_some_iff.1 h2).1 (hd b rfl)]; exact h2⟩

/-- the slice (a, n, c) owns the numbers xs -/
def intE (a : Option Addr) (n c : Nat) (xs : List Int) : Ent where
  hold B w := Own B w a n c xs
  blk k := blockOf a k
  lt := fun h k hk => ⟨h.from k hk, h.till k hk⟩
  mono := fun h hB => h.mono hB
  keep := fun h hk hd => h.keeps hk hd

structure Mem (B : Nat) (w0 w : World) (G : List Ent) : Prop where
  below : Below B w0 w
  size : B ≤ w.heap.size
  ents : ∀ e ∈ G, e.hold B w
  apart : G.Pairwise fun e e' => ∀ k, e.blk k → ¬ e'.blk k

section
variable {B : Nat} {w0 w w' : World} {G G' : List Ent}

theorem Mem.start (w : World) : Mem w.heap.size w w [] := ⟨Below.refl _ _, Nat.le_refl _, by simp, List.Pairwise.nil⟩

/-- what has changed lies in no entry -/
theorem Mem.keeps {d : Nat → Prop} (h : Mem B w0 w G) (hk : Keeps d w w') (hd : ∀ k, d k → B ≤ k) (hn : ∀ e ∈ G, ∀ k, e.blk k → ¬ d k) : Mem B w0 w' G :=
  ⟨h.below.trans (hk.below h.size hd), Nat.le_trans h.size hk.size, fun e he => e.keep (h.ents e he) hk (hn e he), h.apart⟩
theorem Mem.ext (h : Mem B w0 w G) (hb : Below w.heap.size w w') : Mem B w0 w' G :=
  ⟨h.below.trans (hb.mono h.size), Nat.le_trans h.size hb.size, fun e he => e.keep (h.ents e he) (Keeps.of_below (d := fun _ => False) hb) (fun _ _ => id), h.apart⟩
theorem Mem.drew (h : Mem B w0 w G) : Mem B w0 w.drew G := h.ext (Below.refl _ _).drew
theorem Mem.drewN (h : Mem B w0 w G) (n : Nat) : Mem B w0 (w.drewN n) G := h.ext (bdrewN (Below.refl _ _) n)
theorem Mem.undrew (h : Mem B w0 w.drew G) : Mem B w0 w G := h.ext (w' := w) ⟨rfl, rfl, rfl, Nat.le_refl _, fun _ _ => rfl⟩
/-- new entries in new memory -/
theorem Mem.new (h : Mem B w0 w G) (hb : Below w.heap.size w w') (e : Ent) (he : e.hold w.heap.size w') (hm : e.hold B w') : Mem B w0 w' (e :: G) := by
  have h1 := h.ext hb
  refine ⟨h1.below, h1.size, ?_, List.pairwise_cons.2 ⟨fun e' he' k hk hk' => ?_, h1.apart⟩⟩
  · intro e' he'
    rcases List.mem_cons.1 he' with rfl | he'
    · exact hm
    · exact h1.ents e' he'
  · have := (e.lt he k hk).1
    have := (e'.lt (h.ents e' he') k hk').2
    omega
theorem Mem.alloc (h : Mem B w0 w G) (cs : Array Value) (T : TypeId) : Mem B w0 (w.alloc (.cells cs T)) (rowE w.heap.size T cs :: G) :=
  h.new ((Below.refl _ _).alloc (Nat.le_refl _) _) _ ⟨Nat.le_refl _, heap_alloc_new w _⟩ ⟨h.size, heap_alloc_new w _⟩
theorem Mem.own (h : Mem B w0 w G) (hb : Below w.heap.size w w') {a : Option Addr} {n c : Nat} {xs : List Int} (ho : Own w.heap.size w' a n c xs) : Mem B w0 w' (intE a n c xs :: G) :=
  h.new hb _ ho (ho.mono h.size)

/-- one entry out of a list, and the list with another in its place -/
def Put (G : List Ent) (e e' : Ent) (G' : List Ent) : Prop := ∃ G1 G2, G = G1 ++ e :: G2 ∧ G' = G1 ++ e' :: G2
theorem Put.here {e e' : Ent} {G : List Ent} : Put (e :: G) e e' (e' :: G) := ⟨[], G, rfl, rfl⟩
theorem Put.there {e e' x : Ent} {G G' : List Ent} (p : Put G e e' G') : Put (x :: G) e e' (x :: G') := by
  obtain ⟨G1, G2, rfl, rfl⟩ := p
  exact ⟨x :: G1, G2, rfl, rfl⟩
theorem Put.way {e e' : Ent} {motive : List Ent → List Ent → Prop} {G G' : List Ent} (p : Put G e e' G') (h : ∀ G, motive (e :: G) (e' :: G)) (t : ∀ x G G', Put G e e' G' → motive G G' → motive (x :: G) (x :: G')) : motive G G' := by
  obtain ⟨G1, G2, rfl, rfl⟩ := p
  induction G1 with
  | nil => exact h G2
  | cons x G1 ih => exact t x _ _ ⟨G1, G2, rfl, rfl⟩ ih
theorem Put.mem {e e' : Ent} (p : Put G e e' G') : e ∈ G := by
  obtain ⟨G1, G2, rfl, rfl⟩ := p
  simp
theorem Put.sub {e e' x : Ent} (p : Put G e e' G') (hx : x ∈ G') : x = e' ∨ x ∈ G := by
  obtain ⟨G1, G2, rfl, rfl⟩ := p
  simp only [List.mem_append, List.mem_cons] at hx ⊢
  rcases hx with h | h | h
  · exact .inr (.inl h)
  · exact .inl h
  · exact .inr (.inr (.inr h))
theorem put_apart {e e' : Ent} {f : Nat → Prop} (hf : ∀ k, f k → ∀ x ∈ G, ¬ x.blk k) (hb : ∀ k, e'.blk k → e.blk k ∨ f k) (p : Put G e e' G') (h : G.Pairwise fun e e' => ∀ k, e.blk k → ¬ e'.blk k) : G'.Pairwise fun e e' => ∀ k, e.blk k → ¬ e'.blk k := by
  revert hf h
  refine p.way (motive := fun G G' => (∀ k, f k → ∀ x ∈ G, ¬ x.blk k) → G.Pairwise (fun e e' => ∀ k, e.blk k → ¬ e'.blk k) → G'.Pairwise fun e e' => ∀ k, e.blk k → ¬ e'.blk k) ?_ ?_
  · intro G hf h
    obtain ⟨h1, h2⟩ := List.pairwise_cons.1 h
    refine List.pairwise_cons.2 ⟨fun x hx k hk => ?_, h2⟩
    rcases hb k hk with hk' | hk'
    · exact h1 x hx k hk'
    · exact hf k hk' x (by simp [hx])
  · intro y G G' p ih hf h
    obtain ⟨h1, h2⟩ := List.pairwise_cons.1 h
    refine List.pairwise_cons.2 ⟨fun x hx k hk hk' => ?_, ih (fun k hk x hx => hf k hk x (by simp [hx])) h2⟩
    rcases Put.sub p hx with rfl | hx
    · rcases hb k hk' with hk'' | hk''
      · exact h1 _ (Put.mem p) k hk hk''
      · exact hf k hk'' _ (by simp) hk
    · exact h1 x hx k hk hk'
theorem put_other {e e' x : Ent} (p : Put G e e' G') (h : G.Pairwise fun e e' => ∀ k, e.blk k → ¬ e'.blk k) (hx : x ∈ G') : x = e' ∨ (x ∈ G ∧ ∀ k, x.blk k → ¬ e.blk k) := by
  revert h hx
  refine p.way (motive := fun G G' => G.Pairwise (fun e e' => ∀ k, e.blk k → ¬ e'.blk k) → x ∈ G' → x = e' ∨ (x ∈ G ∧ ∀ k, x.blk k → ¬ e.blk k)) ?_ ?_
  · intro G h hx
    obtain ⟨h1, h2⟩ := List.pairwise_cons.1 h
    rcases List.mem_cons.1 hx with rfl | hx
    · exact .inl rfl
    · exact .inr ⟨by simp [hx], fun k hk hk' => h1 x hx k hk' hk⟩
  · intro y G G' p ih h hx
    obtain ⟨h1, h2⟩ := List.pairwise_cons.1 h
    rcases List.mem_cons.1 hx with rfl | hx
    · exact .inr ⟨by simp, fun k hk hk' => h1 _ (Put.mem p) k hk hk'⟩
    · rcases ih h2 hx with rfl | ⟨h3, h4⟩
      · exact .inl rfl
      · exact .inr ⟨by simp [h3], h4⟩

/-- one entry changes -/
theorem Mem.put {e e' : Ent} (h : Mem B w0 w G) (p : Put G e e' G') (hk : Keeps e.blk w w') (he : e'.hold B w') (hb : ∀ k, e'.blk k → e.blk k ∨ w.heap.size ≤ k) : Mem B w0 w' G' := by
  have hm := h.ents e p.mem
  refine ⟨h.below.trans (hk.below h.size (fun k hk => (e.lt hm k hk).1)), Nat.le_trans h.size hk.size, fun x hx => ?_, ?_⟩
  · rcases put_other p h.apart hx with rfl | ⟨hx, hd⟩
    · exact he
    · exact x.keep (h.ents x hx) hk hd
  · refine put_apart (f := fun k => w.heap.size ≤ k) (fun k hk x hx hx' => ?_) hb p h.apart
    have := (x.lt (h.ents x hx) k hx').2
    omega

/-- a store into one of the entries -/
def Sto (G : List Ent) (b o : Nat) (v : Value) (G' : List Ent) : Prop := ∃ e e', Put G e e' G' ∧ (∀ k, e.blk k ↔ k = b) ∧ (∀ k, e'.blk k ↔ k = b) ∧ ∀ B w, e.hold B w → e'.hold B (w.setCell ⟨b, o, none⟩ v)
theorem Sto.put {b o : Nat} {v : Value} (s : Sto G b o v G') : ∃ e e', Put G e e' G' ∧ (∀ k, e.blk k ↔ k = b) ∧ (∀ k, e'.blk k ↔ k = b) ∧ ∀ B w, e.hold B w → e'.hold B (w.setCell ⟨b, o, none⟩ v) := s
theorem Sto.row {b : Nat} {T : TypeId} {cs : Array Value} {o : Nat} {v : Value} {G : List Ent} : Sto (rowE b T cs :: G) b o v (rowE b T (cs.setIfInBounds o v) :: G) := by
  refine ⟨_, _, .here, fun k => Iff.rfl, fun k => Iff.rfl, ?_⟩
  rintro B w ⟨h1, h2⟩
  refine ⟨h1, ?_⟩
  simp only [World.setCell, Array.getElem?_modify, h2]
  simp
theorem Sto.rowEq {b b' : Nat} {T : TypeId} {cs : Array Value} {o : Nat} {v : Value} {G : List Ent} (e : b = b') : Sto (rowE b T cs :: G) b' o v (rowE b T (cs.setIfInBounds o v) :: G) := e ▸ Sto.row
theorem Sto.rowEq2 {b b' : Nat} {T : TypeId} {cs cs' : Array Value} {o : Nat} {v : Value} {G : List Ent} (e : b = b') (h : cs' = cs.setIfInBounds o v) : Sto (rowE b T cs :: G) b' o v (rowE b T cs' :: G) := by
  subst h
  exact Sto.rowEq e
theorem Sto.int {b n c : Nat} {xs : List Int} {o : Nat} {x : Int} {G : List Ent} (hx : I64 x) : Sto (intE (some ⟨b, 0, none⟩) n c xs :: G) b o (.int .i64 x) (intE (some ⟨b, 0, none⟩) n c (xs.set o x) :: G) := by
  refine ⟨_, _, .here, fun k => ?_, fun k => ?_, fun B w h => Own.set h o x hx⟩ <;> (constructor <;> intro h)
  · obtain ⟨ad, e1, e2⟩ := h; injection e1 with e1; subst e1; exact e2
  · exact ⟨_, rfl, h⟩
  · obtain ⟨ad, e1, e2⟩ := h; injection e1 with e1; subst e1; exact e2
  · exact ⟨_, rfl, h⟩
theorem Sto.there {e : Ent} {b o : Nat} {v : Value} {G G' : List Ent} (s : Sto G b o v G') : Sto (e :: G) b o v (e :: G') := by
  obtain ⟨x, x', p, h⟩ := s
  exact ⟨x, x', .there p, h⟩
theorem Mem.set {b o : Nat} {v : Value} (h : Mem B w0 w G) (s : Sto G b o v G') : Mem B w0 (w.setCell ⟨b, o, none⟩ v) G' := by
  obtain ⟨e, e', p, h1, h2, h3⟩ := s.put
  exact h.put p (Keeps.setCell (Keeps.refl _ _) _ ((h1 b).2 rfl) v) (h3 _ _ (h.ents e p.mem)) (fun k hk => .inl ((h1 k).2 ((h2 k).1 hk)))

theorem Mem.tail {e : Ent} (h : Mem B w0 w (e :: G)) : Mem B w0 w G := ⟨h.below, h.size, fun x hx => h.ents x (by simp [hx]), (List.pairwise_cons.1 h.apart).2⟩
theorem Mem.sub (h : Mem B w0 w G) (hs : G'.Sublist G) : Mem B w0 w G' :=
  ⟨h.below, h.size, fun x hx => h.ents x (hs.subset hx), h.apart.sublist hs⟩
theorem Mem.perm (h : Mem B w0 w G) (hp : G.Perm G') : Mem B w0 w G' :=
  ⟨h.below, h.size, fun x hx => h.ents x (hp.mem_iff.2 hx), h.apart.perm hp (fun hab k h1 h2 => hab k h2 h1)⟩
theorem Mem.first {e : Ent} (h : Mem B w0 w (e :: G)) : Mem B w0 w [e] := h.sub (by simp)
theorem Mem.swap {e f : Ent} (h : Mem B w0 w (e :: f :: G)) : Mem B w0 w (f :: e :: G) := h.perm (.swap _ _ _)

/-- the word for an entry at a place -/
def In (G : List Ent) (e : Ent) : Prop := e ∈ G
theorem In.here {e : Ent} {G : List Ent} : In (e :: G) e := List.mem_cons_self
theorem In.there {e x : Ent} {G : List Ent} (h : In G e) : In (x :: G) e := List.mem_cons_of_mem _ h
theorem In.mem {e : Ent} (h : In G e) : e ∈ G := h
theorem Mem.row {b : Nat} {T : TypeId} {cs : Array Value} (h : Mem B w0 w G) (i : In G (rowE b T cs)) : Row w b cs := by
  obtain ⟨_, h2⟩ := h.ents _ i.mem
  refine ⟨fun o => ?_, fun o => ?_, (Array.getElem?_eq_some_iff.1 h2).1⟩
  · simp [World.cell?, h2]
  · simp [World.frozen?, h2]
theorem Mem.ints {a : Option Addr} {n c : Nat} {xs : List Int} (h : Mem B w0 w G) (i : In G (intE a n c xs)) : Own B w a n c xs := h.ents _ i.mem
theorem Mem.intsR {a : Option Addr} {n c : Nat} {xs : List Int} (h : Mem B w0 w G) (i : In G (intE a n c xs)) : Ints w a n c xs := (h.ints i).ints
/-- an array of numbers written out -/
theorem Mem.toInts {b : Nat} {cs : Array Value} {xs : List Int} (h : Mem B w0 w G) (p : Put G (rowE b 3 cs) (intE (some ⟨b, 0, none⟩) xs.length xs.length xs) G') (hc : cs.toList = cellsI xs) (hw : ∀ x ∈ xs, I64 x) (hl : xs.length ≤ 17592186044416) : Mem B w0 w G' := by
  have h1 := h.ents _ p.mem
  obtain ⟨h2, h3⟩ := h1
  refine h.put p (Keeps.refl _ _) ?_ (fun k hk => ?_)
  · refine ⟨rfl, hl, hw, by simp [cellsI], .inr ⟨b, xs.length, cs, rfl, h2, h3, Nat.le_refl _, by unfold maxLen; omega, ?_, ?_⟩⟩
    · have := congrArg List.length hc
      simp [cellsI] at this
      simpa using this
    · rw [hc]
      simp only [Nat.mul_one]
      exact List.take_of_length_le (by simp [cellsI])
  · obtain ⟨ad, e1, e2⟩ := hk
    injection e1 with e1
    subst e1
    exact .inl e2

/-- behind an append -/
theorem Mem.appended {a : Option Addr} {n c : Nat} {xs : List Int} {a' : Option Addr} {n' c' : Nat} {ys : List Int} (h : Mem B w0 w G) (p : Put G (intE a n c xs) (intE a' n' c' ys) G')
    (ho : Own B w' a' n' c' ys) (hg : w.grownBy w' (Value.ownBlock (.slice a n c))) (hb : ∀ k, blockOf a' k → blockOf a k ∨ k = w.heap.size) : Mem B w0 w' G' :=
  h.put p ((Keeps.grown hg).mono fun k _ hk => ownBlock_blockOf hk) ho (fun k hk => (hb k hk).elim .inl (fun e => .inr (by omega)))
end
section
variable {B : Nat} {w0 w w' : World} {G G' : List Ent}
theorem Mem.at {P : Program} {f : FuncId} {args : Array Value} {Q : Ending → World → Prop} (h : Mem B w0 w G) (k : Mem B w0 w G → Calls P f args w Q) : Calls P f args w Q := k h
theorem Mem.atWp {P : Program} {c : Code} {a : Act} {Q : Exit → Act → World → Prop} (h : Mem B w0 w G) (k : Mem B w0 w G → c.wp P Q a w) : c.wp P Q a w := k h
theorem Mem.atL {P : Program} {ops l : _} {a : Act} {Q : Exit → Act → World → Prop} (h : Mem B w0 w G) (k : Mem B w0 w G → wpList P ops Q l a w) : wpList P ops Q l a w := k h
/-- the same, the world forgotten -/
theorem Mem.atA {P : Program} {f : FuncId} {args : Array Value} {Q : Ending → World → Prop} (h : Mem B w0 w G) (k : ∀ w, Mem B w0 w G → Calls P f args w Q) : Calls P f args w Q := k w h
theorem Mem.atWpA {P : Program} {c : Code} {a : Act} {Q : Exit → Act → World → Prop} (h : Mem B w0 w G) (k : ∀ w, Mem B w0 w G → c.wp P Q a w) : c.wp P Q a w := k w h
/-- what a callee made -/
theorem Mem.join (h : Mem B w0 w G) (h' : Mem w.heap.size w w' G') : Mem B w0 w' (G' ++ G) := by
  have h1 := h.ext h'.below
  refine ⟨h1.below, h1.size, fun e he => ?_, List.pairwise_append.2 ⟨h'.apart, h1.apart, fun e he e' he' k hk hk' => ?_⟩⟩
  · rcases List.mem_append.1 he with he | he
    · exact e.mono (h'.ents e he) h.size
    · exact h1.ents e he
  · have := (e.lt (h'.ents e he) k hk).1
    have := (e'.lt (h.ents e' he') k hk').2
    omega
end
end Go.Proofs.YtpflnmejbialjaaGreatDoor
