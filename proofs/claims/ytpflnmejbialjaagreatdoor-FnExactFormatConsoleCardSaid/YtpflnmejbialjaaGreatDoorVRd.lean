/-
  Slices of records of so many cells: read, and owned.
-/
import Derived.Test.YtpflnmejbialjaaGreatDoorVMem
import Derived.Test.YtpflnmejbialjaaGreatDoorVReg
/-
  Slices of records of so many cells: read, and owned.
-/
namespace Go.Proofs.YtpflnmejbialjaaGreatDoor
set_option linter.unusedSimpArgs false
set_option linter.unusedVariables false
open Go.RowKit

/-- records that take so many cells -/
structure Fl (α : Type) where
  sz : Nat
  enc : α → List Value
  z : α
  wf : α → Prop
  pos : 0 < sz
  len : ∀ x, (enc x).length = sz
  one : ∀ x, ∀ v ∈ enc x, v.oneCell' = true
def Fl.cells {α : Type} (F : Fl α) (xs : List α) : List Value := xs.flatMap F.enc
section
variable {α : Type} {F : Fl α}
theorem Fl.cells_length (xs : List α) : (F.cells xs).length = xs.length * F.sz := by
  induction xs with
  | nil => simp [Fl.cells]
  | cons x xs ih => simp only [Fl.cells, List.flatMap_cons, List.length_append, List.length_cons] at *; rw [ih, F.len, Nat.succ_mul]; omega
theorem Fl.cells_append (xs ys : List α) : F.cells (xs ++ ys) = F.cells xs ++ F.cells ys := by simp [Fl.cells]
theorem Fl.cells_one (xs : List α) : ∀ u ∈ F.cells xs, u.oneCell' = true := by
  intro u hu
  obtain ⟨x, _, h⟩ := List.mem_flatMap.1 hu
  exact F.one x u h
theorem Fl.cells_at (xs : List α) (i j : Nat) (hi : i < xs.length) (hj : j < F.sz) : (F.cells xs)[i * F.sz + j]? = (F.enc (xs.getD i F.z))[j]? := by
  induction xs generalizing i with
  | nil => simp at hi
  | cons x xs ih =>
    have e : F.cells (x :: xs) = F.enc x ++ F.cells xs := by simp [Fl.cells]
    cases i with
    | zero =>
      rw [e, Nat.zero_mul, Nat.zero_add, List.getElem?_append_left (by rw [F.len]; exact hj)]
      rfl
    | succ i =>
      rw [e, List.getElem?_append_right (by rw [F.len, Nat.succ_mul]; omega), F.len, show (i + 1) * F.sz + j - F.sz = i * F.sz + j by rw [Nat.succ_mul]; omega, ih i (by simpa using hi)]
      rfl
theorem Fl.cells_set (xs : List α) (i j : Nat) (hi : i < xs.length) (hj : j < F.sz) (v : Value) (y : α) (hy : F.enc y = (F.enc (xs.getD i F.z)).set j v) : (F.cells xs).set (i * F.sz + j) v = F.cells (xs.set i y) := by
  induction xs generalizing i with
  | nil => simp at hi
  | cons x xs ih =>
    have e : F.cells (x :: xs) = F.enc x ++ F.cells xs := by simp [Fl.cells]
    cases i with
    | zero =>
      rw [e, Nat.zero_mul, Nat.zero_add, List.set_append_left _ _ (by rw [F.len]; exact hj), List.set_cons_zero]
      have hy' : F.enc y = (F.enc x).set j v := hy
      rw [← hy']
      simp [Fl.cells]
    | succ i =>
      rw [e, List.set_append_right _ _ (by rw [F.len, Nat.succ_mul]; omega), F.len, show (i + 1) * F.sz + j - F.sz = i * F.sz + j by rw [Nat.succ_mul]; omega, ih i (by simpa using hi) hy, List.set_cons_succ]
      simp [Fl.cells]
end

/-- the slice (a, n, c) reads as xs -/
structure Rd {α : Type} (F : Fl α) (w : World) (a : Option Addr) (n c : Nat) (xs : List α) : Prop where
  len : xs.length = n
  cap : n ≤ c
  capm : c ≤ maxLen
  nil : a = none → c = 0
  room : n * F.sz ≤ 17592186044416
  wf : ∀ x ∈ xs, F.wf x
  at' : ∀ k, k < n → ∃ b off, a = some ⟨b, off, none⟩ ∧ b < w.heap.size ∧ ∀ i, i < n → ∀ j, j < F.sz → w.cell? ⟨b, off + (i * F.sz + j), none⟩ = (F.enc (xs.getD i F.z))[j]?
/-- the slice (a, n, c) of elements of type E owns xs -/
structure Ow {α : Type} (F : Fl α) (E : TypeId) (B : Nat) (w : World) (a : Option Addr) (n c : Nat) (xs : List α) : Prop where
  len : xs.length = n
  room : n * F.sz ≤ 17592186044416
  wf : ∀ x ∈ xs, F.wf x
  row : w.ownsRow B E F.sz (.slice a n c) n (F.cells xs)
section
variable {α : Type} {F : Fl α} {E : TypeId} {B : Nat} {w w' : World} {a : Option Addr} {n c : Nat} {xs : List α}
theorem Rd.ext (h : Rd F w a n c xs) (hb : Below w.heap.size w w') : Rd F w' a n c xs :=
  ⟨h.len, h.cap, h.capm, h.nil, h.room, h.wf, fun k hk => by
    obtain ⟨b, off, ha, hlt, hc⟩ := h.at' k hk
    exact ⟨b, off, ha, Nat.lt_of_lt_of_le hlt hb.size, fun i hi j hj => by rw [← hc i hi j hj]; exact hb.cell (p := ⟨b, off + (i * F.sz + j), none⟩) hlt⟩⟩
theorem Rd.nroom (h : Rd F w a n c xs) : n ≤ 17592186044416 := Nat.le_trans (Nat.le_mul_of_pos_right n F.pos) h.room
theorem Ow.rd (h : Ow F E B w a n c xs) : Rd F w a n c xs := by
  have hr := h.row
  obtain ⟨h1, h2⟩ := hr
  have hcap : n ≤ c ∧ c ≤ maxLen := by
    rcases h2 with ⟨e, hn⟩ | ⟨g, cap, cur, e, hb, hh, hle, hm, hs, ht⟩
    · simp only [Value.slice.injEq] at e
      omega
    · simp only [Value.slice.injEq] at e
      omega
  refine ⟨h.len, hcap.1, hcap.2, ?_, h.room, h.wf, fun k hk => ?_⟩
  · rintro rfl
    rcases h2 with ⟨e, hn⟩ | ⟨g, cap, cur, e, _⟩
    · simp only [Value.slice.injEq] at e
      omega
    · simp at e
  rcases h2 with ⟨e, hn⟩ | ⟨g, cap, cur, e, hb, hh, hle, hm, hs, ht⟩
  · omega
  · simp only [Value.slice.injEq] at e
    obtain ⟨rfl, _, rfl⟩ := e
    refine ⟨g, 0, rfl, (Array.getElem?_eq_some_iff.1 hh).1, fun i hi j hj => ?_⟩
    have hl : (F.enc (xs.getD i F.z))[j]? = some ((F.enc (xs.getD i F.z))[j]'(by rw [F.len]; exact hj)) := List.getElem?_eq_getElem _
    rw [hl]
    have hc := h.row.cells (g := g) rfl (i * F.sz + j) _ ((Fl.cells_at xs i j (by rw [h.len]; exact hi) hj).trans hl)
    rw [Addr.add_lit] at hc
    exact hc
theorem Ow.from (h : Ow F E B w a n c xs) : ∀ k, blockOf a k → B ≤ k := fun k hk => (h.row.lt k (blockOf_ownBlock hk)).1
theorem Ow.till (h : Ow F E B w a n c xs) : ∀ k, blockOf a k → k < w.heap.size := fun k hk => (h.row.lt k (blockOf_ownBlock hk)).2
theorem Ow.keeps {d : Nat → Prop} (h : Ow F E B w a n c xs) (hk : Keeps d w w') (hd : ∀ k, blockOf a k → ¬ d k) : Ow F E B w' a n c xs := by
  refine ⟨h.len, h.room, h.wf, h.row.1, ?_⟩
  rcases h.row.2 with e | ⟨g, cap, cur, e, hb', hh, r⟩
  · exact .inl e
  · refine .inr ⟨g, cap, cur, e, hb', ?_, r⟩
    simp only [Value.slice.injEq] at e
    obtain ⟨rfl, _, rfl⟩ := e
    rw [hk.block g (Array.getElem?_eq_some_iff.1 hh).1 (hd g ⟨_, rfl, rfl⟩)]
    exact hh
theorem Ow.mono {B' : Nat} (h : Ow F E B w a n c xs) (hB : B' ≤ B) : Ow F E B' w a n c xs := by
  refine ⟨h.len, h.room, h.wf, h.row.1, ?_⟩
  rcases h.row.2 with e | ⟨g, cap, cur, e, hb', r⟩
  · exact .inl e
  · exact .inr ⟨g, cap, cur, e, Nat.le_trans hB hb', r⟩
theorem Ow.head (h : Ow F E B w a n c xs) (hn : 0 < n) : ∃ g, a = some ⟨g, 0, none⟩ ∧ B ≤ g ∧ g < w.heap.size := by
  obtain ⟨b, off, rfl, _⟩ := h.rd.at' 0 hn
  rcases h.row.2 with ⟨e, _⟩ | ⟨g, cap, cur, e, hb', hh, r⟩
  · simp at e
  · simp only [Value.slice.injEq, Option.some.injEq, Addr.mk.injEq] at e
    obtain ⟨⟨rfl, rfl, _⟩, _, rfl⟩ := e
    exact ⟨b, rfl, hb', (Array.getElem?_eq_some_iff.1 hh).1⟩
theorem Ow.free {g : Nat} (h : Ow F E B w (some ⟨g, 0, none⟩) n c xs) (k : Nat) : w.frozen? ⟨g, k, none⟩ = false := by
  rcases h.row.2 with ⟨e, _⟩ | ⟨g', cap, cur, e, _, hh, _⟩
  · simp at e
  · simp only [Value.slice.injEq, Option.some.injEq, Addr.mk.injEq] at e
    rw [← e.1.1] at hh
    simp [World.frozen?, hh]
theorem Ow.cell {g : Nat} (h : Ow F E B w (some ⟨g, 0, none⟩) n c xs) {i : Nat} (hi : i < n) {j : Nat} (hj : j < F.sz) : w.cell? ⟨g, i * F.sz + j, none⟩ = (F.enc (xs.getD i F.z))[j]? := by
  obtain ⟨b, off, e, _, hc⟩ := h.rd.at' i hi
  simp only [Option.some.injEq, Addr.mk.injEq] at e
  obtain ⟨rfl, rfl, _⟩ := e
  simpa using hc i hi j hj
/-- a cell of a record is written -/
theorem Ow.setCell {g : Nat} (h : Ow F E B w (some ⟨g, 0, none⟩) n c xs) {i j : Nat} (hi : i < n) (hj : j < F.sz) (v : Value) (y : α) (hy : F.enc y = (F.enc (xs.getD i F.z)).set j v) (hw : F.wf y) : Ow F E B (w.setCell ⟨g, i * F.sz + j, none⟩ v) (some ⟨g, 0, none⟩) n c (xs.set i y) := by
  refine ⟨by rw [List.length_set]; exact h.len, h.room, ?_, ?_⟩
  · intro y' hy'
    rcases List.mem_or_eq_of_mem_set hy' with hy' | rfl
    · exact h.wf y' hy'
    · exact hw
  · have hr := h.row
    obtain ⟨h1, h2⟩ := hr
    refine ⟨by rw [Fl.cells_length] at h1 ⊢; simpa using h1, ?_⟩
    rcases h2 with ⟨e, hn'⟩ | ⟨g', cap, cur, e, hb, hh, hle, hm, hs, ht⟩
    · simp at e
    · simp only [Value.slice.injEq, Option.some.injEq, Addr.mk.injEq] at e
      obtain ⟨⟨rfl, _⟩, _, rfl⟩ := e
      refine .inr ⟨g, c, cur.setIfInBounds (i * F.sz + j) v, rfl, hb, ?_, hle, hm, by simpa using hs, ?_⟩
      · simp only [World.setCell, Array.getElem?_modify, hh]
        simp
      · rw [Array.toList_setIfInBounds, List.take_set, ht, Fl.cells_set xs i j (by rw [h.len]; exact hi) hj v y hy]
theorem Rd.news (h : Rd F w a n c xs) (ad : Addr) (ha : a = some ad) : ∀ j u, (F.cells xs)[j]? = some u → w.cell? (ad.add j) = some u := by
  intro j u hu
  have hj : j < n * F.sz := by
    have := (List.getElem?_eq_some_iff.1 hu).1
    rw [Fl.cells_length, h.len] at this
    exact this
  have hp := F.pos
  have hi : j / F.sz < n := Nat.div_lt_of_lt_mul (by rw [Nat.mul_comm]; exact hj)
  have hm : j % F.sz < F.sz := Nat.mod_lt _ hp
  obtain ⟨b, off, ha', _, hc⟩ := h.at' _ hi
  rw [ha'] at ha
  obtain rfl := Option.some.inj ha
  rw [Addr.add_lit]
  have h1 := hc _ hi _ hm
  have h2 := Fl.cells_at (F := F) xs _ _ (by rw [h.len]; exact hi) hm
  have h3 : j / F.sz * F.sz + j % F.sz = j := by rw [Nat.mul_comm]; exact Nat.div_add_mod j F.sz
  rw [h3] at h1 h2
  rw [h1, ← h2, hu]
end

/-- append of records onto a row of the call's own: the run -/
theorem run_appendR {α : Type} {F : Fl α} {P : Program} (w : World) (t ty E : TypeId) (i : TypeInfo) (z : Value) (bytes : Nat) (ht : P.underlying t = some (.slice E)) (hi : P.info? E = some i) (hz0 : i.zero = some z) (hz1 : i.size = F.sz) (hz2 : i.bytes = bytes) (hzs : z.cells.size = F.sz)
    (B : Nat) (va : Option Addr) (na ca : Nat) (xs : List α) (hown : Ow F E B w va na ca xs) (xa : Option Addr) (m cx : Nat) (ys : List α) (hI : Rd F w xa m cx ys)
    (hroom : (na + m) * F.sz ≤ 17592186044416) (hby : (na + m) * bytes ≤ 140737488355328) (hB : B ≤ w.heap.size) :
    ∃ a' c' w', (Builtin.append_ #[t, t] ty #[.slice va na ca, .slice xa m cx]).run P w = .ok (.slice a' (na + m) c') w' ∧ Ow F E B w' a' (na + m) c' (xs ++ ys) ∧ w.grownBy w' (Value.ownBlock (.slice va na ca)) ∧ ∀ k, blockOf a' k → blockOf va k ∨ k = w.heap.size := by
  have hnm : na + m ≤ 17592186044416 := Nat.le_trans (Nat.le_mul_of_pos_right _ F.pos) hroom
  have hlen : (xs ++ ys).length = na + m := by rw [List.length_append, hown.len, hI.len]
  have hwf : ∀ x ∈ xs ++ ys, F.wf x := fun x hx => (List.mem_append.1 hx).elim (hown.wf x) (hI.wf x)
  cases xa with
  | none =>
    obtain rfl : cx = 0 := hI.nil rfl
    obtain rfl : m = 0 := by have := hI.cap; omega
    have hy : ys = [] := List.eq_nil_of_length_eq_zero hI.len
    subst hy
    have hrun := run_append_owned_none (P := P) w B t ty E i F.sz ht hi _ na (F.cells xs) hown.row
    exact ⟨va, ca, w, by simpa using hrun, by simpa using hown, World.grownBy.refl _ _, fun k hk => .inl hk⟩
  | some ad =>
    obtain ⟨v', w', hr, h2, h3, _, h5⟩ := run_append_own_at (P := P) w B t ty E i z F.sz bytes ht hi hz0 hz1 hz2 hzs F.pos _ na (F.cells xs) hown.row ad m cx (F.cells ys) (by rw [Fl.cells_length, hI.len]) (hI.news ad rfl) (Fl.cells_one ys) (by unfold maxLen; omega) hby hB
    obtain ⟨a', c', rfl⟩ : ∃ a' c', v' = .slice a' (na + m) c' := by
      rcases h2.2 with ⟨rfl, e⟩ | ⟨g, cap, cur, rfl, _⟩
      · rw [e]; exact ⟨_, _, rfl⟩
      · exact ⟨_, _, rfl⟩
    exact ⟨a', c', w', hr, ⟨hlen, hroom, hwf, by rw [Fl.cells_append]; exact h2⟩, h3, fun k hk => by
      have h6 := blockOf_ownBlock (n := na + m) (c := c') hk
      rcases h5 with h5 | h5
      · exact .inl (ownBlock_blockOf (h5.symm.trans h6))
      · exact .inr (Option.some.inj (h6.symm.trans h5))⟩

theorem wp_appendR {α : Type} {F : Fl α} {P : Program} {w : World} {o : Oper} {a : Act} {K : Act → World → Prop} {Q : Exit → Act → World → Prop} (s x : Operand) (t : TypeId)
    (ho : o.op = .call { callee := .builtin .append, args := #[s, x], argTypes := #[t, t] })
    (E : TypeId) (i : TypeInfo) (z : Value) (bytes : Nat) (ht : P.underlying t = some (.slice E)) (hi : P.info? E = some i) (hz0 : i.zero = some z) (hz1 : i.size = F.sz) (hz2 : i.bytes = bytes) (hzs : z.cells.size = F.sz)
    (B : Nat) (va : Option Addr) (na ca : Nat) (xs : List α) (hs : a.eval s = .slice va na ca) (hown : Ow F E B w va na ca xs) (xa : Option Addr) (m cx : Nat) (ys : List α) (hx : a.eval x = .slice xa m cx) (hI : Rd F w xa m cx ys)
    (hroom : (na + m) * F.sz ≤ 17592186044416) (hby : (na + m) * bytes ≤ 140737488355328) (hB : B ≤ w.heap.size)
    (h : ∀ a' c' w', Ow F E B w' a' (na + m) c' (xs ++ ys) → w.grownBy w' (Value.ownBlock (.slice va na ca)) → (∀ k, blockOf a' k → blockOf va k ∨ k = w.heap.size) → K (a.put o.dst (.slice a' (na + m) c')) w') : o.wp P a w K Q := by
  obtain ⟨a', c', w', hr, h2, h3, h4⟩ := run_appendR (P := P) w t o.type E i z bytes ht hi hz0 hz1 hz2 hzs B va na ca xs hown xa m cx ys hI hroom hby hB
  unfold Oper.wp execOp
  simp only [ho, resolve, invoke, builtin, Sem.run_bind, Sem.run_pure, Result.andThen_ok, List.map_toArray, List.map_cons, List.map_nil, hs, hx, hr]
  exact h a' c' w' h2 h3 h4
theorem wpList_appendR {α : Type} {F : Fl α} {P : Program} {w : World} {ops : Array Oper} {rest : List Oper} {o : Oper} {a : Act} {Q : Exit → Act → World → Prop} (hgd : o.guard = none) (s x : Operand) (t : TypeId)
    (ho : o.op = .call { callee := .builtin .append, args := #[s, x], argTypes := #[t, t] })
    (E : TypeId) (i : TypeInfo) (z : Value) (bytes : Nat) (ht : P.underlying t = some (.slice E)) (hi : P.info? E = some i) (hz0 : i.zero = some z) (hz1 : i.size = F.sz) (hz2 : i.bytes = bytes) (hzs : z.cells.size = F.sz)
    (B : Nat) (va : Option Addr) (na ca : Nat) (xs : List α) (hs : a.eval s = .slice va na ca) (hown : Ow F E B w va na ca xs) (xa : Option Addr) (m cx : Nat) (ys : List α) (hx : a.eval x = .slice xa m cx) (hI : Rd F w xa m cx ys)
    (hroom : (na + m) * F.sz ≤ 17592186044416) (hby : (na + m) * bytes ≤ 140737488355328) (hB : B ≤ w.heap.size)
    (h : ∀ a' c' w', Ow F E B w' a' (na + m) c' (xs ++ ys) → w.grownBy w' (Value.ownBlock (.slice va na ca)) → (∀ k, blockOf a' k → blockOf va k ∨ k = w.heap.size) → wpList P ops Q rest (a.put o.dst (.slice a' (na + m) c')) w') : wpList P ops Q (o :: rest) a w :=
  wpList_plain hgd fun _ hK => wp_appendR s x t ho E i z bytes ht hi hz0 hz1 hz2 hzs B va na ca xs hs hown xa m cx ys hx hI hroom hby hB fun a' c' w' h2 h3 h4 => hK _ _ (h a' c' w' h2 h3 h4)

/-- the slice (a, n, c) owns the records xs -/
def owE {α : Type} (F : Fl α) (E : TypeId) (a : Option Addr) (n c : Nat) (xs : List α) : Ent where
  hold B w := Ow F E B w a n c xs
  blk k := blockOf a k
  lt := fun h k hk => ⟨h.from k hk, h.till k hk⟩
  mono := fun h hB => h.mono hB
  keep := fun h hk hd => h.keeps hk hd
section
variable {α : Type} {F : Fl α} {E : TypeId} {B : Nat} {w0 w w' : World} {G G' : List Ent} {a : Option Addr} {n c : Nat} {xs : List α}
theorem Mem.owned (h : Mem B w0 w G) (hb : Below w.heap.size w w') (ho : Ow F E w.heap.size w' a n c xs) : Mem B w0 w' (owE F E a n c xs :: G) :=
  h.new hb _ ho (ho.mono h.size)
theorem Mem.ow (h : Mem B w0 w G) (i : In G (owE F E a n c xs)) : Ow F E B w a n c xs := h.ents _ i.mem
theorem Mem.appendedR {a' : Option Addr} {n' c' : Nat} {ys : List α} (h : Mem B w0 w G) (p : Put G (owE F E a n c xs) (owE F E a' n' c' ys) G')
    (ho : Ow F E B w' a' n' c' ys) (hg : w.grownBy w' (Value.ownBlock (.slice a n c))) (hb : ∀ k, blockOf a' k → blockOf a k ∨ k = w.heap.size) : Mem B w0 w' G' :=
  h.put p ((Keeps.grown hg).mono fun k _ hk => ownBlock_blockOf hk) ho (fun k hk => (hb k hk).elim .inl (fun e => .inr (by omega)))
end
theorem splice_list {β : Type} (A X C Y : List β) {p q : Nat} (hA : A.length = p) (hX : X.length = q) : A ++ (Y ++ C) = (A ++ (X ++ C)).take p ++ Y ++ (A ++ (X ++ C)).drop (p + q) := by
  subst hA hX
  rw [← List.append_assoc A X C, ← List.length_append, List.drop_left, List.append_assoc A X C, List.take_left]
  simp

/-- cells written one behind the other -/
def setRec (w : World) (g : Nat) : Nat → List Value → World
  | _, [] => w
  | o, v :: vs => setRec (w.setCell ⟨g, o, none⟩ v) g (o + 1) vs
theorem setRec_keeps {d : Nat → Prop} (g : Nat) (hd : d g) : ∀ (vs : List Value) (o : Nat) (w : World), Keeps d w (setRec w g o vs)
  | [], _, w => Keeps.refl _ w
  | v :: vs, o, w => (Keeps.setCell (Keeps.refl d w) ⟨g, o, none⟩ hd v).trans (setRec_keeps g hd vs (o + 1) _)
theorem setRec_heap (g : Nat) (T : TypeId) : ∀ (vs : List Value) (o : Nat) (w : World) (cur : Array Value), w.heap[g]? = some (.cells cur T (0, 0)) → o + vs.length ≤ cur.size →
    ∃ cur', (setRec w g o vs).heap[g]? = some (.cells cur' T (0, 0)) ∧ cur'.size = cur.size ∧ cur'.toList = cur.toList.take o ++ vs ++ cur.toList.drop (o + vs.length)
  | [], o, w, cur, h, hl => ⟨cur, h, rfl, by simp⟩
  | v :: vs, o, w, cur, h, hl => by
    have h1 : (w.setCell ⟨g, o, none⟩ v).heap[g]? = some (.cells (cur.setIfInBounds o v) T (0, 0)) := by
      simp only [World.setCell, Array.getElem?_modify, h]
      simp
    simp only [List.length_cons] at hl
    obtain ⟨cur', h2, h3, h4⟩ := setRec_heap g T vs (o + 1) (w.setCell ⟨g, o, none⟩ v) _ h1 (by simp; omega)
    refine ⟨cur', h2, by rw [h3]; simp, ?_⟩
    rw [h4]
    have ho : o < cur.toList.length := by simp; omega
    have e1 : (cur.setIfInBounds o v).toList = cur.toList.take o ++ v :: cur.toList.drop (o + 1) := by
      rw [Array.toList_setIfInBounds, List.set_eq_take_append_cons_drop, if_pos ho]
    have hto : (cur.toList.take o).length = o := by rw [List.length_take]; omega
    rw [e1]
    have e2 : List.take (o + 1) (cur.toList.take o ++ v :: cur.toList.drop (o + 1)) = cur.toList.take o ++ [v] := by
      rw [List.take_append, hto, List.take_of_length_le (by omega), show o + 1 - o = 1 by omega]
      rfl
    have e3 : List.drop (o + 1 + vs.length) (cur.toList.take o ++ v :: cur.toList.drop (o + 1)) = cur.toList.drop (o + (vs.length + 1)) := by
      rw [List.drop_append, hto, List.drop_of_length_le (by omega), List.nil_append, show o + 1 + vs.length - o = vs.length + 1 by omega, List.drop_succ_cons, List.drop_drop]
      congr 1
      omega
    rw [e2, e3]
    simp
theorem Ow.putRec {α : Type} {F : Fl α} {E : TypeId} {B : Nat} {w : World} {g n c : Nat} {xs : List α} (h : Ow F E B w (some ⟨g, 0, none⟩) n c xs) {i : Nat} (hi : i < n) (y : α) (hw : F.wf y) :
    Ow F E B (setRec w g (i * F.sz) (F.enc y)) (some ⟨g, 0, none⟩) n c (xs.set i y) := by
  refine ⟨by rw [List.length_set]; exact h.len, h.room, ?_, ?_⟩
  · intro y' hy'
    rcases List.mem_or_eq_of_mem_set hy' with hy' | rfl
    · exact h.wf y' hy'
    · exact hw
  · have hr := h.row
    obtain ⟨h1, h2⟩ := hr
    refine ⟨by rw [Fl.cells_length] at h1 ⊢; simpa using h1, ?_⟩
    rcases h2 with ⟨e, hn'⟩ | ⟨g', cap, cur, e, hb, hh, hle, hm, hs, ht⟩
    · simp at e
    · simp only [Value.slice.injEq, Option.some.injEq, Addr.mk.injEq] at e
      obtain ⟨⟨rfl, _⟩, _, rfl⟩ := e
      have hin : (i + 1) * F.sz ≤ n * F.sz := Nat.mul_le_mul_right _ hi
      have hnc : n * F.sz ≤ c * F.sz := Nat.mul_le_mul_right _ hle
      rw [Nat.succ_mul] at hin
      obtain ⟨cur', a1, a2, a3⟩ := setRec_heap g E (F.enc y) (i * F.sz) w cur hh (by rw [F.len]; omega)
      refine .inr ⟨g, c, cur', rfl, hb, a1, hle, hm, by omega, ?_⟩
      have hcl : (F.cells xs).length = n * F.sz := by rw [Fl.cells_length, h.len]
      have e1 : cur.toList = F.cells xs ++ cur.toList.drop (n * F.sz) := by rw [← ht, List.take_append_drop]
      have e2 : F.cells (xs.set i y) = (F.cells xs).take (i * F.sz) ++ F.enc y ++ (F.cells xs).drop (i * F.sz + F.sz) := by
        have hxi : i < xs.length := by rw [h.len]; exact hi
        have e3 : xs = xs.take i ++ xs.getD i F.z :: xs.drop (i + 1) := by
          rw [List.getD_eq_getElem?_getD, List.getElem?_eq_getElem hxi, Option.getD_some]
          simp
        have e4 : xs.set i y = xs.take i ++ y :: xs.drop (i + 1) := by rw [List.set_eq_take_append_cons_drop, if_pos hxi]
        have l1 : (F.cells (xs.take i)).length = i * F.sz := by rw [Fl.cells_length, List.length_take, Nat.min_eq_left (by omega)]
        have c1 : ∀ (z : α) (l : List α), F.cells (z :: l) = F.enc z ++ F.cells l := fun z l => by simp [Fl.cells]
        have c2 : F.cells xs = F.cells (xs.take i) ++ (F.enc (xs.getD i F.z) ++ F.cells (xs.drop (i + 1))) := by
          rw [← c1, ← Fl.cells_append, ← e3]
        rw [e4, Fl.cells_append, c1, c2]
        exact splice_list _ _ _ _ l1 (F.len _)
      rw [a3, F.len, e2, e1]
      rw [List.take_append_of_le_length (l₁ := F.cells xs) (by omega), List.drop_append_of_le_length (l₁ := F.cells xs) (by omega)]
      rw [← List.append_assoc, List.take_append_of_le_length (by simp only [List.length_append, List.length_take, List.length_drop, F.len]; omega)]
      exact List.take_of_length_le (by simp only [List.length_append, List.length_take, List.length_drop, F.len]; omega)
/-- records just made -/
theorem ow_made {α : Type} {F : Fl α} {E : TypeId} {B : Nat} {w : World} {g n : Nat} {zs : Array Value} (hz : zs.toList = F.enc F.z) (h : w.ownsRow B E F.sz (.slice (some ⟨g, 0, none⟩) n n) n (madeCells zs (n * F.sz)).toList) (hn : n * F.sz ≤ 17592186044416) (hw : F.wf F.z) : Ow F E B w (some ⟨g, 0, none⟩) n n (List.replicate n F.z) := by
  refine ⟨by simp, hn, ?_, ?_⟩
  · intro x hx
    rw [(List.mem_replicate.1 hx).2]
    exact hw
  · have hzs : zs.size = F.sz := by rw [← F.len F.z, ← hz]; simp
    have e : (madeCells zs (n * F.sz)).toList = F.cells (List.replicate n F.z) := by
      apply List.ext_getElem?
      intro i
      have hl : (F.cells (List.replicate n F.z)).length = n * F.sz := by rw [Fl.cells_length]; simp
      by_cases hi : i < n * F.sz
      · have hp := F.pos
        have hq : i / F.sz < n := Nat.div_lt_of_lt_mul (by rw [Nat.mul_comm]; exact hi)
        have hm : i % F.sz < F.sz := Nat.mod_lt _ hp
        have h1 := Fl.cells_at (F := F) (List.replicate n F.z) _ _ (by simpa using hq) hm
        rw [show i / F.sz * F.sz + i % F.sz = i by rw [Nat.mul_comm]; exact Nat.div_add_mod i F.sz] at h1
        rw [h1]
        have h2 : (List.replicate n F.z).getD (i / F.sz) F.z = F.z := by simp [List.getD, hq]
        rw [h2, ← hz]
        simp [madeCells, hzs, hi, hm]
      · rw [List.getElem?_eq_none (by simp [madeCells]; omega), List.getElem?_eq_none (by rw [hl]; omega)]
    rw [e] at h
    exact h
theorem Put.mem' {G G' : List Ent} {e e' : Ent} (p : Put G e e' G') : In G e := p.mem
theorem take_succV {α : Type} {xs : List α} {z : α} {k : Nat} (hk : k < xs.length) : xs.take (k + 1) = xs.take k ++ [xs.getD k z] := by
  rw [List.take_succ_eq_append_getElem hk]
  simp [List.getD, hk]
theorem set_take_repV {α : Type} {xs : List α} {z x : α} {k n : Nat} (hk : k < xs.length) (hkn : k < n) (hx : xs.getD k z = x) : (xs.take k ++ List.replicate (n - k) z).set k x = xs.take (k + 1) ++ List.replicate (n - (k + 1)) z := by
  rw [take_succV hk (z := z), hx]
  have hl : (xs.take k).length = k := by rw [List.length_take]; omega
  rw [List.set_append_right _ _ (by omega), hl, Nat.sub_self]
  cases hm : n - k with
  | zero => omega
  | succ m =>
    have : n - (k + 1) = m := by omega
    rw [this]
    simp [List.replicate_succ]
section
variable {P : Program} {ops : Array Oper} {Q : Exit → Act → World → Prop} {B : Nat} {w0 w : World} {G G' : List Ent}
theorem AtT.startM {id : Nat} {a : Act} (hM : Mem B w0 w G) (t : Nat) (hm : P.follows .mixedOrders = true) (h : AtT P .any ops Q (fun w1 => Mem B w0 w1 G) t ops.size (Array.replicate ops.size false) a w.drew) : (Code.region id ops true).wp P Q a w :=
  AtT.start t hm h
theorem AtT.startA {G' : List Ent} {id : Nat} {a : Act} (hS : Mem B w0 w G') (hM : Mem B w0 w G) (t : Nat) (hm : P.follows .mixedOrders = true) (h : ∀ wd, Mem B w0 wd G → AtT P .any ops Q (fun w1 => Mem B w0 w1 G') t ops.size (Array.replicate ops.size false) a wd) : (Code.region id ops true).wp P Q a w :=
  AtT.startM hS t hm (h _ hM.drew)
theorem Mem.atT {md : Region.Mode} {S : World → Prop} {t f : Nat} {l : Array Bool} {a : Act} (h : Mem B w0 w G) (k : Mem B w0 w G → AtT P md ops Q S t f l a w) : AtT P md ops Q S t f l a w := k h

theorem apart_get (h : G.Pairwise fun e e' => ∀ k, e.blk k → ¬ e'.blk k) {i j : Nat} {x y : Ent} (hx : G[i]? = some x) (hy : G[j]? = some y) (hij : i ≠ j) : ∀ k, x.blk k → ¬ y.blk k := by
  obtain ⟨hi, rfl⟩ := List.getElem?_eq_some_iff.1 hx
  obtain ⟨hj, rfl⟩ := List.getElem?_eq_some_iff.1 hy
  rw [List.pairwise_iff_getElem] at h
  rcases Nat.lt_or_gt_of_ne hij with hl | hl
  · exact h i j hi hj hl
  · exact fun k h1 h2 => h j i hj hi hl k h2 h1
/-- entries picked by their places -/
theorem Mem.pick {is : List Nat} (h : Mem B w0 w G) (hn : is.Nodup) (hG : G' = is.filterMap (G[·]?)) : Mem B w0 w G' := by
  subst hG
  refine ⟨h.below, h.size, fun e he => ?_, ?_⟩
  · obtain ⟨i, _, hi⟩ := List.mem_filterMap.1 he
    exact h.ents e (List.mem_of_getElem? hi)
  · induction is with
    | nil => exact List.Pairwise.nil
    | cons i is ih =>
      obtain ⟨h1, h2⟩ := List.nodup_cons.1 hn
      rw [List.filterMap_cons]
      split
      · exact ih h2
      · rename_i x hx
        refine List.pairwise_cons.2 ⟨fun y hy => ?_, ih h2⟩
        obtain ⟨j, hj, hjy⟩ := List.mem_filterMap.1 hy
        exact apart_get h.apart hx hjy (fun e => h1 (e ▸ hj))
end
end Go.Proofs.YtpflnmejbialjaaGreatDoor
