/- Lemmas. -/
import Derived.WalkKit
import Derived.Lib.Hide
import Derived.WalkSpells
import Derived.Deep.Draws
import Derived.Maps.AppendAt
namespace Go.Proofs.YtpflnmejbialjaaGreatDoor
set_option linter.unusedSimpArgs false
set_option linter.unusedVariables false
open Go.RowKit

/-- an int64 -/
def I64 (x : Int) : Prop := -9223372036854775808 ≤ x ∧ x ≤ 9223372036854775807

/-- the slice value (a, n, c) reads as xs -/
structure Ints (w : World) (a : Option Addr) (n c : Nat) (xs : List Int) : Prop where
  len : xs.length = n
  cap : n ≤ c
  capm : c ≤ maxLen
  nil : a = none → c = 0
  room : n ≤ 17592186044416
  wf : ∀ x ∈ xs, I64 x
  at' : ∀ k, k < n → ∃ b off, a = some ⟨b, off, none⟩ ∧ b < w.heap.size ∧ ∀ i, i < n → w.cell? ⟨b, off + i, none⟩ = some (.int .i64 (xs.getD i 0))

theorem Ints.below {w w' : World} {a : Option Addr} {n c : Nat} {xs : List Int} (h : Ints w a n c xs) (hb : Below w.heap.size w w') : Ints w' a n c xs :=
  ⟨h.len, h.cap, h.capm, h.nil, h.room, h.wf, fun k hk => by
    obtain ⟨b, off, ha, hlt, hc⟩ := h.at' k hk
    exact ⟨b, off, ha, Nat.lt_of_lt_of_le hlt hb.size, fun i hi => by rw [← hc i hi]; exact hb.cell (p := ⟨b, off + i, none⟩) hlt⟩⟩

theorem Ints.get {w : World} {b off : Nat} {n c : Nat} {xs : List Int} (h : Ints w (some ⟨b, off, none⟩) n c xs) {k : Nat} (hk : k < n) : w.cell? ⟨b, off + k, none⟩ = some (.int .i64 (xs.getD k 0)) := by
  obtain ⟨b', off', e, _, hc⟩ := h.at' k hk
  injection e with e
  injection e with e1 e2
  subst e1 e2
  exact hc k hk

theorem ri {k : IntKind} {a b : Int} (h : a = b) : Ending.returned (.int k a) = .returned (.int k b) := by rw [h]
theorem rb {a b : Bool} (h : a = b) : Ending.returned (.bool a) = .returned (.bool b) := by rw [h]

def inB (n lo hi : Int) : Bool := decide (lo ≤ n ∧ n ≤ hi)
theorem inB_true {n lo hi : Int} (h : inB n lo hi = true) : lo ≤ n ∧ n ≤ hi := by simpa [inB] using h
/-- a grid of such numbers -/
def goodB (m W H : Int) (xs : List Int) : Bool := inB W 1 5 && inB H 1 5 && decide ((xs.length : Int) = W * H) && xs.all fun x => inB x 0 m

theorem side_bound {W H : Int} (w1 : 1 ≤ W) (w2 : W ≤ 5) (h1 : 1 ≤ H) (h2 : H ≤ 5) : 0 ≤ W * H ∧ W * H ≤ 25 := by
  obtain ⟨a, rfl⟩ := Int.eq_ofNat_of_zero_le (show 0 ≤ W by omega)
  obtain ⟨b, rfl⟩ := Int.eq_ofNat_of_zero_le (show 0 ≤ H by omega)
  have ha : a ≤ 5 := by omega
  have hb : b ≤ 5 := by omega
  have := Nat.mul_le_mul ha hb
  constructor <;> norm_cast
  exact Nat.zero_le _

theorem all_take_succ {p : Int → Bool} {xs : List Int} {k : Nat} (hk : k < xs.length) : (xs.take (k + 1)).all p = ((xs.take k).all p && p (xs.getD k 0)) := by
  rw [List.take_succ_eq_append_getElem hk, List.all_append]
  simp [List.getD, hk]

theorem all_false_of {p : Int → Bool} {xs : List Int} {k : Nat} (hk : k < xs.length) (h : p (xs.getD k 0) = false) : xs.all p = false := by
  rw [List.all_eq_false]
  exact ⟨xs[k], List.getElem_mem hk, by simpa [List.getD, hk] using h⟩

theorem any_take_succ {p : Int → Bool} {xs : List Int} {k : Nat} (hk : k < xs.length) : (xs.take (k + 1)).any p = ((xs.take k).any p || p (xs.getD k 0)) := by
  rw [List.take_succ_eq_append_getElem hk, List.any_append]
  simp [List.getD, hk]

theorem getD_mem {xs : List Int} {k : Nat} (hk : k < xs.length) : xs.getD k 0 ∈ xs := by
  simp [List.getD, hk]

/-- the first place where p holds, or -1 -/
def firstI (p : Int → Bool) (xs : List Int) : Int := if xs.any p then (xs.findIdx p : Nat) else -1

theorem firstI_none {p : Int → Bool} {xs : List Int} (h : xs.any p = false) : firstI p xs = -1 := by simp [firstI, h]

theorem firstI_at {p : Int → Bool} {xs : List Int} {k : Nat} (hk : k < xs.length) (h : (xs.take k).any p = false) (hp : p (xs.getD k 0) = true) : firstI p xs = k := by
  have hx : xs[k] = xs.getD k 0 := by simp [List.getD, hk]
  have h1 : xs.any p = true := List.any_eq_true.2 ⟨xs[k], List.getElem_mem hk, by rw [hx]; exact hp⟩
  have h2 : xs.findIdx p = k := by
    rw [List.findIdx_eq hk]
    refine ⟨by rw [hx]; exact hp, fun j hj => ?_⟩
    rw [List.any_eq_false] at h
    have := h (xs[j]'(by omega)) (by
      rw [List.mem_take_iff_getElem]
      exact ⟨j, by omega, rfl⟩)
    simpa using this
  simp [firstI, h1, h2]

theorem firstI_sign (p : Int → Bool) (xs : List Int) : decide (0 ≤ firstI p xs) = xs.any p := by
  unfold firstI
  cases h : xs.any p
  · simp
  · simp

theorem any_not (p : Int → Bool) (xs : List Int) : xs.any (fun x => !p x) = !xs.all p := by
  induction xs with
  | nil => rfl
  | cons x xs ih => simp [ih]

/-- the cells of a row of ints -/
def cellsI (xs : List Int) : List Value := xs.map (Value.int .i64)

theorem cellsI_length (xs : List Int) : (cellsI xs).length = xs.length := by simp [cellsI]
theorem cellsI_append (xs ys : List Int) : cellsI (xs ++ ys) = cellsI xs ++ cellsI ys := by simp [cellsI]
theorem cellsI_get (xs : List Int) (j : Nat) (u : Value) (h : (cellsI xs)[j]? = some u) : j < xs.length ∧ u = .int .i64 (xs.getD j 0) := by
  simp only [cellsI, List.getElem?_map, Option.map_eq_some_iff] at h
  obtain ⟨x, hx, rfl⟩ := h
  have hj := (List.getElem?_eq_some_iff.1 hx).1
  exact ⟨hj, by simp [List.getD, hx]⟩
theorem cellsI_one (xs : List Int) : ∀ u ∈ cellsI xs, u.oneCell' = true := by
  intro u hu
  obtain ⟨_, _, rfl⟩ := List.mem_map.1 hu
  rfl

/-- the slice value (a, n, c) owns a row of ints from block B on -/
structure Own (B : Nat) (w : World) (a : Option Addr) (n c : Nat) (xs : List Int) : Prop where
  len : xs.length = n
  room : n ≤ 17592186044416
  wf : ∀ x ∈ xs, I64 x
  row : w.ownsRow B 3 1 (.slice a n c) n (cellsI xs)

theorem Own.ints {B : Nat} {w : World} {a : Option Addr} {n c : Nat} {xs : List Int} (h : Own B w a n c xs) : Ints w a n c xs := by
  have hr := h.row
  obtain ⟨h1, h2⟩ := hr
  have hcap : n ≤ c ∧ c ≤ maxLen := by
    rcases h2 with ⟨e, hn⟩ | ⟨g, cap, cur, e, hb, hh, hle, hm, hs, ht⟩
    · simp only [Value.slice.injEq] at e
      omega
    · simp only [Value.slice.injEq] at e
      omega
  refine ⟨h.len, hcap.1, hcap.2, ?_, h.room, h.wf, fun k hk => ?_⟩
  · rintro rfl
    rcases h2 with ⟨e, hn⟩ | ⟨g, cap, cur, e, _⟩
    · simp only [Value.slice.injEq] at e
      omega
    · simp at e
  rcases h2 with ⟨e, hn⟩ | ⟨g, cap, cur, e, hb, hh, hle, hm, hs, ht⟩
  · omega
  · simp only [Value.slice.injEq] at e
    obtain ⟨rfl, _, rfl⟩ := e
    refine ⟨g, 0, rfl, (Array.getElem?_eq_some_iff.1 hh).1, fun i hi => ?_⟩
    have hc := h.row.cells (g := g) rfl i (.int .i64 (xs.getD i 0)) (by
      have := h.len
      simp [cellsI, List.getD, show i < xs.length by omega])
    rw [Addr.add_lit] at hc
    exact hc

/-- where the owned row lies -/
theorem Own.where {B : Nat} {w : World} {a : Option Addr} {n c : Nat} {xs : List Int} (h : Own B w a n c xs) : ∀ ad, a = some ad → B ≤ ad.block ∧ ad.block < w.heap.size := by
  rintro ad rfl
  exact h.row.lt ad.block rfl

theorem Own.below {B B' : Nat} {w w' : World} {a : Option Addr} {n c : Nat} {xs : List Int} (h : Own B w a n c xs) (hb : Below B' w w') (hB : ∀ ad, a = some ad → ad.block < B') : Own B w' a n c xs := by
  refine ⟨h.len, h.room, h.wf, h.row.1, ?_⟩
  rcases h.row.2 with e | ⟨g, cap, cur, e, hb', hh, r⟩
  · exact .inl e
  · refine .inr ⟨g, cap, cur, e, hb', ?_, r⟩
    simp only [Value.slice.injEq] at e
    obtain ⟨rfl, _, rfl⟩ := e
    rw [hb.block g (hB _ rfl)]
    exact hh

theorem Own.mono {B B' : Nat} {w : World} {a : Option Addr} {n c : Nat} {xs : List Int} (h : Own B w a n c xs) (hB : B' ≤ B) : Own B' w a n c xs := by
  refine ⟨h.len, h.room, h.wf, h.row.1, ?_⟩
  rcases h.row.2 with e | ⟨g, cap, cur, e, hb', r⟩
  · exact .inl e
  · exact .inr ⟨g, cap, cur, e, Nat.le_trans hB hb', r⟩

/-- the cells that a slice reads, as append wants them -/
theorem Ints.news {w : World} {a : Option Addr} {n c : Nat} {xs : List Int} (h : Ints w a n c xs) (ad : Addr) (ha : a = some ad) : ∀ j u, (cellsI xs)[j]? = some u → w.cell? (ad.add j) = some u := by
  intro j u hu
  obtain ⟨hj, rfl⟩ := cellsI_get xs j u hu
  have hl := h.len
  obtain ⟨b, off, ha', _, hc⟩ := h.at' j (by omega)
  rw [ha'] at ha
  obtain rfl := Option.some.inj ha
  rw [Addr.add_lit]
  exact hc j (by omega)

theorem Ints.lt {w : World} {b off : Nat} {n c : Nat} {xs : List Int} (h : Ints w (some ⟨b, off, none⟩) n c xs) (hn : 0 < n) : b < w.heap.size := by
  obtain ⟨b', off', e, hlt, _⟩ := h.at' 0 hn
  simp only [Option.some.injEq, Addr.mk.injEq] at e
  rw [e.1]
  exact hlt
theorem Ints.alloc {w : World} {a : Option Addr} {n c : Nat} {xs : List Int} (h : Ints w a n c xs) (o : Obj) : Ints (w.alloc o) a n c xs :=
  h.below ((Below.refl _ _).alloc (Nat.le_refl _) _)

/-- one number in a new block -/
theorem Ints.one (w : World) (x : Int) (E : TypeId) (hx : I64 x) : Ints (w.alloc (.cells #[.int .i64 x] E)) (some ⟨w.heap.size, 0, none⟩) 1 1 [x] :=
  ⟨rfl, Nat.le_refl _, by unfold maxLen; omega, by simp, by omega, by simpa using hx, fun k hk => ⟨w.heap.size, 0, rfl, by simp, fun i hi => by
    obtain rfl : i = 0 := by omega
    exact cell_one_new w (.int .i64 x) E 0 _ rfl⟩⟩

/-- the block of an address -/
def blockOf (a : Option Addr) (k : Nat) : Prop := ∃ ad, a = some ad ∧ k = ad.block
theorem ownBlock_blockOf {a : Option Addr} {n c k : Nat} (h : Value.ownBlock (.slice a n c) = some k) : blockOf a k := by
  cases a with
  | none => simp [Value.ownBlock] at h
  | some ad => exact ⟨ad, rfl, by simpa [Value.ownBlock] using h.symm⟩
theorem blockOf_ownBlock {a : Option Addr} {n c k : Nat} (h : blockOf a k) : Value.ownBlock (.slice a n c) = some k := by
  obtain ⟨ad, rfl, rfl⟩ := h
  rfl

/-- append of ints onto a row of the call's own: the run -/
theorem run_appendI {P : Program} (w : World) (t ty E : TypeId) (i : TypeInfo) (ht : P.underlying t = some (.slice E)) (hi : P.info? E = some i) (hz0 : i.zero = some (.int .i64 0)) (hz1 : i.size = 1) (hz2 : i.bytes = 8)
    (B : Nat) (va : Option Addr) (na ca : Nat) (xs : List Int) (hown : w.ownsRow B E 1 (.slice va na ca) na (cellsI xs)) (xa : Option Addr) (m cx : Nat) (ys : List Int) (hI : Ints w xa m cx ys)
    (hroom : na + m ≤ 17592186044416) (hB : B ≤ w.heap.size) :
    ∃ a' c' w', (Builtin.append_ #[t, t] ty #[.slice va na ca, .slice xa m cx]).run P w = .ok (.slice a' (na + m) c') w' ∧ w'.ownsRow B E 1 (.slice a' (na + m) c') (na + m) (cellsI (xs ++ ys)) ∧ w.grownBy w' (Value.ownBlock (.slice va na ca)) ∧ ∀ k, blockOf a' k → blockOf va k ∨ k = w.heap.size := by
  cases xa with
  | none =>
    obtain rfl : cx = 0 := hI.nil rfl
    obtain rfl : m = 0 := by have := hI.cap; omega
    have hy : ys = [] := List.eq_nil_of_length_eq_zero hI.len
    subst hy
    have hrun := run_append_owned_none (P := P) (w := w) B t ty E i 1 ht hi _ na (cellsI xs) hown
    exact ⟨va, ca, w, by simpa using hrun, by simpa using hown, World.grownBy.refl _ _, fun k hk => .inl hk⟩
  | some ad =>
    obtain ⟨v', w', hr, h2, h3, _, h5⟩ := run_append_own_at (P := P) w B t ty E i _ 1 8 ht hi hz0 hz1 hz2 rfl (by decide) _ na (cellsI xs) hown ad m cx (cellsI ys) (by rw [cellsI_length, hI.len]; omega) (hI.news ad rfl) (cellsI_one ys) (by unfold maxLen; omega) (by omega) hB
    obtain ⟨a', c', rfl⟩ : ∃ a' c', v' = .slice a' (na + m) c' := by
      rcases h2.2 with ⟨rfl, e⟩ | ⟨g, cap, cur, rfl, _⟩
      · rw [e]; exact ⟨_, _, rfl⟩
      · exact ⟨_, _, rfl⟩
    exact ⟨a', c', w', hr, by rw [cellsI_append]; exact h2, h3, fun k hk => by
      have h6 := blockOf_ownBlock (n := na + m) (c := c') hk
      rcases h5 with h5 | h5
      · exact .inl (ownBlock_blockOf (h5.symm.trans h6))
      · exact .inr (Option.some.inj (h6.symm.trans h5))⟩

theorem wp_appendI {P : Program} {w : World} {o : Oper} {a : Act} {K : Act → World → Prop} {Q : Exit → Act → World → Prop} (s x : Operand) (t : TypeId)
    (ho : o.op = .call { callee := .builtin .append, args := #[s, x], argTypes := #[t, t] })
    (E : TypeId) (i : TypeInfo) (ht : P.underlying t = some (.slice E)) (hi : P.info? E = some i) (hz0 : i.zero = some (.int .i64 0)) (hz1 : i.size = 1) (hz2 : i.bytes = 8)
    (B : Nat) (va : Option Addr) (na ca : Nat) (xs : List Int) (hs : a.eval s = .slice va na ca) (hown : w.ownsRow B E 1 (.slice va na ca) na (cellsI xs)) (xa : Option Addr) (m cx : Nat) (ys : List Int) (hx : a.eval x = .slice xa m cx) (hI : Ints w xa m cx ys)
    (hroom : na + m ≤ 17592186044416) (hB : B ≤ w.heap.size)
    (h : ∀ a' c' w', w'.ownsRow B E 1 (.slice a' (na + m) c') (na + m) (cellsI (xs ++ ys)) → w.grownBy w' (Value.ownBlock (.slice va na ca)) → (∀ k, blockOf a' k → blockOf va k ∨ k = w.heap.size) → K (a.put o.dst (.slice a' (na + m) c')) w') : o.wp P a w K Q := by
  obtain ⟨a', c', w', hr, h2, h3, h4⟩ := run_appendI (P := P) w t o.type E i ht hi hz0 hz1 hz2 B va na ca xs hown xa m cx ys hI hroom hB
  unfold Oper.wp execOp
  simp only [ho, resolve, invoke, builtin, Sem.run_bind, Sem.run_pure, Result.andThen_ok, List.map_toArray, List.map_cons, List.map_nil, hs, hx, hr]
  exact h a' c' w' h2 h3 h4

theorem wpList_appendI {P : Program} {w : World} {ops : Array Oper} {rest : List Oper} {o : Oper} {a : Act} {Q : Exit → Act → World → Prop} (hgd : o.guard = none) (s x : Operand) (t : TypeId)
    (ho : o.op = .call { callee := .builtin .append, args := #[s, x], argTypes := #[t, t] })
    (E : TypeId) (i : TypeInfo) (ht : P.underlying t = some (.slice E)) (hi : P.info? E = some i) (hz0 : i.zero = some (.int .i64 0)) (hz1 : i.size = 1) (hz2 : i.bytes = 8)
    (B : Nat) (va : Option Addr) (na ca : Nat) (xs : List Int) (hs : a.eval s = .slice va na ca) (hown : w.ownsRow B E 1 (.slice va na ca) na (cellsI xs)) (xa : Option Addr) (m cx : Nat) (ys : List Int) (hx : a.eval x = .slice xa m cx) (hI : Ints w xa m cx ys)
    (hroom : na + m ≤ 17592186044416) (hB : B ≤ w.heap.size)
    (h : ∀ a' c' w', w'.ownsRow B E 1 (.slice a' (na + m) c') (na + m) (cellsI (xs ++ ys)) → w.grownBy w' (Value.ownBlock (.slice va na ca)) → (∀ k, blockOf a' k → blockOf va k ∨ k = w.heap.size) → wpList P ops Q rest (a.put o.dst (.slice a' (na + m) c')) w') : wpList P ops Q (o :: rest) a w :=
  wpList_plain hgd fun _ hK => wp_appendI s x t ho E i ht hi hz0 hz1 hz2 B va na ca xs hs hown xa m cx ys hx hI hroom hB fun a' c' w' h2 h3 h4 => hK _ _ (h a' c' w' h2 h3 h4)

theorem Ints.drew {w : World} {a : Option Addr} {n c : Nat} {xs : List Int} (h : Ints w a n c xs) : Ints w.drew a n c xs := h.below (Below.refl _ _).drew

theorem keepRow {W w1 : World} {b : Nat} {cs : Array Value} (hb : Below W.heap.size W w1) (hlt : b < W.heap.size) (h : ∀ o, W.cell? ⟨b, o, none⟩ = cs[o]?) : ∀ o, w1.cell? ⟨b, o, none⟩ = cs[o]? :=
  fun o => (hb.cell (p := ⟨b, o, none⟩) hlt).trans (h o)
theorem keepFree {W w1 : World} {b : Nat} (hb : Below W.heap.size W w1) (hlt : b < W.heap.size) (h : ∀ o, W.frozen? ⟨b, o, none⟩ = false) : ∀ o, w1.frozen? ⟨b, o, none⟩ = false :=
  fun o => (hb.frozen (p := ⟨b, o, none⟩) hlt).trans (h o)
theorem newRow (w : World) (B : Nat) (hB : B = w.heap.size) (cs : Array Value) (T : TypeId) : ∀ o, (w.alloc (.cells cs T)).cell? ⟨B, o, none⟩ = cs[o]? := by
  subst hB
  intro o
  have h := heap_alloc_new w (.cells cs T)
  simp only [World.cell?, h]
  rfl
theorem newFree (w : World) (B : Nat) (hB : B = w.heap.size) (cs : Array Value) (T : TypeId) : ∀ o, (w.alloc (.cells cs T)).frozen? ⟨B, o, none⟩ = false := by
  subst hB
  intro o
  have h := heap_alloc_new w (.cells cs T)
  simp only [World.frozen?, h]
  simp

theorem Own.head {B : Nat} {w : World} {a : Option Addr} {n c : Nat} {xs : List Int} (h : Own B w a n c xs) (hn : 0 < n) : ∃ g, a = some ⟨g, 0, none⟩ ∧ B ≤ g ∧ g < w.heap.size ∧
    (∀ i, i < n → w.cell? ⟨g, i, none⟩ = some (.int .i64 (xs.getD i 0))) ∧ ∀ i, w.frozen? ⟨g, i, none⟩ = false := by
  have hr := h.row
  obtain ⟨h1, h2⟩ := hr
  rcases h2 with ⟨e, hn'⟩ | ⟨g, cap, cur, e, hb, hh, hle, hm, hs, ht⟩
  · omega
  · simp only [Value.slice.injEq] at e
    obtain ⟨rfl, _, rfl⟩ := e
    refine ⟨g, rfl, hb, (Array.getElem?_eq_some_iff.1 hh).1, fun i hi => ?_, fun i => ?_⟩
    · obtain ⟨b, off, he, _, hc⟩ := h.ints.at' i hi
      simp only [Option.some.injEq, Addr.mk.injEq] at he
      obtain ⟨rfl, rfl, _⟩ := he
      have := hc i hi
      simpa using this
    · simp [World.frozen?, hh]

/-- one number of an owned row is written -/
theorem Own.set {B : Nat} {w : World} {g n c : Nat} {xs : List Int} (h : Own B w (some ⟨g, 0, none⟩) n c xs) (k : Nat) (x : Int) (hx : I64 x) : Own B (w.setCell ⟨g, k, none⟩ (.int .i64 x)) (some ⟨g, 0, none⟩) n c (xs.set k x) := by
  refine ⟨by rw [List.length_set]; exact h.len, h.room, ?_, ?_⟩
  · intro y hy
    rcases List.mem_or_eq_of_mem_set hy with hy | rfl
    · exact h.wf y hy
    · exact hx
  · have hr := h.row
    obtain ⟨h1, h2⟩ := hr
    refine ⟨by simpa [cellsI] using h1, ?_⟩
    rcases h2 with ⟨e, hn'⟩ | ⟨g', cap, cur, e, hb, hh, hle, hm, hs, ht⟩
    · simp at e
    · simp only [Value.slice.injEq, Option.some.injEq, Addr.mk.injEq] at e
      obtain ⟨⟨rfl, _⟩, _, rfl⟩ := e
      refine .inr ⟨g, c, cur.setIfInBounds k (.int .i64 x), rfl, hb, ?_, hle, hm, by simpa using hs, ?_⟩
      · simp only [World.setCell, Array.getElem?_modify, hh]
        simp
      · simp only [Array.toList_setIfInBounds, List.take_set, ht]
        simp [cellsI]

/-- a row of numbers just made -/
theorem own_made {B : Nat} {w : World} {g n : Nat} (h : w.ownsRow B 3 1 (.slice (some ⟨g, 0, none⟩) n n) n (madeCells #[Value.int .i64 0] n).toList) (hn : n ≤ 17592186044416) : Own B w (some ⟨g, 0, none⟩) n n (List.replicate n 0) := by
  refine ⟨by simp, hn, ?_, ?_⟩
  · intro x hx
    rw [(List.mem_replicate.1 hx).2]
    unfold I64; omega
  · have e : (madeCells #[Value.int .i64 0] n).toList = cellsI (List.replicate n 0) := by
      apply List.ext_getElem?
      intro i
      by_cases hi : i < n
      · simp [madeCells, cellsI, hi, Nat.mod_one]
      · simp [madeCells, cellsI, hi]
    rw [e] at h
    exact h

theorem bdrewN {B : Nat} {a w : World} (h : Below B a w) (n : Nat) : Below B a (w.drewN n) := ⟨h.os, h.tape, h.output, h.size, h.block⟩

theorem take_succ' {xs : List Int} {k : Nat} (hk : k < xs.length) : xs.take (k + 1) = xs.take k ++ [xs.getD k 0] := by
  rw [List.take_succ_eq_append_getElem hk]
  simp [List.getD, hk]

theorem set_take_rep {xs : List Int} {k n : Nat} {x : Int} (hk : k < xs.length) (hkn : k < n) (hx : xs.getD k 0 = x) : (xs.take k ++ List.replicate (n - k) 0).set k x = xs.take (k + 1) ++ List.replicate (n - (k + 1)) 0 := by
  rw [take_succ' hk, hx]
  have hl : (xs.take k).length = k := by rw [List.length_take]; omega
  rw [List.set_append_right _ _ (by omega), hl, Nat.sub_self]
  cases hm : n - k with
  | zero => omega
  | succ m =>
    have : n - (k + 1) = m := by omega
    rw [this]
    simp [List.replicate_succ]

def szF (n : Nat) (l : Int) : Int := if l - n < 0 then -1 else l - n
/-- w' is w but for the blocks in d (and new blocks) -/
structure Keeps (d : Nat → Prop) (w w' : World) : Prop where
  os : w'.os = w.os
  tape : w'.tape = w.tape
  output : w'.output = w.output
  size : w.heap.size ≤ w'.heap.size
  block : ∀ k, k < w.heap.size → ¬ d k → w'.heap[k]? = w.heap[k]?

theorem Keeps.refl (d : Nat → Prop) (w : World) : Keeps d w w := ⟨rfl, rfl, rfl, Nat.le_refl _, fun _ _ _ => rfl⟩

theorem Keeps.trans {d : Nat → Prop} {a b c : World} (h : Keeps d a b) (k : Keeps d b c) : Keeps d a c :=
  ⟨k.os.trans h.os, k.tape.trans h.tape, k.output.trans h.output, Nat.le_trans h.size k.size, fun i hi hd => (k.block i (Nat.lt_of_lt_of_le hi h.size) hd).trans (h.block i hi hd)⟩

theorem Keeps.mono {d d' : Nat → Prop} {a b : World} (h : Keeps d a b) (hd : ∀ k, k < a.heap.size → d k → d' k) : Keeps d' a b :=
  ⟨h.os, h.tape, h.output, h.size, fun i hi hn => h.block i hi (fun hk => hn (hd i hi hk))⟩

theorem Keeps.of_below {d : Nat → Prop} {w w' : World} (h : Below w.heap.size w w') : Keeps d w w' :=
  ⟨h.os, h.tape, h.output, h.size, fun k hk _ => h.block k hk⟩

theorem Keeps.setCell {d : Nat → Prop} {w w' : World} (h : Keeps d w w') (p : Addr) (hp : d p.block) (u : Value) : Keeps d w (w'.setCell p u) :=
  h.trans ⟨rfl, rfl, rfl, by simp [World.setCell], fun k _ hk => Below.heap_setCell _ _ _ _ (fun e => hk (e ▸ hp))⟩

/-- to Below: all that is dirty lies from B on -/
theorem Keeps.below {d : Nat → Prop} {w w' : World} (h : Keeps d w w') {B : Nat} (hB : B ≤ w.heap.size) (hd : ∀ k, d k → B ≤ k) : Below B w w' :=
  ⟨h.os, h.tape, h.output, h.size, fun k hk => h.block k (by omega) (fun hk' => by have := hd k hk'; omega)⟩

theorem Ints.keeps {d : Nat → Prop} {w w' : World} {a : Option Addr} {n c : Nat} {xs : List Int} (h : Ints w a n c xs) (hk : Keeps d w w') (hd : ∀ k, blockOf a k → ¬ d k) : Ints w' a n c xs :=
  ⟨h.len, h.cap, h.capm, h.nil, h.room, h.wf, fun k hkn => by
    obtain ⟨b, off, ha, hlt, hc⟩ := h.at' k hkn
    exact ⟨b, off, ha, Nat.lt_of_lt_of_le hlt hk.size, fun i hi => by
      rw [← hc i hi]
      exact World.cell?_of_block (w := w) (hk.block b hlt (hd b ⟨_, ha, rfl⟩))⟩⟩

theorem Own.keeps {B : Nat} {d : Nat → Prop} {w w' : World} {a : Option Addr} {n c : Nat} {xs : List Int} (h : Own B w a n c xs) (hk : Keeps d w w') (hd : ∀ k, blockOf a k → ¬ d k) : Own B w' a n c xs := by
  refine ⟨h.len, h.room, h.wf, h.row.1, ?_⟩
  rcases h.row.2 with e | ⟨g, cap, cur, e, hb', hh, r⟩
  · exact .inl e
  · refine .inr ⟨g, cap, cur, e, hb', ?_, r⟩
    simp only [Value.slice.injEq] at e
    obtain ⟨rfl, _, rfl⟩ := e
    rw [hk.block g (Array.getElem?_eq_some_iff.1 hh).1 (hd g ⟨_, rfl, rfl⟩)]
    exact hh

theorem Own.apart {B : Nat} {w : World} {a : Option Addr} {n c : Nat} {xs : List Int} (h : Own B w a n c xs) {k : Nat} (hk : k < B) : ¬ blockOf a k := by
  rintro ⟨ad, ha, rfl⟩
  have := (h.where ad ha).1
  omega
theorem Own.setCell_far {B : Nat} {w : World} {a : Option Addr} {n c : Nat} {xs : List Int} (h : Own B w a n c xs) {p : Addr} (hp : ¬ blockOf a p.block) (u : Value) : Own B (w.setCell p u) a n c xs :=
  h.keeps (d := fun k => k = p.block) (Keeps.setCell (Keeps.refl (fun k => k = p.block) _) p rfl u) (fun _ hk e => hp (e ▸ hk))

def eqG (W H : Int) (xs : List Int) (W2 H2 : Int) (ys : List Int) : Bool := W == W2 && H == H2 && xs == ys
/-- block b holds the cells cs, and may be written -/
structure Row (w : World) (b : Nat) (cs : Array Value) : Prop where
  cell : ∀ o, w.cell? ⟨b, o, none⟩ = cs[o]?
  free : ∀ o, w.frozen? ⟨b, o, none⟩ = false
  lt : b < w.heap.size

theorem Row.new (w : World) (B : Nat) (hB : B = w.heap.size) (cs : Array Value) (T : TypeId) : Row (w.alloc (.cells cs T)) B cs :=
  ⟨newRow w B hB cs T, newFree w B hB cs T, by subst hB; simp⟩
theorem Row.below {w w1 : World} {b : Nat} {cs : Array Value} (h : Row w b cs) (hb : Below w.heap.size w w1) : Row w1 b cs :=
  ⟨keepRow hb h.lt h.cell, keepFree hb h.lt h.free, Nat.lt_of_lt_of_le h.lt hb.size⟩
theorem Row.alloc {w : World} {b : Nat} {cs : Array Value} (h : Row w b cs) (o : Obj) : Row (w.alloc o) b cs :=
  h.below ((Below.refl _ _).alloc (Nat.le_refl _) _)
theorem Row.drew {w : World} {b : Nat} {cs : Array Value} (h : Row w b cs) : Row w.drew b cs :=
  h.below (Below.refl _ _).drew
theorem Row.keeps {d : Nat → Prop} {w w1 : World} {b : Nat} {cs : Array Value} (h : Row w b cs) (hk : Keeps d w w1) (hd : ¬ d b) : Row w1 b cs :=
  ⟨fun o => (World.cell?_of_block (w := w) (a := ⟨b, o, none⟩) (hk.block b h.lt hd)).trans (h.cell o), fun o => (World.frozen?_of_block (w := w) (a := ⟨b, o, none⟩) (hk.block b h.lt hd)).trans (h.free o), Nat.lt_of_lt_of_le h.lt hk.size⟩
theorem Row.far {w : World} {b : Nat} {cs : Array Value} (h : Row w b cs) (p : Addr) (v : Value) (hp : p.block ≠ b) : Row (w.setCell p v) b cs :=
  h.keeps (d := fun k => k = p.block) (Keeps.setCell (Keeps.refl (fun k => k = p.block) _) p rfl v) (fun e => hp e.symm)
theorem Row.set {w : World} {b : Nat} {cs : Array Value} (h : Row w b cs) (k : Nat) (v : Value) (hk : k < cs.size) : Row (w.setCell ⟨b, k, none⟩ v) b (cs.setIfInBounds k v) := by
  refine ⟨fun o => ?_, fun o => ?_, by simpa [World.setCell] using h.lt⟩
  · have h1 := h.cell o
    by_cases ho : o = k
    · subst ho
      rw [World.cell?_setCell_same' _ _ _ (by rw [h1]; simp [hk])]
      simp [hk]
    · rw [World.cell?_setCell_other _ _ _ _ (by intro e; injection e with _ e2; exact ho e2.symm)]
      rw [h1, Array.getElem?_setIfInBounds_ne (by omega)]
  · rw [World.frozen?_setCell]
    exact h.free o

theorem keepCell {w w1 : World} {a : Addr} {v : Value} (hb : Below w.heap.size w w1) (h : w.cell? a = some v) : w1.cell? a = some v :=
  (hb.cell (World.block_lt_of_cell? w a h)).trans h

theorem Keeps.grown {w w' : World} {row : Option Nat} (h : w.grownBy w' row) : Keeps (fun k => row = some k) w w' :=
  ⟨h.os, h.tape, h.output, h.size, fun k hk hd => h.block k hk (fun e => hd e.symm)⟩
theorem Row.grown {w w' : World} {row : Option Nat} {b : Nat} {cs : Array Value} (h : Row w b cs) (hg : w.grownBy w' row) (hb : row ≠ some b) : Row w' b cs :=
  h.keeps (Keeps.grown hg) hb

theorem goodB_true {m W H : Int} {xs : List Int} (h : goodB m W H xs = true) : ∃ Wn Hn : Nat, W = Wn ∧ H = Hn ∧ 1 ≤ Wn ∧ Wn ≤ 5 ∧ 1 ≤ Hn ∧ Hn ≤ 5 ∧ xs.length = Wn * Hn ∧ xs.length ≤ 25 ∧ ∀ x ∈ xs, 0 ≤ x ∧ x ≤ m := by
  unfold goodB at h
  simp only [Bool.and_eq_true, decide_eq_true_eq, List.all_eq_true] at h
  obtain ⟨⟨⟨h1, h2⟩, h3⟩, h4⟩ := h
  obtain ⟨a1, a2⟩ := inB_true h1
  obtain ⟨b1, b2⟩ := inB_true h2
  obtain ⟨Wn, rfl⟩ := Int.eq_ofNat_of_zero_le (show 0 ≤ W by omega)
  obtain ⟨Hn, rfl⟩ := Int.eq_ofNat_of_zero_le (show 0 ≤ H by omega)
  have hl : xs.length = Wn * Hn := by exact_mod_cast h3
  refine ⟨Wn, Hn, rfl, rfl, by omega, by omega, by omega, by omega, hl, ?_, fun x hx => inB_true (h4 x hx)⟩
  rw [hl]
  exact Nat.mul_le_mul (show Wn ≤ 5 by omega) (show Hn ≤ 5 by omega)

theorem wrap_in {x : Int} (h : -9223372036854775808 ≤ x ∧ x ≤ 9223372036854775807) : IntKind.i64.wrap x = x := IntWalk.i64_in x h

theorem Row.ext {w w1 : World} {b : Nat} {cs : Array Value} (h : Row w b cs) (hb : Below w.heap.size w w1) : Row w1 b cs := h.below hb
theorem Ints.ext {w w' : World} {a : Option Addr} {n c : Nat} {xs : List Int} (h : Ints w a n c xs) (hb : Below w.heap.size w w') : Ints w' a n c xs := h.below hb
theorem Own.ext {B : Nat} {w w' : World} {a : Option Addr} {n c : Nat} {xs : List Int} (h : Own B w a n c xs) (hb : Below w.heap.size w w') : Own B w' a n c xs := h.below hb (fun ad ha => (h.where ad ha).2)
theorem Own.alloc {B : Nat} {w : World} {a : Option Addr} {n c : Nat} {xs : List Int} (h : Own B w a n c xs) (o : Obj) : Own B (w.alloc o) a n c xs := h.ext ((Below.refl _ _).alloc (Nat.le_refl _) o)
theorem Own.drew {B : Nat} {w : World} {a : Option Addr} {n c : Nat} {xs : List Int} (h : Own B w a n c xs) : Own B w.drew a n c xs := h.ext (Below.refl _ _).drew

/-- W is what w has become: all that was there is as it was -/
structure Far (w W : World) : Prop where
  below : Below w.heap.size w W
theorem Far.refl (w : World) : Far w w := ⟨Below.refl _ _⟩
theorem Far.ext {w W W' : World} (h : Far w W) (hb : Below W.heap.size W W') : Far w W' := ⟨h.below.trans (hb.mono h.below.size)⟩
theorem Far.alloc {w W : World} (h : Far w W) (o : Obj) : Far w (W.alloc o) := h.ext ((Below.refl _ _).alloc (Nat.le_refl _) o)
theorem Far.drew {w W : World} (h : Far w W) : Far w W.drew := h.ext (Below.refl _ _).drew
theorem Far.keeps {w W W' : World} {d : Nat → Prop} (h : Far w W) (hk : Keeps d W W') (hd : ∀ k, d k → w.heap.size ≤ k) : Far w W' :=
  ⟨h.below.trans (hk.below h.below.size hd)⟩

theorem Own.from {B : Nat} {w : World} {a : Option Addr} {n c : Nat} {xs : List Int} (h : Own B w a n c xs) : ∀ k, blockOf a k → B ≤ k := by
  rintro k ⟨ad, ha, rfl⟩
  exact (h.where ad ha).1
theorem Own.till {B : Nat} {w : World} {a : Option Addr} {n c : Nat} {xs : List Int} (h : Own B w a n c xs) : ∀ k, blockOf a k → k < w.heap.size := by
  rintro k ⟨ad, ha, rfl⟩
  exact (h.where ad ha).2

theorem Far.set {w W : World} (h : Far w W) (p : Addr) (v : Value) (hp : w.heap.size ≤ p.block) : Far w (W.setCell p v) := ⟨h.below.setCell hp v⟩

end Go.Proofs.YtpflnmejbialjaaGreatDoor
