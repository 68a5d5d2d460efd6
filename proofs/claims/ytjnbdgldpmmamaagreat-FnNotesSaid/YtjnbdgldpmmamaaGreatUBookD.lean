/-
  The reference's draws of notebooks.
-/
import Derived.Test.YtjnbdgldpmmamaaGreatUCompP
import Derived.Test.YtjnbdgldpmmamaaGreatUMrgT
import Derived.Test.YtjnbdgldpmmamaaGreatUNoteZ
import Derived.Test.YtjnbdgldpmmamaaGreatUCur
import Derived.Test.YtjnbdgldpmmamaaGreatUQueue
import Derived.Test.YtjnbdgldpmmamaaGreatURegF
import Derived.Test.YtjnbdgldpmmamaaGreatUNoteC
import Derived.Deep.CutBlock
import Derived.Deep.DeepCutAuto
/-
  The reference's draws of notebooks.
-/
namespace Go.Proofs.YtjnbdgldpmmamaaGreat
set_option linter.unusedSimpArgs false
set_option linter.unusedVariables false
open Go.RowKit

/-- what a place leaves aside, as one -/
def HeadN (F : Ent → List Ent) (R : List Ent) : Prop := ∀ (B : Nat) (w0 w : World) (X : List Ent) (e1 : Ent), Mem B w0 w (X ++ F e1) ↔ Mem B w0 w (X ++ [e1, packE R])
theorem At.headN {G : List Ent} {e : Ent} {F : Ent → List Ent} (p : At G e F) : ∃ R, HeadN F R := by
  obtain ⟨G1, G2, rfl, h2⟩ := p
  refine ⟨G1 ++ G2, fun B w0 w X e1 => ?_⟩
  rw [h2]
  have hp : (X ++ (G1 ++ e1 :: G2)).Perm ((X ++ [e1]) ++ (G1 ++ G2 ++ [])) := by
    rw [List.append_nil, List.append_assoc]
    exact (List.perm_middle (l₁ := G1) (a := e1) (l₂ := G2)).append_left X
  constructor
  · intro h
    have h1 := Mem.packAt (X ++ [e1]) (G := G1 ++ G2) (Y := []) (h.perm hp)
    simpa using h1
  · intro h
    have h1 : Mem B w0 w ((X ++ [e1]) ++ packE (G1 ++ G2) :: []) := by simpa using h
    exact (Mem.unpackAt (X ++ [e1]) h1).perm hp.symm
theorem HeadN.in0 {B : Nat} {w0 w : World} {F : Ent → List Ent} {R : List Ent} {e : Ent} (h : HeadN F R) (hM : Mem B w0 w (F e)) : Mem B w0 w [e, packE R] := (h B w0 w [] e).1 hM
theorem HeadN.out1 {B : Nat} {w0 w : World} {F : Ent → List Ent} {R : List Ent} {e x : Ent} (h : HeadN F R) (hM : Mem B w0 w [x, e, packE R]) : Mem B w0 w (x :: F e) := (h B w0 w [x] e).2 hM
structure BookI where
  ad : Option Addr
  n : Nat
  c : Nat
  xs : List NoteI
def BookI.zero : BookI := ⟨none, 0, 0, []⟩
def FBook : Fl BookI where
  sz := 1
  enc x := [.slice x.ad x.n x.c]
  z := BookI.zero
  wf _ := True
  pos := by decide
  len _ := rfl
  one := by intro x v hv; simp at hv; subst hv; rfl
abbrev bookIn (x : BookI) : Ent := noteE x.ad x.n x.c x.xs
abbrev bookE (a : Option Addr) (n c : Nat) (bs : List BookI) : Ent := nstE FBook 24 bookIn a n c bs
theorem note_hold {B : Nat} {w : World} {a : Option Addr} {n c : Nat} {xs : List NoteI} (h : (noteE a n c xs).hold B w) : RdN w a n c xs := by
  obtain ⟨h1, -⟩ := h
  exact ⟨(show Ow FNote 40 B w a n c xs from h1 _ (List.mem_cons_self ..)).rd, fun x hx => Own.ints (h1 _ (List.mem_cons_of_mem _ (List.mem_map_of_mem hx)))⟩
theorem book_hold {B : Nat} {w : World} {a : Option Addr} {n c : Nat} {bs : List BookI} (h : (bookE a n c bs).hold B w) {x : BookI} (hx : x ∈ bs) : RdN w x.ad x.n x.c x.xs := note_hold (h.1 _ (List.mem_cons_of_mem _ (List.mem_map_of_mem hx)))
theorem Mem.bookRd {B : Nat} {w0 w : World} {G : List Ent} {a : Option Addr} {n c : Nat} {bs : List BookI} (h : Mem B w0 w G) (i : In G (bookE a n c bs)) {k : Nat} (hk : k < n) : RdN w (bs.getD k BookI.zero).ad (bs.getD k BookI.zero).n (bs.getD k BookI.zero).c (bs.getD k BookI.zero).xs :=
  book_hold (h.ents _ i.mem) (getD_memO (by rw [(h.nstOw i).len]; exact hk))
theorem Mem.bookCell {B : Nat} {w0 w : World} {G : List Ent} {g n c : Nat} {bs : List BookI} (h : Mem B w0 w G) (i : In G (bookE (some ⟨g, 0, none⟩) n c bs)) {k : Nat} (hk : k < n) : w.cell? ⟨g, k, none⟩ = some (.slice (bs.getD k BookI.zero).ad (bs.getD k BookI.zero).n (bs.getD k BookI.zero).c) := by
  have := (h.nstOw i).cell hk (j := 0) (by decide)
  have e : k * FBook.sz + 0 = k := by show k * 1 + 0 = k; omega
  rw [e] at this
  exact this
theorem Mem.nstSnoc {α : Type} {F : Fl α} {E : TypeId} {inner : α → Ent} {B : Nat} {w0 w : World} {G : List Ent} {a : Option Addr} {n c : Nat} {xs : List α} {y : α} (h : Mem B w0 w (inner y :: owE F E a n c (xs ++ [y]) :: (xs.map inner ++ G))) : Mem B w0 w (nstE F E inner a n c (xs ++ [y]) :: G) := by
  refine Mem.nstClose (h.perm ?_)
  rw [List.map_append, List.append_assoc]
  exact (List.Perm.swap _ _ _).trans (List.Perm.cons _ (List.perm_middle (l₁ := xs.map inner)).symm)
theorem wpList_pushT {α : Type} {F : Fl α} {E : TypeId} {inner : α → Ent} {B : Nat} {w0 w : World} {G : List Ent} {xs : List α} {ops : Array Oper} {rest : List Oper} {o : Oper} {a : Act} {Q : Exit → Act → World → Prop} {b : Nat} {cs : Array Value} {va : Option Addr} {na ca : Nat} (y : α) (hM : Mem B w0 w (rowE b E cs :: inner y :: nstE F E inner va na ca xs :: G)) (hc : cs.toList = F.enc y) (hx : F.wf y) (hsz : F.sz ≤ 1000) (hroom : (na + 1) * F.sz ≤ 17592186044416)
    (i0 : TypeInfo) (z : Value) (bytes : Nat) (hi : Tryz.prog.info? E = some i0) (hz0 : i0.zero = some z) (hz1 : i0.size = F.sz) (hz2 : i0.bytes = bytes) (hzs : z.cells.size = F.sz) (hby : (na + 1) * bytes ≤ 140737488355328)
    (hgd : o.guard = none) (s v : Operand) (t : TypeId) (ht : Tryz.prog.underlying t = some (.slice E)) (ho : o.op = .call { callee := .builtin .append, args := #[s, v], argTypes := #[t, t] }) (hs : a.eval s = .slice va na ca) (hv : a.eval v = .slice (some ⟨b, 0, none⟩) 1 1)
    (h : ∀ a' c' w', Mem B w0 w' (nstE F E inner a' (na + 1) c' (xs ++ [y]) :: G) → wpList Tryz.prog ops Q rest (a.put o.dst (.slice a' (na + 1) c')) w') : wpList Tryz.prog ops Q (o :: rest) a w := by
  have hM2 : Mem B w0 w (rowE b E cs :: inner y :: owE F E va na ca xs :: (xs.map inner ++ G)) := Mem.unpackAt (X := [rowE b E cs, inner y]) hM
  refine wpList_pushR y hM2 (fun _ => .there .here) hc hx hsz hroom i0 z bytes hi hz0 hz1 hz2 hzs hby hgd s v t ht ho hs hv ?_
  intro a' c' w' hM3
  exact h a' c' w' hM3.nstSnoc
theorem Mem.nstHead {α : Type} {F : Fl α} {E : TypeId} {inner : α → Ent} {B : Nat} {w0 w : World} {G : List Ent} {a : Option Addr} {n c : Nat} {xs : List α} (h : Mem B w0 w G) (i : In G (nstE F E inner a n c xs)) (hn : 0 < n) : ∃ g, a = some ⟨g, 0, none⟩ := by
  obtain ⟨g, e, -⟩ := (h.nstOw i).head hn
  exact ⟨g, e⟩
/-- every book is valid and complete -/
def okBk (u : Int) (bs : List BookI) : Prop := ∀ b ∈ bs, bookB u (coreN b.xs) = true ∧ compB (coreN b.xs) = true ∧ ∃ g : Nat, b.ad = some ⟨g, 0, none⟩
theorem okBk_snoc {u : Int} {bs : List BookI} {b : BookI} (h : okBk u bs) (h1 : bookB u (coreN b.xs) = true) (h2 : compB (coreN b.xs) = true) (h3 : ∃ g : Nat, b.ad = some ⟨g, 0, none⟩) : okBk u (bs ++ [b]) := by
  intro x hx
  rcases List.mem_append.1 hx with hx | hx
  · exact h x hx
  · rw [List.mem_singleton] at hx
    subst hx
    exact ⟨h1, h2, h3⟩
theorem okBk_set {u : Int} {bs : List BookI} {b : BookI} {k : Nat} (h : okBk u bs) (h1 : bookB u (coreN b.xs) = true) (h2 : compB (coreN b.xs) = true) (h3 : ∃ g : Nat, b.ad = some ⟨g, 0, none⟩) : okBk u (bs.set k b) := by
  intro x hx
  rcases List.mem_or_eq_of_mem_set hx with hx | rfl
  · exact h x hx
  · exact ⟨h1, h2, h3⟩
theorem book_nil {u : Int} (h : 2 ≤ u ∧ u ≤ 4) : bookB u [] = true := by
  unfold bookB bkTo inB
  simp
  omega
theorem small_word {xs : List ByteArray} (hb : xs.all (fun b => decide (b.size ≤ 20)) = true) {x : ByteArray} (hx : x ∈ xs) : ∃ s : Bs, x = bsA s ∧ s.length ≤ 20 := by
  have h1 := List.all_eq_true.1 hb x hx
  refine ⟨bl x, (bsA_bl x).symm, ?_⟩
  have h2 : (bl x).length = x.size := by rw [← bsA_size, bsA_bl]
  rw [h2]
  simpa using h1
set_option maxRecDepth 100000 in
set_option maxHeartbeats 4000000 in
theorem word_any {g : Nat} {ac : Option Addr} {nc cc : Nat} {l : List UInt8} {A : Nat} {w0 w : World} {G : List Ent} {F : Ent → List Ent} (hC : Rd FByt w0 ac nc cc l) (hM : Mem w0.heap.size w0 w G) (p : At G (curE g ac nc cc A) F) (hA : A ≤ 100000000) :
    Calls Tryz.prog 65 #[.pointer (some ⟨g, 0, none⟩)] w fun e w' => ∃ s : Bs, s.length ≤ 20 ∧ e = .returned (.string (bsA s)) ∧ Mem w0.heap.size w0 w' (F (curE g ac nc cc (A + 2))) := by
  have HP := Lib.hid p
  have HC := Lib.hid hC
  clear p hC
  go_enter Tryz.func65, Tryz.ntmps65
  go_wp2_with fail
  apply Mem.atA
  · exact memA
  clear hM
  intro wst hM
  (try simp only [World.size_alloc, World.size_setCell, World.heap_drewN, heapDrew, Nat.add_assoc, Nat.reduceAdd, sA, List.cons_append, List.nil_append] at hM)
  (first | refine (of_any [⟨#[110, 111, 114, 116, 104]⟩, ⟨#[114, 105, 100, 103, 101]⟩, ⟨#[114, 105, 118, 101, 114]⟩, ⟨#[112, 105, 110, 101]⟩, ⟨#[99, 97, 109, 112]⟩, ⟨#[114, 111, 97, 100]⟩, ⟨#[115, 109, 111, 107, 101]⟩, ⟨#[99, 114, 101, 119]⟩, ⟨#[97]⟩, ⟨#[97, 98, 99, 100, 101, 102, 103, 104, 105, 106]⟩] HC.out hM (.there HP.out) (fun _ => .here) rfl (by decide) (by decide) (by omega) (by decide)).mono ?_)
  rintro e wc1 ⟨x1, hx1, rfl, hm⟩
  clear hM
  have hM := hm
  clear hm
  try dsimp only at hM
  obtain ⟨s, rfl, hs⟩ := small_word (by decide) hx1
  clear hx1
  go_wp2
  go_ret
  exact ⟨s, hs, rfl, hM.tail⟩
end Go.Proofs.YtjnbdgldpmmamaaGreat
