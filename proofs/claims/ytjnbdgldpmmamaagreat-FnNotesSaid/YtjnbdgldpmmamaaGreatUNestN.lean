/-
  Records with slices inside: one entry for all.
-/
import Derived.Test.YtjnbdgldpmmamaaGreatUQueue
import Derived.Test.YtjnbdgldpmmamaaGreatUCur
/-
  Appends of one record, in terms of entries.
-/
namespace Go.Proofs.YtjnbdgldpmmamaaGreat
set_option linter.unusedSimpArgs false
set_option linter.unusedVariables false
open Go.RowKit

section
variable {B : Nat} {w0 w w' : World} {G : List Ent} {G' : Ent → List Ent} {α : Type} {F : Fl α} {E : TypeId}
theorem Mem.oneRec {b : Nat} {cs : Array Value} (y : α) (h : Mem B w0 w G) (i : In G (rowE b E cs)) (hc : cs.toList = F.enc y) (hw : F.wf y) (hs : F.sz ≤ 1000) : Rd F w (some ⟨b, 0, none⟩) 1 1 [y] := by
  have hr := h.row i
  refine ⟨rfl, Nat.le_refl _, by unfold maxLen; omega, by simp, by omega, by simpa using hw, fun k hk => ⟨b, 0, rfl, hr.lt, fun i hi j hj => ?_⟩⟩
  obtain rfl : i = 0 := by omega
  rw [hr.cell]
  simp only [Nat.zero_mul, Nat.zero_add, List.getD_cons_zero]
  rw [← hc, Array.getElem?_toList]
/-- out = append(out, x), x a record -/
theorem wpList_pushR {ops : Array Oper} {rest : List Oper} {o : Oper} {a : Act} {Q : Exit → Act → World → Prop} {b : Nat} {cs : Array Value} {va : Option Addr} {na ca : Nat} {xs : List α} (y : α) (hM : Mem B w0 w (rowE b E cs :: G)) (p : ∀ e', Put G (owE F E va na ca xs) e' (G' e')) (hc : cs.toList = F.enc y) (hx : F.wf y) (hsz : F.sz ≤ 1000) (hroom : (na + 1) * F.sz ≤ 17592186044416)
    (i0 : TypeInfo) (z : Value) (bytes : Nat) (hi : Tryz.prog.info? E = some i0) (hz0 : i0.zero = some z) (hz1 : i0.size = F.sz) (hz2 : i0.bytes = bytes) (hzs : z.cells.size = F.sz) (hby : (na + 1) * bytes ≤ 140737488355328)
    (hgd : o.guard = none) (s v : Operand) (t : TypeId) (ht : Tryz.prog.underlying t = some (.slice E)) (ho : o.op = .call { callee := .builtin .append, args := #[s, v], argTypes := #[t, t] }) (hs : a.eval s = .slice va na ca) (hv : a.eval v = .slice (some ⟨b, 0, none⟩) 1 1)
    (h : ∀ a' c' w', Mem B w0 w' (G' (owE F E a' (na + 1) c' (xs ++ [y]))) → wpList Tryz.prog ops Q rest (a.put o.dst (.slice a' (na + 1) c')) w') : wpList Tryz.prog ops Q (o :: rest) a w := by
  have hown := hM.ents _ (List.mem_cons_of_mem _ (p (rowE 0 0 #[])).mem)
  have ho1 : Ow F E B w va na ca xs := hown
  refine wpList_appendR hgd s v t ho E i0 z bytes ht hi hz0 hz1 hz2 hzs B va na ca xs hs ho1 (some ⟨b, 0, none⟩) 1 1 [y] hv (hM.oneRec y .here hc hx hsz) hroom hby hM.size ?_
  intro a' c' w' h1 h2 h3
  refine h a' c' w' ?_
  exact (hM.tail).put (p _) ((Keeps.grown h2).mono (fun k _ hk => ownBlock_blockOf hk)) (e' := owE F E a' (na + 1) c' (xs ++ [y])) h1 (fun k hk => (h3 k hk).imp id (fun e => by omega))
theorem Mem.toOwR {b : Nat} (h : Mem B w0 w (rowE b E #[] :: G)) : Mem B w0 w (owE F E (some ⟨b, 0, none⟩) 0 0 [] :: G) := by
  have h1 := h.ents _ In.here.mem
  obtain ⟨h2, h3⟩ := h1
  refine h.put .here (Keeps.refl _ _) ?_ (fun k hk => ?_)
  · refine ⟨rfl, by omega, by simp, by simp [Fl.cells], .inr ⟨b, 0, #[], rfl, h2, h3, Nat.le_refl _, Nat.zero_le _, by simp, by simp [Fl.cells]⟩⟩
  · obtain ⟨ad, e1, e2⟩ := hk
    injection e1 with e1
    subst e1
    exact .inl e2
end
end Go.Proofs.YtjnbdgldpmmamaaGreat

/-
  Records with slices inside: one entry for all.
-/
namespace Go.Proofs.YtjnbdgldpmmamaaGreat
set_option linter.unusedSimpArgs false
set_option linter.unusedVariables false
open Go.RowKit

/-- records with inner slices: one entry for the outer slice and the inner ones -/
def nstE {α : Type} (F : Fl α) (E : TypeId) (inner : α → Ent) (a : Option Addr) (n c : Nat) (xs : List α) : Ent := packE (owE F E a n c xs :: xs.map inner)
section
variable {α : Type} {F : Fl α} {E : TypeId} {inner : α → Ent} {B : Nat} {w0 w : World} {G : List Ent} {a : Option Addr} {n c : Nat} {xs : List α}
theorem Mem.nstOpen (h : Mem B w0 w (nstE F E inner a n c xs :: G)) : Mem B w0 w (owE F E a n c xs :: (xs.map inner ++ G)) := Mem.unpackAt (X := []) h
theorem Mem.nstClose (h : Mem B w0 w (owE F E a n c xs :: (xs.map inner ++ G))) : Mem B w0 w (nstE F E inner a n c xs :: G) := Mem.packAt (X := []) (G := owE F E a n c xs :: xs.map inner) h
theorem Mem.nstOw (h : Mem B w0 w G) (i : In G (nstE F E inner a n c xs)) : Ow F E B w a n c xs := (h.ents _ i.mem).1 _ (List.mem_cons_self ..)
theorem Mem.nstIn (h : Mem B w0 w G) (i : In G (nstE F E inner a n c xs)) {x : α} (hx : x ∈ xs) : (inner x).hold B w := (h.ents _ i.mem).1 _ (List.mem_cons_of_mem _ (List.mem_map_of_mem hx))
/-- a record put in place of another one, its slice an entry -/
theorem Mem.nstPut {w' : World} {g k : Nat} {y : α} (h : Mem B w0 w (inner y :: nstE F E inner (some ⟨g, 0, none⟩) n c xs :: G)) (hk : k < n) (hw : F.wf y) (hs : w' = setRec w g (k * F.sz) (F.enc y)) : Mem B w0 w' (nstE F E inner (some ⟨g, 0, none⟩) n c (xs.set k y) :: G) := by
  subst hs
  have h1 : Mem B w0 w (owE F E (some ⟨g, 0, none⟩) n c xs :: (inner y :: (xs.map inner ++ G))) := (h.swap.nstOpen).perm (List.Perm.cons _ (List.perm_middle))
  have h2 : Mem B w0 (setRec w g (k * F.sz) (F.enc y)) (owE F E (some ⟨g, 0, none⟩) n c (xs.set k y) :: (inner y :: (xs.map inner ++ G))) :=
    h1.put .here (setRec_keeps (d := blockOf (some ⟨g, 0, none⟩)) g ⟨_, rfl, rfl⟩ (F.enc y) (k * F.sz) w) ((h1.ow .here).putRec hk y hw) (fun k hk => .inl hk)
  refine Mem.nstClose ?_
  have hkx : k < xs.length := by rw [(h1.ow .here).len]; exact hk
  have e1 : xs.map inner = (xs.take k).map inner ++ inner (xs[k]) :: (xs.drop (k + 1)).map inner := by
    rw [← List.map_cons, ← List.map_append, List.getElem_cons_drop, List.take_append_drop]
  have e2 : (xs.set k y).map inner = (xs.take k).map inner ++ inner y :: (xs.drop (k + 1)).map inner := by
    rw [List.set_eq_take_append_cons_drop, if_pos hkx, List.map_append, List.map_cons]
  rw [e1] at h2
  rw [e2]
  have h3 : Mem B w0 (setRec w g (k * F.sz) (F.enc y)) (owE F E (some ⟨g, 0, none⟩) n c (xs.set k y) :: ((xs.take k).map inner ++ (inner y :: (inner xs[k] :: ((xs.drop (k + 1)).map inner ++ G))))) :=
    h2.perm (List.Perm.cons _ (by rw [List.append_assoc]; exact List.perm_middle.symm))
  refine h3.sub (List.Sublist.cons_cons _ ?_)
  rw [List.append_assoc]
  exact List.Sublist.append (List.Sublist.refl _) (List.Sublist.cons_cons _ (List.Sublist.cons _ (List.Sublist.refl _)))
/-- a record appended, its slice an entry -/
theorem Mem.nstNil (h : Mem B w0 w (owE F E a n c [] :: G)) : Mem B w0 w (nstE F E inner a n c [] :: G) := Mem.nstClose h
end

section
variable {α : Type} {F : Fl α} {E : TypeId} {inner : α → Ent} {B : Nat} {w0 w : World} {G : List Ent} {a : Option Addr} {n c : Nat} {xs : List α}
end
end Go.Proofs.YtjnbdgldpmmamaaGreat
