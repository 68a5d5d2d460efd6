/-
  Records with slices inside: one entry for all.
-/
import Derived.Test.YtjnbdgldpmmamaaWCur
import Derived.Test.YtjnbdgldpmmamaaWMkr
import Derived.Test.YtjnbdgldpmmamaaWPush
/-
  Records with slices inside: one entry for all.
-/
namespace Go.Proofs.Ytjnbdgldpmmamaa
set_option linter.unusedSimpArgs false
set_option linter.unusedVariables false
open Go.RowKit

/-- records with inner slices: one entry for the outer slice and the inner ones -/
def nstE {α : Type} (F : Fl α) (E : TypeId) (inner : α → Ent) (a : Option Addr) (n c : Nat) (xs : List α) : Ent := packE (owE F E a n c xs :: xs.map inner)
section
variable {α : Type} {F : Fl α} {E : TypeId} {inner : α → Ent} {B : Nat} {w0 w : World} {G : List Ent} {a : Option Addr} {n c : Nat} {xs : List α}
theorem Mem.nstOpen (h : Mem B w0 w (nstE F E inner a n c xs :: G)) : Mem B w0 w (owE F E a n c xs :: (xs.map inner ++ G)) := Mem.unpackAt (X := []) h
theorem Mem.nstClose (h : Mem B w0 w (owE F E a n c xs :: (xs.map inner ++ G))) : Mem B w0 w (nstE F E inner a n c xs :: G) := Mem.packAt (X := []) (G := owE F E a n c xs :: xs.map inner) h
theorem Mem.nstOw (h : Mem B w0 w G) (i : In G (nstE F E inner a n c xs)) : Ow F E B w a n c xs := (h.ents _ i.mem).1 _ (List.mem_cons_self ..)
theorem Mem.nstIn (h : Mem B w0 w G) (i : In G (nstE F E inner a n c xs)) {x : α} (hx : x ∈ xs) : (inner x).hold B w := (h.ents _ i.mem).1 _ (List.mem_cons_of_mem _ (List.mem_map_of_mem hx))
/-- a record put in place of another one, its slice an entry -/
theorem Mem.nstPut {w' : World} {g k : Nat} {y : α} (h : Mem B w0 w (inner y :: nstE F E inner (some ⟨g, 0, none⟩) n c xs :: G)) (hk : k < n) (hw : F.wf y) (hs : w' = setRec w g (k * F.sz) (F.enc y)) : Mem B w0 w' (nstE F E inner (some ⟨g, 0, none⟩) n c (xs.set k y) :: G) := by
  subst hs
  have h1 : Mem B w0 w (owE F E (some ⟨g, 0, none⟩) n c xs :: (inner y :: (xs.map inner ++ G))) := (h.swap.nstOpen).perm (List.Perm.cons _ (List.perm_middle))
  have h2 : Mem B w0 (setRec w g (k * F.sz) (F.enc y)) (owE F E (some ⟨g, 0, none⟩) n c (xs.set k y) :: (inner y :: (xs.map inner ++ G))) :=
    h1.put .here (setRec_keeps (d := blockOf (some ⟨g, 0, none⟩)) g ⟨_, rfl, rfl⟩ (F.enc y) (k * F.sz) w) ((h1.ow .here).putRec hk y hw) (fun k hk => .inl hk)
  refine Mem.nstClose ?_
  have hkx : k < xs.length := by rw [(h1.ow .here).len]; exact hk
  have e1 : xs.map inner = (xs.take k).map inner ++ inner (xs[k]) :: (xs.drop (k + 1)).map inner := by
    rw [← List.map_cons, ← List.map_append, List.getElem_cons_drop, List.take_append_drop]
  have e2 : (xs.set k y).map inner = (xs.take k).map inner ++ inner y :: (xs.drop (k + 1)).map inner := by
    rw [List.set_eq_take_append_cons_drop, if_pos hkx, List.map_append, List.map_cons]
  rw [e1] at h2
  rw [e2]
  have h3 : Mem B w0 (setRec w g (k * F.sz) (F.enc y)) (owE F E (some ⟨g, 0, none⟩) n c (xs.set k y) :: ((xs.take k).map inner ++ (inner y :: (inner xs[k] :: ((xs.drop (k + 1)).map inner ++ G))))) :=
    h2.perm (List.Perm.cons _ (by rw [List.append_assoc]; exact List.perm_middle.symm))
  refine h3.sub (List.Sublist.cons_cons _ ?_)
  rw [List.append_assoc]
  exact List.Sublist.append (List.Sublist.refl _) (List.Sublist.cons_cons _ (List.Sublist.cons _ (List.Sublist.refl _)))
/-- a record appended, its slice an entry -/
theorem Mem.nstNil (h : Mem B w0 w (owE F E a n c [] :: G)) : Mem B w0 w (nstE F E inner a n c [] :: G) := Mem.nstClose h
end

section
variable {α : Type} {F : Fl α} {E : TypeId} {inner : α → Ent} {B : Nat} {w0 w : World} {G : List Ent} {a : Option Addr} {n c : Nat} {xs : List α}
end
end Go.Proofs.Ytjnbdgldpmmamaa
