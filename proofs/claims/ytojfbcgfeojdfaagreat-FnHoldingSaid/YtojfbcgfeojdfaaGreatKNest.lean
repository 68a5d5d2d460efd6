/-
  Slices of records with slices inside: appends, a record changed.
-/
import Derived.Test.YtojfbcgfeojdfaaGreatKSpeed
import Derived.Test.YtojfbcgfeojdfaaGreatKDrawSmk
import Derived.Deep.DeepCutAuto
import Derived.Test.YtojfbcgfeojdfaaGreatKDrawCut
/-
  Records that hold a slice: scenarios. Read, owned; the laws' sz, to, eq over slices of them.
-/
namespace Go.Proofs.YtojfbcgfeojdfaaGreat
set_option linter.unusedSimpArgs false
set_option linter.unusedVariables false
open Go.RowKit

/-- records with inner slices: one entry for the outer slice and the inner ones -/
def nestE {α : Type} (F : Fl α) (E : TypeId) (inner : α → Ent) (a : Option Addr) (n c : Nat) (xs : List α) : Ent := packE (owE F E a n c xs :: xs.map inner)
section
variable {α : Type} {F : Fl α} {E : TypeId} {inner : α → Ent} {B : Nat} {w0 w : World} {G : List Ent} {a : Option Addr} {n c : Nat} {xs : List α}
theorem Mem.nestOpen (h : Mem B w0 w (nestE F E inner a n c xs :: G)) : Mem B w0 w (owE F E a n c xs :: (xs.map inner ++ G)) := Mem.unpackAt (X := []) h
theorem Mem.nestClose (h : Mem B w0 w (owE F E a n c xs :: (xs.map inner ++ G))) : Mem B w0 w (nestE F E inner a n c xs :: G) := Mem.packAt (X := []) (G := owE F E a n c xs :: xs.map inner) h
theorem Mem.nestOw (h : Mem B w0 w G) (i : In G (nestE F E inner a n c xs)) : Ow F E B w a n c xs := (h.ents _ i.mem).1 _ (List.mem_cons_self ..)
theorem Mem.nestIn (h : Mem B w0 w G) (i : In G (nestE F E inner a n c xs)) {x : α} (hx : x ∈ xs) : (inner x).hold B w := (h.ents _ i.mem).1 _ (List.mem_cons_of_mem _ (List.mem_map_of_mem hx))
/-- a record appended, its slice an entry -/
theorem Mem.nestNil (h : Mem B w0 w (owE F E a n c [] :: G)) : Mem B w0 w (nestE F E inner a n c [] :: G) := Mem.nestClose h
end

structure ScenarioI where
  ad : Option Addr
  n : Nat
  c : Nat
  ph : List PhaseI
  wt : Int
def ScenarioI.zero : ScenarioI := ⟨none, 0, 0, [], 0⟩
def FScenario : Fl ScenarioI where
  sz := 2
  enc x := [.slice x.ad x.n x.c, .int .i64 x.wt]
  z := ScenarioI.zero
  wf x := I64 x.wt
  pos := by decide
  len _ := rfl
  one := by intro x v hv; simp at hv; rcases hv with rfl | rfl <;> rfl
abbrev ScenarioI.val (x : ScenarioI) : Value := .agg #[.slice x.ad x.n x.c, .int .i64 x.wt]
theorem Rd.cellScenario {w : World} {b off n c : Nat} {xs : List ScenarioI} (h : Rd FScenario w (some ⟨b, off, none⟩) n c xs) {k : Nat} (hk : k < n) : b < w.heap.size ∧ w.cell? ⟨b, off + k * 2, none⟩ = some (.slice (xs.getD k ScenarioI.zero).ad (xs.getD k ScenarioI.zero).n (xs.getD k ScenarioI.zero).c) ∧ w.cell? ⟨b, off + k * 2 + 1, none⟩ = some (.int .i64 (xs.getD k ScenarioI.zero).wt) := by
  obtain ⟨b', off', e, hl, hc⟩ := h.at' k hk
  simp only [Option.some.injEq, Addr.mk.injEq] at e
  obtain ⟨rfl, rfl, _⟩ := e
  exact ⟨hl, by rw [show off + k * 2 = off + (k * FScenario.sz + 0) by show _ = off + (k * 2 + 0); omega]; exact hc k hk 0 (by decide), by rw [show off + k * 2 + 1 = off + (k * FScenario.sz + 1) by show _ = off + (k * 2 + 1); omega]; exact hc k hk 1 (by decide)⟩
theorem Ow.cellScenario {E : TypeId} {B : Nat} {w : World} {g n c : Nat} {xs : List ScenarioI} (h : Ow FScenario E B w (some ⟨g, 0, none⟩) n c xs) {k : Nat} (hk : k < n) : w.cell? ⟨g, k * 2, none⟩ = some (.slice (xs.getD k ScenarioI.zero).ad (xs.getD k ScenarioI.zero).n (xs.getD k ScenarioI.zero).c) ∧ w.cell? ⟨g, k * 2 + 1, none⟩ = some (.int .i64 (xs.getD k ScenarioI.zero).wt) :=
  ⟨h.cell hk (j := 0) (by decide), h.cell hk (j := 1) (by decide)⟩
/-- scenarios that are read: the slice, and their phases -/
structure RdS (w : World) (a : Option Addr) (n c : Nat) (xs : List ScenarioI) : Prop where
  rd : Rd FScenario w a n c xs
  ph : ∀ x ∈ xs, Rd FPhase w x.ad x.n x.c x.ph
theorem RdS.ext {w w' : World} {a : Option Addr} {n c : Nat} {xs : List ScenarioI} (h : RdS w a n c xs) (hb : Below w.heap.size w w') : RdS w' a n c xs := ⟨h.rd.ext hb, fun x hx => (h.ph x hx).ext hb⟩
abbrev scenIn (x : ScenarioI) : Ent := owE FPhase 128 x.ad x.n x.c x.ph
abbrev scenE (a : Option Addr) (n c : Nat) (xs : List ScenarioI) : Ent := nestE FScenario 49 scenIn a n c xs
theorem Mem.scens {B : Nat} {w0 w : World} {G : List Ent} {a : Option Addr} {n c : Nat} {xs : List ScenarioI} (h : Mem B w0 w G) (i : In G (scenE a n c xs)) : RdS w a n c xs :=
  ⟨(h.nestOw i).rd, fun _ hx => Ow.rd (h.nestIn i hx)⟩
end Go.Proofs.YtojfbcgfeojdfaaGreat

/-
  The laws' sz, to, eq over slices of scenarios.
-/
namespace Go.Proofs.YtojfbcgfeojdfaaGreat
set_option linter.unusedSimpArgs false
set_option linter.unusedVariables false
open Go.RowKit

section
variable {α : Type} {F : Fl α} {E : TypeId} {inner : α → Ent} {B : Nat} {w0 w : World} {G : List Ent} {a : Option Addr} {n c : Nat} {xs : List α}
end
theorem Tryz.info49 : (Tryz.prog.info? 49).map (fun i => (i.zero, i.size, i.bytes)) = some (some (.agg #[.slice none 0 0, .int .i64 0]), 2, 32) := by kernel_rfl
end Go.Proofs.YtojfbcgfeojdfaaGreat

/-
  Slices of records with slices inside: appends, a record changed.
-/
namespace Go.Proofs.YtojfbcgfeojdfaaGreat
set_option linter.unusedSimpArgs false
set_option linter.unusedVariables false
open Go.RowKit

section
variable {α : Type} {F : Fl α} {E : TypeId} {inner : α → Ent} {B : Nat} {w0 w w' : World} {G G' : List Ent} {a : Option Addr} {n c : Nat} {xs ys : List α}
theorem Mem.nestSnoc {y : α} (h : Mem B w0 w (inner y :: owE F E a n c (xs ++ [y]) :: (xs.map inner ++ G))) : Mem B w0 w (nestE F E inner a n c (xs ++ [y]) :: G) := by
  refine Mem.nestClose (h.perm ?_)
  rw [List.map_append, List.append_assoc]
  exact (List.Perm.swap _ _ _).trans (List.Perm.cons _ (List.perm_middle (l₁ := xs.map inner)).symm)
/-- out = append(out, y), y a record whose slice is an entry -/
theorem wpList_pushN {ops : Array Oper} {rest : List Oper} {o : Oper} {a : Act} {Q : Exit → Act → World → Prop} {b : Nat} {cs : Array Value} {va : Option Addr} {na ca : Nat} (y : α) (hM : Mem B w0 w (rowE b E cs :: inner y :: nestE F E inner va na ca xs :: G)) (hc : cs.toList = F.enc y) (hx : F.wf y) (hsz : F.sz ≤ 1000) (hroom : (na + 1) * F.sz ≤ 17592186044416)
    (i0 : TypeInfo) (z : Value) (bytes : Nat) (hi : Tryz.prog.info? E = some i0) (hz0 : i0.zero = some z) (hz1 : i0.size = F.sz) (hz2 : i0.bytes = bytes) (hzs : z.cells.size = F.sz) (hby : (na + 1) * bytes ≤ 140737488355328)
    (hgd : o.guard = none) (s v : Operand) (t : TypeId) (ht : Tryz.prog.underlying t = some (.slice E)) (ho : o.op = .call { callee := .builtin .append, args := #[s, v], argTypes := #[t, t] }) (hs : a.eval s = .slice va na ca) (hv : a.eval v = .slice (some ⟨b, 0, none⟩) 1 1)
    (h : ∀ a' c' w', Mem B w0 w' (nestE F E inner a' (na + 1) c' (xs ++ [y]) :: G) → wpList Tryz.prog ops Q rest (a.put o.dst (.slice a' (na + 1) c')) w') : wpList Tryz.prog ops Q (o :: rest) a w := by
  have hM2 : Mem B w0 w (rowE b E cs :: inner y :: owE F E va na ca xs :: (xs.map inner ++ G)) := Mem.unpackAt (X := [rowE b E cs, inner y]) hM
  refine wpList_pushR y hM2 (fun _ => .there .here) hc hx hsz hroom i0 z bytes hi hz0 hz1 hz2 hzs hby hgd s v t ht ho hs hv ?_
  intro a' c' w' hM3
  exact h a' c' w' hM3.nestSnoc
/-- out = append(out, ys...), both with their slices as entries -/
theorem wpList_appN {ops : Array Oper} {rest : List Oper} {o : Oper} {a : Act} {Q : Exit → Act → World → Prop} {va : Option Addr} {na ca : Nat} {xa : Option Addr} {m cx : Nat} (hM : Mem B w0 w (nestE F E inner va na ca xs :: nestE F E inner xa m cx ys :: G)) (hroom : (na + m) * F.sz ≤ 17592186044416)
    (i0 : TypeInfo) (z : Value) (bytes : Nat) (hi : Tryz.prog.info? E = some i0) (hz0 : i0.zero = some z) (hz1 : i0.size = F.sz) (hz2 : i0.bytes = bytes) (hzs : z.cells.size = F.sz) (hby : (na + m) * bytes ≤ 140737488355328)
    (hgd : o.guard = none) (s v : Operand) (t : TypeId) (ht : Tryz.prog.underlying t = some (.slice E)) (ho : o.op = .call { callee := .builtin .append, args := #[s, v], argTypes := #[t, t] }) (hs : a.eval s = .slice va na ca) (hv : a.eval v = .slice xa m cx)
    (h : ∀ a' c' w', Mem B w0 w' (nestE F E inner a' (na + m) c' (xs ++ ys) :: G) → wpList Tryz.prog ops Q rest (a.put o.dst (.slice a' (na + m) c')) w') : wpList Tryz.prog ops Q (o :: rest) a w := by
  have hI := (hM.nestOw (.there .here)).rd
  have hM2 := hM.nestOpen
  refine wpList_appRM hM2 (fun _ => .here) hI hroom i0 z bytes hi hz0 hz1 hz2 hzs hby hgd s v t ht ho hs hv ?_
  intro a' c' w' hM3
  refine h a' c' w' (Mem.nestClose ?_)
  have hM4 : Mem B w0 w' (owE F E a' (na + m) c' (xs ++ ys) :: (xs.map inner ++ (owE F E xa m cx ys :: (ys.map inner ++ G)))) := Mem.unpackAt (X := owE F E a' (na + m) c' (xs ++ ys) :: xs.map inner) hM3
  refine hM4.sub ?_
  rw [List.map_append, List.append_assoc]
  exact List.Sublist.cons_cons _ (List.Sublist.append (List.Sublist.refl _) (List.Sublist.cons _ (List.Sublist.refl _)))
/-- a record changed, its slice as before -/
theorem Mem.nestSet {g k : Nat} {y : α} (h : Mem B w0 w G) (p : Put G (nestE F E inner (some ⟨g, 0, none⟩) n c xs) (nestE F E inner (some ⟨g, 0, none⟩) n c (xs.set k y)) G') (hk : k < n) (hw : F.wf y) (hi : inner y = inner (xs.getD k F.z)) (hs : w' = setRec w g (k * F.sz) (F.enc y)) : Mem B w0 w' G' := by
  subst hs
  obtain ⟨e1, e2⟩ := h.ents _ p.mem
  have ho : Ow F E B w (some ⟨g, 0, none⟩) n c xs := e1 _ (List.mem_cons_self ..)
  have hkx : k < xs.length := by rw [ho.len]; exact hk
  have hm : (xs.set k y).map inner = xs.map inner := by
    apply List.ext_getElem?
    intro i
    rw [List.getElem?_map, List.getElem?_map]
    by_cases e : i = k
    · subst e
      rw [List.getElem?_set_self hkx, List.getElem?_eq_getElem hkx]
      simp only [Option.map_some, hi]
      rw [List.getD_eq_getElem?_getD, List.getElem?_eq_getElem hkx]
      rfl
    · rw [List.getElem?_set_ne (fun e' => e e'.symm)]
  obtain ⟨a1, a2⟩ := List.pairwise_cons.1 e2
  have hkp : Keeps (fun j => j = g) w (setRec w g (k * F.sz) (F.enc y)) := setRec_keeps (d := fun j => j = g) g rfl (F.enc y) (k * F.sz) w
  refine h.put p (hkp.mono (fun j _ hj => ⟨_, List.mem_cons_self .., ⟨_, rfl, hj⟩⟩)) ⟨fun e he => ?_, ?_⟩ (fun j hj => .inl ?_)
  · rw [hm] at he
    rcases List.mem_cons.1 he with rfl | he
    · exact ho.putRec hk y hw
    · refine e.keep (e1 e (List.mem_cons_of_mem _ he)) hkp (fun j hj hjg => ?_)
      exact a1 e he j ⟨_, rfl, hjg⟩ hj
  · rw [hm]
    exact List.pairwise_cons.2 ⟨a1, a2⟩
  · obtain ⟨e, he, hj⟩ := hj
    rw [hm] at he
    rcases List.mem_cons.1 he with rfl | he
    · exact ⟨_, List.mem_cons_self .., hj⟩
    · exact ⟨e, List.mem_cons_of_mem _ he, hj⟩
end
end Go.Proofs.YtojfbcgfeojdfaaGreat
