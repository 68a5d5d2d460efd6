/-
  An entry at a place of a list.
-/
import Derived.Test.YtpflnmejbialjaaGreatDoorVFlood
import Derived.Test.YtpflnmejbialjaaGreatDoorVRd
/-
  Appends of one record, in terms of entries.
-/
namespace Go.Proofs.YtpflnmejbialjaaGreatDoor
set_option linter.unusedSimpArgs false
set_option linter.unusedVariables false
open Go.RowKit

section
variable {B : Nat} {w0 w w' : World} {G : List Ent} {G' : Ent → List Ent} {α : Type} {F : Fl α} {E : TypeId}
theorem Mem.oneRec {b : Nat} {cs : Array Value} (y : α) (h : Mem B w0 w G) (i : In G (rowE b E cs)) (hc : cs.toList = F.enc y) (hw : F.wf y) (hs : F.sz ≤ 1000) : Rd F w (some ⟨b, 0, none⟩) 1 1 [y] := by
  have hr := h.row i
  refine ⟨rfl, Nat.le_refl _, by unfold maxLen; omega, by simp, by omega, by simpa using hw, fun k hk => ⟨b, 0, rfl, hr.lt, fun i hi j hj => ?_⟩⟩
  obtain rfl : i = 0 := by omega
  rw [hr.cell]
  simp only [Nat.zero_mul, Nat.zero_add, List.getD_cons_zero]
  rw [← hc, Array.getElem?_toList]
/-- out = append(out, x), x a record -/
theorem wpList_pushR {ops : Array Oper} {rest : List Oper} {o : Oper} {a : Act} {Q : Exit → Act → World → Prop} {b : Nat} {cs : Array Value} {va : Option Addr} {na ca : Nat} {xs : List α} (y : α) (hM : Mem B w0 w (rowE b E cs :: G)) (p : ∀ e', Put G (owE F E va na ca xs) e' (G' e')) (hc : cs.toList = F.enc y) (hx : F.wf y) (hsz : F.sz ≤ 1000) (hroom : (na + 1) * F.sz ≤ 17592186044416)
    (i0 : TypeInfo) (z : Value) (bytes : Nat) (hi : Tryz.prog.info? E = some i0) (hz0 : i0.zero = some z) (hz1 : i0.size = F.sz) (hz2 : i0.bytes = bytes) (hzs : z.cells.size = F.sz) (hby : (na + 1) * bytes ≤ 140737488355328)
    (hgd : o.guard = none) (s v : Operand) (t : TypeId) (ht : Tryz.prog.underlying t = some (.slice E)) (ho : o.op = .call { callee := .builtin .append, args := #[s, v], argTypes := #[t, t] }) (hs : a.eval s = .slice va na ca) (hv : a.eval v = .slice (some ⟨b, 0, none⟩) 1 1)
    (h : ∀ a' c' w', Mem B w0 w' (G' (owE F E a' (na + 1) c' (xs ++ [y]))) → wpList Tryz.prog ops Q rest (a.put o.dst (.slice a' (na + 1) c')) w') : wpList Tryz.prog ops Q (o :: rest) a w := by
  have hown := hM.ents _ (List.mem_cons_of_mem _ (p (rowE 0 0 #[])).mem)
  have ho1 : Ow F E B w va na ca xs := hown
  refine wpList_appendR hgd s v t ho E i0 z bytes ht hi hz0 hz1 hz2 hzs B va na ca xs hs ho1 (some ⟨b, 0, none⟩) 1 1 [y] hv (hM.oneRec y .here hc hx hsz) hroom hby hM.size ?_
  intro a' c' w' h1 h2 h3
  refine h a' c' w' ?_
  exact (hM.tail).put (p _) ((Keeps.grown h2).mono (fun k _ hk => ownBlock_blockOf hk)) (e' := owE F E a' (na + 1) c' (xs ++ [y])) h1 (fun k hk => (h3 k hk).imp id (fun e => by omega))
theorem Mem.toOwR {b : Nat} (h : Mem B w0 w (rowE b E #[] :: G)) : Mem B w0 w (owE F E (some ⟨b, 0, none⟩) 0 0 [] :: G) := by
  have h1 := h.ents _ In.here.mem
  obtain ⟨h2, h3⟩ := h1
  refine h.put .here (Keeps.refl _ _) ?_ (fun k hk => ?_)
  · refine ⟨rfl, by omega, by simp, by simp [Fl.cells], .inr ⟨b, 0, #[], rfl, h2, h3, Nat.le_refl _, Nat.zero_le _, by simp, by simp [Fl.cells]⟩⟩
  · obtain ⟨ad, e1, e2⟩ := hk
    injection e1 with e1
    subst e1
    exact .inl e2
end
end Go.Proofs.YtpflnmejbialjaaGreatDoor

/-
  An entry at a place of a list.
-/
namespace Go.Proofs.YtpflnmejbialjaaGreatDoor
set_option linter.unusedSimpArgs false
set_option linter.unusedVariables false
open Go.RowKit

/-- an entry at a place, and the list with another one there -/
def At (G : List Ent) (e : Ent) (F : Ent → List Ent) : Prop := ∃ G1 G2, G = G1 ++ e :: G2 ∧ ∀ e', F e' = G1 ++ e' :: G2
theorem At.here {e : Ent} {G : List Ent} : At (e :: G) e (fun e' => e' :: G) := ⟨[], G, rfl, fun _ => rfl⟩
theorem At.there {e x : Ent} {G : List Ent} {F : Ent → List Ent} (h : At G e F) : At (x :: G) e (fun e' => x :: F e') := by
  obtain ⟨G1, G2, rfl, h2⟩ := h
  exact ⟨x :: G1, G2, rfl, fun e' => by show x :: F e' = _; rw [h2]; rfl⟩
theorem At.put {e : Ent} {G : List Ent} {F : Ent → List Ent} (h : At G e F) (e1 e2 : Ent) : Put (F e1) e1 e2 (F e2) := by
  obtain ⟨G1, G2, _, h2⟩ := h
  exact ⟨G1, G2, h2 e1, h2 e2⟩
theorem At.in {e : Ent} {G : List Ent} {F : Ent → List Ent} (h : At G e F) (e1 : Ent) : In (F e1) e1 := (h.put e1 e1).mem
end Go.Proofs.YtpflnmejbialjaaGreatDoor
