/-
  Notes in new memory, in order (the program's).
-/
import Derived.Test.YtjnbdgldpmmamaaGreatUNestN
import Derived.Test.YtjnbdgldpmmamaaGreatUSortNote
import Derived.Test.YtjnbdgldpmmamaaGreatUNoteV
import Derived.Test.YtjnbdgldpmmamaaGreatUNoteW
import Derived.Test.YtjnbdgldpmmamaaGreatURegF
/-
  Appends of a slice of records to an owned one, in terms of entries.
-/
namespace Go.Proofs.YtjnbdgldpmmamaaGreat
set_option linter.unusedSimpArgs false
set_option linter.unusedVariables false
open Go.RowKit

section
variable {B : Nat} {w0 w w' : World} {G : List Ent} {G' : Ent → List Ent} {α : Type} {F : Fl α} {E : TypeId}
theorem wpList_appRM {ops : Array Oper} {rest : List Oper} {o : Oper} {a : Act} {Q : Exit → Act → World → Prop} {va : Option Addr} {na ca : Nat} {xs : List α} {xa : Option Addr} {m cx : Nat} {ys : List α} (hM : Mem B w0 w G) (p : ∀ e', Put G (owE F E va na ca xs) e' (G' e')) (hI : Rd F w xa m cx ys) (hroom : (na + m) * F.sz ≤ 17592186044416)
    (i0 : TypeInfo) (z : Value) (bytes : Nat) (hi : Tryz.prog.info? E = some i0) (hz0 : i0.zero = some z) (hz1 : i0.size = F.sz) (hz2 : i0.bytes = bytes) (hzs : z.cells.size = F.sz) (hby : (na + m) * bytes ≤ 140737488355328)
    (hgd : o.guard = none) (s v : Operand) (t : TypeId) (ht : Tryz.prog.underlying t = some (.slice E)) (ho : o.op = .call { callee := .builtin .append, args := #[s, v], argTypes := #[t, t] }) (hs : a.eval s = .slice va na ca) (hv : a.eval v = .slice xa m cx)
    (h : ∀ a' c' w', Mem B w0 w' (G' (owE F E a' (na + m) c' (xs ++ ys))) → wpList Tryz.prog ops Q rest (a.put o.dst (.slice a' (na + m) c')) w') : wpList Tryz.prog ops Q (o :: rest) a w := by
  have ho1 : Ow F E B w va na ca xs := hM.ents _ (p (rowE 0 0 #[])).mem
  refine wpList_appendR hgd s v t ho E i0 z bytes ht hi hz0 hz1 hz2 hzs B va na ca xs hs ho1 xa m cx ys hv hI hroom hby hM.size ?_
  intro a' c' w' h1 h2 h3
  refine h a' c' w' ?_
  exact hM.put (p _) ((Keeps.grown h2).mono (fun k _ hk => ownBlock_blockOf hk)) (e' := owE F E a' (na + m) c' (xs ++ ys)) h1 (fun k hk => (h3 k hk).imp id (fun e => by omega))
theorem step_appRM {ops : Array Oper} {o : Oper} {a : Act} {K : Act → World → Prop} {Q : Exit → Act → World → Prop} {R : Prop} {va : Option Addr} {na ca : Nat} {xs : List α} {xa : Option Addr} {m cx : Nat} {ys : List α} (hM : Mem B w0 w G) (p : ∀ e', Put G (owE F E va na ca xs) e' (G' e')) (hI : Rd F w xa m cx ys) (hroom : (na + m) * F.sz ≤ 17592186044416)
    (i0 : TypeInfo) (z : Value) (bytes : Nat) (hi : Tryz.prog.info? E = some i0) (hz0 : i0.zero = some z) (hz1 : i0.size = F.sz) (hz2 : i0.bytes = bytes) (hzs : z.cells.size = F.sz) (hby : (na + m) * bytes ≤ 140737488355328)
    (hgd : o.guard = none) (s v : Operand) (t : TypeId) (ht : Tryz.prog.underlying t = some (.slice E)) (ho : o.op = .call { callee := .builtin .append, args := #[s, v], argTypes := #[t, t] }) (hs : a.eval s = .slice va na ca) (hv : a.eval v = .slice xa m cx)
    (h : ∀ a' c' w', Mem B w0 w' (G' (owE F E a' (na + m) c' (xs ++ ys))) → K (a.put o.dst (.slice a' (na + m) c')) w') :
    if Region.wanted o (yielded ops a.tmps) = true then Oper.wp Tryz.prog o a w K Q else R := by
  have hw : Region.wanted o (yielded ops a.tmps) = true := by simp [Region.wanted, hgd]
  rw [if_pos hw]
  have ho1 : Ow F E B w va na ca xs := hM.ents _ (p (rowE 0 0 #[])).mem
  refine wp_appendR s v t ho E i0 z bytes ht hi hz0 hz1 hz2 hzs B va na ca xs hs ho1 xa m cx ys hv hI hroom hby hM.size ?_
  intro a' c' w' h1 h2 h3
  refine h a' c' w' ?_
  exact hM.put (p _) ((Keeps.grown h2).mono (fun k _ hk => ownBlock_blockOf hk)) (e' := owE F E a' (na + m) c' (xs ++ ys)) h1 (fun k hk => (h3 k hk).imp id (fun e => by omega))
end
end Go.Proofs.YtjnbdgldpmmamaaGreat

/-
  Notes in new memory, in order (the program's).
-/
namespace Go.Proofs.YtjnbdgldpmmamaaGreat
set_option linter.unusedSimpArgs false
set_option linter.unusedVariables false
open Go.RowKit

theorem insR_perm {α : Type} {lt : α → α → Bool} {x : α} : ∀ {A : List α}, (insR lt x A).Perm (x :: A)
  | [] => List.Perm.refl _
  | a :: A => by
    unfold insR
    split
    · exact List.Perm.refl _
    · exact (List.Perm.cons _ insR_perm).trans (List.Perm.swap ..)
theorem isortG_perm {α : Type} {d : α} {lt : α → α → Bool} : ∀ (m : Nat) (xs : List α), xs.length = m → (isortG d lt xs).Perm xs
  | 0, xs, h => by
    obtain rfl := List.eq_nil_of_length_eq_zero h
    exact List.Perm.refl _
  | m + 1, xs, h => by
    obtain ⟨ys, x, rfl⟩ : ∃ A' a, xs = A' ++ [a] := ⟨xs.dropLast, xs.getLast (by intro e; subst e; simp at h), (List.dropLast_concat_getLast _).symm⟩
    rw [isortG_snoc]
    exact insR_perm.trans ((List.Perm.cons _ (isortG_perm m ys (by simpa using h))).trans (List.perm_append_singleton _ _).symm)
def ltNI (a b : NoteI) : Bool := ltN a.core b.core
theorem sinkG_core (j : Nat) : ∀ (xs : List NoteI), j < xs.length → coreN (sinkG NoteI.zero ltNI j xs) = sinkG NoteC.zero ltN j (coreN xs) := by
  induction j with
  | zero => intro xs _; rfl
  | succ j ih =>
    intro xs h
    rw [sinkG, sinkG, coreN_getD, coreN_getD]
    show coreN (if ltN _ _ then _ else _) = _
    split
    · rw [ih _ (by simp; omega)]
      unfold coreN
      rw [List.map_set, List.map_set]
    · rfl
theorem isortG_core (xs : List NoteI) : coreN (isortG NoteI.zero ltNI xs) = isortG NoteC.zero ltN (coreN xs) := by
  have h : ∀ k, k ≤ xs.length → coreN (isortH NoteI.zero ltNI k xs) = isortH NoteC.zero ltN k (coreN xs) := by
    intro k
    induction k with
    | zero => intro _; rfl
    | succ k ih => intro hk; rw [isortH, isortH, sinkG_core _ _ (by rw [isortH_length]; omega), ih (by omega)]
  unfold isortG
  rw [coreN_len]
  exact h _ (Nat.le_refl _)
theorem compares_note (B : Nat) (w0 : World) (G : List Ent) (xs : List NoteI) : ComparesNote 33 #[] ltNI B w0 G xs := fun x _ y _ w' _ => compareNotes_any x y w'

set_option maxHeartbeats 1000000 in
theorem stableNote_any (B : Nat) (w0 : World) (G : List Ent) (g n c : Nat) (xs : List NoteI) (f : FuncId) (caps : Array Value) (lt : NoteI → NoteI → Bool) (w : World) (hM : Mem B w0 w (owE FNote 40 (some ⟨g, 0, none⟩) n c xs :: G)) (hn : n ≤ 19)
    (hcf : ∀ args w, (callFunc f args).run Tryz.prog w = .ok (.enter f args) w) (hc : ComparesNote f caps lt B w0 G xs) :
    Calls Tryz.prog 83 #[.slice (some ⟨g, 0, none⟩) n c, .int .i64 n, .func (.func f) #[] caps] w fun e w' => e = .returned (.tuple #[]) ∧ Mem B w0 w' (owE FNote 40 (some ⟨g, 0, none⟩) n c (isortG NoteI.zero lt xs) :: G) := by
  have HC := Lib.hid hc; clear hc
  go_enter Tryz.func83, Tryz.ntmps83
  go_wp2
  go_loopw [7, 8] (fun a b wr => a = .int .i64 0 ∧ b = .int .i64 20 ∧ wr = w) (fun _ _ _ => 0)
  case atStart => exact ⟨rfl, rfl, rfl⟩
  case round =>
    obtain ⟨rfl, rfl, rfl⟩ := hrel
    go_wp2_with fail
    refine (insertionNote_any B w0 G g n c xs f caps lt _ hM (by omega) hcf HC.out).mono ?_
    rintro e w2 ⟨rfl, hM2⟩
    go_wp2
    go_loopw [6] (fun a wr => a = .int .i64 20 ∧ wr = w2) (fun _ _ => 0)
    case atStart => exact ⟨rfl, rfl⟩
    case round =>
      obtain ⟨rfl, rfl⟩ := hrel
      go_wp2
      go_end0
      exact ⟨rfl, hM2⟩
theorem sortNote_any (B : Nat) (w0 : World) (G : List Ent) (g n c : Nat) (xs : List NoteI) (f : FuncId) (caps : Array Value) (lt : NoteI → NoteI → Bool) (w : World) (hM : Mem B w0 w (owE FNote 40 (some ⟨g, 0, none⟩) n c xs :: G)) (hn : n ≤ 19)
    (hcf : ∀ args w, (callFunc f args).run Tryz.prog w = .ok (.enter f args) w) (hc : ComparesNote f caps lt B w0 G xs) :
    Calls Tryz.prog 72 #[.slice (some ⟨g, 0, none⟩) n c, .func (.func f) #[] caps] w fun e w' => e = .returned (.tuple #[]) ∧ Mem B w0 w' (owE FNote 40 (some ⟨g, 0, none⟩) n c (isortG NoteI.zero lt xs) :: G) := by
  have HC := Lib.hid hc; clear hc
  go_enter Tryz.func72, Tryz.ntmps72
  go_wp2_with fail
  refine (stableNote_any B w0 G g n c xs f caps lt _ hM hn hcf HC.out).mono ?_
  rintro e w2 ⟨rfl, hM2⟩
  go_wp2
  go_end0
  exact ⟨rfl, hM2⟩
end Go.Proofs.YtjnbdgldpmmamaaGreat
