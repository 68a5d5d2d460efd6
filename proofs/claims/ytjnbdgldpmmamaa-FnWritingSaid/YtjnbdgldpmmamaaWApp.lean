/-
  Appends of a slice of records to an owned one, in terms of entries.
-/
import Derived.Test.YtjnbdgldpmmamaaWPush
/-
  Appends of a slice of records to an owned one, in terms of entries.
-/
namespace Go.Proofs.Ytjnbdgldpmmamaa
set_option linter.unusedSimpArgs false
set_option linter.unusedVariables false
open Go.RowKit

section
variable {B : Nat} {w0 w w' : World} {G : List Ent} {G' : Ent → List Ent} {α : Type} {F : Fl α} {E : TypeId}
theorem wpList_appRM {ops : Array Oper} {rest : List Oper} {o : Oper} {a : Act} {Q : Exit → Act → World → Prop} {va : Option Addr} {na ca : Nat} {xs : List α} {xa : Option Addr} {m cx : Nat} {ys : List α} (hM : Mem B w0 w G) (p : ∀ e', Put G (owE F E va na ca xs) e' (G' e')) (hI : Rd F w xa m cx ys) (hroom : (na + m) * F.sz ≤ 17592186044416)
    (i0 : TypeInfo) (z : Value) (bytes : Nat) (hi : Try.prog.info? E = some i0) (hz0 : i0.zero = some z) (hz1 : i0.size = F.sz) (hz2 : i0.bytes = bytes) (hzs : z.cells.size = F.sz) (hby : (na + m) * bytes ≤ 140737488355328)
    (hgd : o.guard = none) (s v : Operand) (t : TypeId) (ht : Try.prog.underlying t = some (.slice E)) (ho : o.op = .call { callee := .builtin .append, args := #[s, v], argTypes := #[t, t] }) (hs : a.eval s = .slice va na ca) (hv : a.eval v = .slice xa m cx)
    (h : ∀ a' c' w', Mem B w0 w' (G' (owE F E a' (na + m) c' (xs ++ ys))) → wpList Try.prog ops Q rest (a.put o.dst (.slice a' (na + m) c')) w') : wpList Try.prog ops Q (o :: rest) a w := by
  have ho1 : Ow F E B w va na ca xs := hM.ents _ (p (rowE 0 0 #[])).mem
  refine wpList_appendR hgd s v t ho E i0 z bytes ht hi hz0 hz1 hz2 hzs B va na ca xs hs ho1 xa m cx ys hv hI hroom hby hM.size ?_
  intro a' c' w' h1 h2 h3
  refine h a' c' w' ?_
  exact hM.put (p _) ((Keeps.grown h2).mono (fun k _ hk => ownBlock_blockOf hk)) (e' := owE F E a' (na + m) c' (xs ++ ys)) h1 (fun k hk => (h3 k hk).imp id (fun e => by omega))
theorem step_appRM {ops : Array Oper} {o : Oper} {a : Act} {K : Act → World → Prop} {Q : Exit → Act → World → Prop} {R : Prop} {va : Option Addr} {na ca : Nat} {xs : List α} {xa : Option Addr} {m cx : Nat} {ys : List α} (hM : Mem B w0 w G) (p : ∀ e', Put G (owE F E va na ca xs) e' (G' e')) (hI : Rd F w xa m cx ys) (hroom : (na + m) * F.sz ≤ 17592186044416)
    (i0 : TypeInfo) (z : Value) (bytes : Nat) (hi : Try.prog.info? E = some i0) (hz0 : i0.zero = some z) (hz1 : i0.size = F.sz) (hz2 : i0.bytes = bytes) (hzs : z.cells.size = F.sz) (hby : (na + m) * bytes ≤ 140737488355328)
    (hgd : o.guard = none) (s v : Operand) (t : TypeId) (ht : Try.prog.underlying t = some (.slice E)) (ho : o.op = .call { callee := .builtin .append, args := #[s, v], argTypes := #[t, t] }) (hs : a.eval s = .slice va na ca) (hv : a.eval v = .slice xa m cx)
    (h : ∀ a' c' w', Mem B w0 w' (G' (owE F E a' (na + m) c' (xs ++ ys))) → K (a.put o.dst (.slice a' (na + m) c')) w') :
    if Region.wanted o (yielded ops a.tmps) = true then Oper.wp Try.prog o a w K Q else R := by
  have hw : Region.wanted o (yielded ops a.tmps) = true := by simp [Region.wanted, hgd]
  rw [if_pos hw]
  have ho1 : Ow F E B w va na ca xs := hM.ents _ (p (rowE 0 0 #[])).mem
  refine wp_appendR s v t ho E i0 z bytes ht hi hz0 hz1 hz2 hzs B va na ca xs hs ho1 xa m cx ys hv hI hroom hby hM.size ?_
  intro a' c' w' h1 h2 h3
  refine h a' c' w' ?_
  exact hM.put (p _) ((Keeps.grown h2).mono (fun k _ hk => ownBlock_blockOf hk)) (e' := owE F E a' (na + m) c' (xs ++ ys)) h1 (fun k hk => (h3 k hk).imp id (fun e => by omega))
end
end Go.Proofs.Ytjnbdgldpmmamaa
