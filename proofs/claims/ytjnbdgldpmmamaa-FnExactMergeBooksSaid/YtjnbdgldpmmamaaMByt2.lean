/-
  Bytes of memory, read as a string.
-/
import Derived.Test.YtjnbdgldpmmamaaProg
import Derived.Test.YtjnbdgldpmmamaaMStr
import Derived.Lib.ConvBytes
import Derived.Laws.IdiomStrings
/-
  Bytes of memory, read as a string.
-/
namespace Go.Proofs.Ytjnbdgldpmmamaa
set_option linter.unusedSimpArgs false
set_option linter.unusedVariables false
open Go.RowKit
section
variable {w : World} {g : Nat} {l : Bs}
theorem wpList_toStringC {ops : Array Oper} {rest : List Oper} {o : Oper} {a : Act} {Q : Exit → Act → World → Prop} {c : Nat} (hc : ∀ j (hj : j < l.length), w.cell? ⟨g, j, none⟩ = some (.int .u8 (l[j].toNat : Int))) (hgd : o.guard = none) (src dst e : TypeId) (x : Operand) (ho : o.op = .convert src dst x) (hx : a.eval x = .slice (some ⟨g, 0, none⟩) l.length c)
    (hs : Try.prog.underlying src = some (.slice e)) (he : Try.prog.underlying e = some (.int .u8)) (hd : Try.prog.underlying dst = some .string)
    (h : wpList Try.prog ops Q rest (a.put o.dst (.string (bsA l))) w) : wpList Try.prog ops Q (o :: rest) a w := by
  refine wpList_plain hgd fun K hK => ?_
  have hr := run_convert_bytes_back (P := Try.prog) w src dst e ⟨g, 0, none⟩ c l hs he hd (fun j hj => by rw [Addr.add_lit, Nat.zero_add]; exact hc j hj)
  unfold Oper.wp execOp
  simp only [ho, hx, hr, Sem.run_bind, Result.andThen_ok, Sem.run_pure]
  exact hK _ _ h
end
end Go.Proofs.Ytjnbdgldpmmamaa
