/-
  Bytes as cells.
-/
import Derived.Test.YtpflnmejbialjaaGreatDoorVVoc
import Derived.Test.YtpflnmejbialjaaGreatDoorVStr
import Derived.Test.YtpflnmejbialjaaGreatDoorVNear
import Derived.Test.YtpflnmejbialjaaGreatDoorVClear
import Derived.Test.YtpflnmejbialjaaGreatDoorVMkr
import Derived.Test.YtpflnmejbialjaaGreatDoorVFlood
import Derived.Test.YtpflnmejbialjaaGreatDoorVNear2
import Derived.Deep.LoopGhost
import Derived.Deep.DeepCutAuto
import Derived.Test.YtpflnmejbialjaaGreatDoorVReachS
import Derived.Test.YtpflnmejbialjaaGreatDoorVLaw
import Derived.Test.YtpflnmejbialjaaGreatDoorVRd
import Derived.Test.YtpflnmejbialjaaGreatDoorVWrap
import Derived.Test.YtpflnmejbialjaaGreatDoorProg
import Derived.Lib.ConvBytes
import Derived.Laws.IdiomStrings
/-
  The texts of terrains: the plain laws.
-/
namespace Go.Proofs.YtpflnmejbialjaaGreatDoor
set_option linter.unusedSimpArgs false
set_option linter.unusedVariables false
open Go.RowKit

/-- the letter of a cell; the end of a line behind the last column -/
def cellC (b : Int) : UInt8 := if b = 0 then 46 else UInt8.ofNat (96 + b.toNat)
def lineE (W k : Nat) : Bs := if k % W = W - 1 then [10] else []
theorem div_line {W : Nat} (hW : 0 < W) (k : Nat) : (k + 1) / W = k / W + if k % W = W - 1 then 1 else 0 := by
  have h1 := Nat.div_add_mod k W
  have h2 := Nat.mod_lt k hW
  generalize k / W = q at h1 ⊢
  generalize k % W = r at h1 h2 ⊢
  subst h1
  split
  · rename_i h
    have e : W * q + r + 1 = W * (q + 1) := by rw [Nat.mul_add]; omega
    rw [e, Nat.mul_div_cancel_left _ hW]
  · rename_i h
    have e : W * q + r + 1 = r + 1 + W * q := by omega
    rw [e, Nat.add_mul_div_left _ _ hW, Nat.div_eq_of_lt (by omega)]
    omega
end Go.Proofs.YtpflnmejbialjaaGreatDoor

/-
  Bytes of memory, read as a string.
-/
namespace Go.Proofs.YtpflnmejbialjaaGreatDoor
set_option linter.unusedSimpArgs false
set_option linter.unusedVariables false
open Go.RowKit
section
variable {w : World} {g : Nat} {l : Bs}
theorem wpList_toStringC {ops : Array Oper} {rest : List Oper} {o : Oper} {a : Act} {Q : Exit → Act → World → Prop} {c : Nat} (hc : ∀ j (hj : j < l.length), w.cell? ⟨g, j, none⟩ = some (.int .u8 (l[j].toNat : Int))) (hgd : o.guard = none) (src dst e : TypeId) (x : Operand) (ho : o.op = .convert src dst x) (hx : a.eval x = .slice (some ⟨g, 0, none⟩) l.length c)
    (hs : Tryz.prog.underlying src = some (.slice e)) (he : Tryz.prog.underlying e = some (.int .u8)) (hd : Tryz.prog.underlying dst = some .string)
    (h : wpList Tryz.prog ops Q rest (a.put o.dst (.string (bsA l))) w) : wpList Tryz.prog ops Q (o :: rest) a w := by
  refine wpList_plain hgd fun K hK => ?_
  have hr := run_convert_bytes_back (P := Tryz.prog) w src dst e ⟨g, 0, none⟩ c l hs he hd (fun j hj => by rw [Addr.add_lit, Nat.zero_add]; exact hc j hj)
  unfold Oper.wp execOp
  simp only [ho, hx, hr, Sem.run_bind, Result.andThen_ok, Sem.run_pure]
  exact hK _ _ h
end
end Go.Proofs.YtpflnmejbialjaaGreatDoor

/-
  Bytes as cells.
-/
namespace Go.Proofs.YtpflnmejbialjaaGreatDoor
set_option linter.unusedSimpArgs false
set_option linter.unusedVariables false
open Go.RowKit

/-- bytes as cells -/
def FByt : Fl UInt8 where
  sz := 1
  enc x := [.int .u8 (x.toNat : Int)]
  z := 0
  wf _ := True
  pos := by decide
  len _ := rfl
  one := by
    intro x v hv
    obtain rfl := List.mem_singleton.1 hv
    rfl
end Go.Proofs.YtpflnmejbialjaaGreatDoor
