/-
  Loops over the bytes of a string: both sides.
-/
import Derived.Test.YtfnaenekdenmkaaYByt2
import Derived.Test.YtfnaenekdenmkaaYPush
import Derived.Test.YtfnaenekdenmkaaYLst
namespace Go.Proofs.Ytfnaenekdenmkaa
set_option linter.unusedSimpArgs false
set_option linter.unusedVariables false
open Go.RowKit

structure StockI where
  kd : Bs
  ct : Int
instance : DecidableEq StockI := fun a b => decidable_of_iff (a.kd = b.kd ∧ a.ct = b.ct) (by cases a; cases b; simp [and_assoc])
def StockI.zero : StockI := ⟨[], 0⟩
def FStock : Fl StockI where
  sz := 2
  enc x := [.string (bsA x.kd), .int .i64 x.ct]
  z := StockI.zero
  wf x := x.kd.length ≤ maxLen ∧ I64 x.ct
  pos := by decide
  len _ := rfl
  one := by intro x v hv; simp at hv; rcases hv with rfl | rfl <;> rfl
abbrev StockI.val (x : StockI) : Value := .agg #[.string (bsA x.kd), .int .i64 x.ct]
theorem Rd.cellStock {w : World} {b off n c : Nat} {xs : List StockI} (h : Rd FStock w (some ⟨b, off, none⟩) n c xs) {k : Nat} (hk : k < n) : b < w.heap.size ∧ w.cell? ⟨b, off + k * 2, none⟩ = some (.string (bsA (xs.getD k StockI.zero).kd)) ∧ w.cell? ⟨b, off + k * 2 + 1, none⟩ = some (.int .i64 (xs.getD k StockI.zero).ct) := by
  obtain ⟨b', off', e, hl, hc⟩ := h.at' k hk
  simp only [Option.some.injEq, Addr.mk.injEq] at e
  obtain ⟨rfl, rfl, _⟩ := e
  exact ⟨hl, by rw [show off + k * 2 = off + (k * FStock.sz + 0) by show _ = off + (k * 2 + 0); omega]; exact hc k hk 0 (by decide), by rw [show off + k * 2 + 1 = off + (k * FStock.sz + 1) by show _ = off + (k * 2 + 1); omega]; exact hc k hk 1 (by decide)⟩
theorem Ow.cellStock {E : TypeId} {B : Nat} {w : World} {g n c : Nat} {xs : List StockI} (h : Ow FStock E B w (some ⟨g, 0, none⟩) n c xs) {k : Nat} (hk : k < n) : w.cell? ⟨g, k * 2, none⟩ = some (.string (bsA (xs.getD k StockI.zero).kd)) ∧ w.cell? ⟨g, k * 2 + 1, none⟩ = some (.int .i64 (xs.getD k StockI.zero).ct) := by
  exact ⟨h.cell hk (j := 0) (by decide), h.cell hk (j := 1) (by decide)⟩
theorem Ow.putStock {E : TypeId} {B : Nat} {w : World} {g n c : Nat} {xs : List StockI} (h : Ow FStock E B w (some ⟨g, 0, none⟩) n c xs) {k : Nat} (hk : k < n) (y : StockI) (hw : FStock.wf y) : Ow FStock E B ((w.setCell ⟨g, k * 2, none⟩ (.string (bsA y.kd))).setCell ⟨g, k * 2 + 1, none⟩ (.int .i64 y.ct)) (some ⟨g, 0, none⟩) n c (xs.set k y) :=
  h.putRec hk y hw
theorem Mem.putStock {E : TypeId} {B : Nat} {w0 w : World} {G G' : List Ent} {g n c : Nat} {xs : List StockI} (h : Mem B w0 w G) {k : Nat} (hk : k < n) (y : StockI) (hw : FStock.wf y) (p : Put G (owE FStock E (some ⟨g, 0, none⟩) n c xs) (owE FStock E (some ⟨g, 0, none⟩) n c (xs.set k y)) G') : Mem B w0 ((w.setCell ⟨g, k * 2, none⟩ (.string (bsA y.kd))).setCell ⟨g, k * 2 + 1, none⟩ (.int .i64 y.ct)) G' :=
  h.put p (setRec_keeps (d := blockOf (some ⟨g, 0, none⟩)) g ⟨_, rfl, rfl⟩ (FStock.enc y) (k * 2) w) ((h.ow p.mem').putStock hk y hw) (fun k hk => .inl hk)
theorem Mem.setStock1 {E : TypeId} {B : Nat} {w0 w : World} {G G' : List Ent} {g n c : Nat} {xs : List StockI} (h : Mem B w0 w G) {k : Nat} (hk : k < n) (s : Int) (hs : I64 s) (y : StockI) (hy : xs.getD k StockI.zero = y) (hwf : FStock.wf y) (p : Put G (owE FStock E (some ⟨g, 0, none⟩) n c xs) (owE FStock E (some ⟨g, 0, none⟩) n c (xs.set k { y with ct := s })) G') : Mem B w0 (w.setCell ⟨g, k * 2 + 1, none⟩ (.int .i64 s)) G' := by
  subst hy
  have h2 := h.setR (F := FStock) (xs := xs) (i := k) (j := 1) (v := .int .i64 s) ({ xs.getD k StockI.zero with ct := s } : StockI) p hk (by decide) rfl ⟨hwf.1, hs⟩
  exact h2
theorem Try.info46 : (Try.prog.info? 46).map (fun i => (i.zero, i.size, i.bytes)) = some (some (.agg #[.string ⟨#[]⟩, .int .i64 0]), 2, 24) := by kernel_rfl
end Go.Proofs.Ytfnaenekdenmkaa

/-
  Loops over the bytes of a string: both sides.
-/
namespace Go.Proofs.Ytfnaenekdenmkaa
set_option linter.unusedSimpArgs false
set_option linter.unusedVariables false
open Go.RowKit

theorem all_takeB {p : UInt8 → Bool} {l : Bs} {k : Nat} (hk : k < l.length) : (l.take (k + 1)).all p = ((l.take k).all p && p (l.getD k 0)) := by
  rw [List.take_succ_eq_append_getElem hk, List.all_append]
  simp [List.getD, hk]
theorem all_falseB {p : UInt8 → Bool} {l : Bs} {k : Nat} (hk : k < l.length) (h : p (l.getD k 0) = false) : l.all p = false := by
  rw [List.all_eq_false]
  exact ⟨l[k], List.getElem_mem hk, by simpa [List.getD, hk] using h⟩
theorem byte_lt (x : UInt8) : x.toNat < 256 := x.toNat_lt

end Go.Proofs.Ytfnaenekdenmkaa
