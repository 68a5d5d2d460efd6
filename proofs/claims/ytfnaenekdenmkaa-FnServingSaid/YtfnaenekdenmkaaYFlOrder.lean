/- Lemmas. -/
import Derived.Test.YtfnaenekdenmkaaYByt2
import Derived.Test.YtfnaenekdenmkaaYPush
import Derived.Test.YtfnaenekdenmkaaYLst
namespace Go.Proofs.Ytfnaenekdenmkaa
set_option linter.unusedSimpArgs false
set_option linter.unusedVariables false
open Go.RowKit

structure OrderI where
  id : Int
  kd : Bs
  ct : Int
  ur : Int
  tk : Int
instance : DecidableEq OrderI := fun a b => decidable_of_iff (a.id = b.id ∧ a.kd = b.kd ∧ a.ct = b.ct ∧ a.ur = b.ur ∧ a.tk = b.tk) (by cases a; cases b; simp [and_assoc])
def OrderI.zero : OrderI := ⟨0, [], 0, 0, 0⟩
def FOrder : Fl OrderI where
  sz := 5
  enc x := [.int .i64 x.id, .string (bsA x.kd), .int .i64 x.ct, .int .i64 x.ur, .int .i64 x.tk]
  z := OrderI.zero
  wf x := I64 x.id ∧ x.kd.length ≤ maxLen ∧ I64 x.ct ∧ I64 x.ur ∧ I64 x.tk
  pos := by decide
  len _ := rfl
  one := by intro x v hv; simp at hv; rcases hv with rfl | rfl | rfl | rfl | rfl <;> rfl
abbrev OrderI.val (x : OrderI) : Value := .agg #[.int .i64 x.id, .string (bsA x.kd), .int .i64 x.ct, .int .i64 x.ur, .int .i64 x.tk]
theorem Rd.cellOrder {w : World} {b off n c : Nat} {xs : List OrderI} (h : Rd FOrder w (some ⟨b, off, none⟩) n c xs) {k : Nat} (hk : k < n) : b < w.heap.size ∧ w.cell? ⟨b, off + k * 5, none⟩ = some (.int .i64 (xs.getD k OrderI.zero).id) ∧ w.cell? ⟨b, off + k * 5 + 1, none⟩ = some (.string (bsA (xs.getD k OrderI.zero).kd)) ∧ w.cell? ⟨b, off + k * 5 + 2, none⟩ = some (.int .i64 (xs.getD k OrderI.zero).ct) ∧ w.cell? ⟨b, off + k * 5 + 3, none⟩ = some (.int .i64 (xs.getD k OrderI.zero).ur) ∧ w.cell? ⟨b, off + k * 5 + 4, none⟩ = some (.int .i64 (xs.getD k OrderI.zero).tk) := by
  obtain ⟨b', off', e, hl, hc⟩ := h.at' k hk
  simp only [Option.some.injEq, Addr.mk.injEq] at e
  obtain ⟨rfl, rfl, _⟩ := e
  exact ⟨hl, by rw [show off + k * 5 = off + (k * FOrder.sz + 0) by show _ = off + (k * 5 + 0); omega]; exact hc k hk 0 (by decide), by rw [show off + k * 5 + 1 = off + (k * FOrder.sz + 1) by show _ = off + (k * 5 + 1); omega]; exact hc k hk 1 (by decide), by rw [show off + k * 5 + 2 = off + (k * FOrder.sz + 2) by show _ = off + (k * 5 + 2); omega]; exact hc k hk 2 (by decide), by rw [show off + k * 5 + 3 = off + (k * FOrder.sz + 3) by show _ = off + (k * 5 + 3); omega]; exact hc k hk 3 (by decide), by rw [show off + k * 5 + 4 = off + (k * FOrder.sz + 4) by show _ = off + (k * 5 + 4); omega]; exact hc k hk 4 (by decide)⟩
theorem Ow.cellOrder {E : TypeId} {B : Nat} {w : World} {g n c : Nat} {xs : List OrderI} (h : Ow FOrder E B w (some ⟨g, 0, none⟩) n c xs) {k : Nat} (hk : k < n) : w.cell? ⟨g, k * 5, none⟩ = some (.int .i64 (xs.getD k OrderI.zero).id) ∧ w.cell? ⟨g, k * 5 + 1, none⟩ = some (.string (bsA (xs.getD k OrderI.zero).kd)) ∧ w.cell? ⟨g, k * 5 + 2, none⟩ = some (.int .i64 (xs.getD k OrderI.zero).ct) ∧ w.cell? ⟨g, k * 5 + 3, none⟩ = some (.int .i64 (xs.getD k OrderI.zero).ur) ∧ w.cell? ⟨g, k * 5 + 4, none⟩ = some (.int .i64 (xs.getD k OrderI.zero).tk) := by
  exact ⟨h.cell hk (j := 0) (by decide), h.cell hk (j := 1) (by decide), h.cell hk (j := 2) (by decide), h.cell hk (j := 3) (by decide), h.cell hk (j := 4) (by decide)⟩
theorem Try.info48 : (Try.prog.info? 48).map (fun i => (i.zero, i.size, i.bytes)) = some (some (.agg #[.int .i64 0, .string ⟨#[]⟩, .int .i64 0, .int .i64 0, .int .i64 0]), 5, 48) := by kernel_rfl
end Go.Proofs.Ytfnaenekdenmkaa
