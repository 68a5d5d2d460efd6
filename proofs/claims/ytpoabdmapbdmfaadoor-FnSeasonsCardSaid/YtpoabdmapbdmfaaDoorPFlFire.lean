/- Lemmas. -/
import Derived.Test.YtpoabdmapbdmfaaDoorPRd
import Derived.Test.YtpoabdmapbdmfaaDoorPLst
namespace Go.Proofs.YtpoabdmapbdmfaaDoor
set_option linter.unusedSimpArgs false
set_option linter.unusedVariables false
open Go.RowKit

structure FireI where
  day : Int
  cause : Int
  hect : Int
  hours : Int
instance : DecidableEq FireI := fun a b => decidable_of_iff (a.day = b.day ∧ a.cause = b.cause ∧ a.hect = b.hect ∧ a.hours = b.hours) (by cases a; cases b; simp [and_assoc])
def FireI.zero : FireI := ⟨0, 0, 0, 0⟩
def FFire : Fl FireI where
  sz := 4
  enc x := [.int .i64 x.day, .int .i64 x.cause, .int .i64 x.hect, .int .i64 x.hours]
  z := FireI.zero
  wf x := I64 x.day ∧ I64 x.cause ∧ I64 x.hect ∧ I64 x.hours
  pos := by decide
  len _ := rfl
  one := by intro x v hv; simp at hv; rcases hv with rfl | rfl | rfl | rfl <;> rfl
abbrev FireI.val (x : FireI) : Value := .agg #[.int .i64 x.day, .int .i64 x.cause, .int .i64 x.hect, .int .i64 x.hours]
theorem Rd.cellFire {w : World} {b off n c : Nat} {xs : List FireI} (h : Rd FFire w (some ⟨b, off, none⟩) n c xs) {k : Nat} (hk : k < n) : b < w.heap.size ∧ w.cell? ⟨b, off + k * 4, none⟩ = some (.int .i64 (xs.getD k FireI.zero).day) ∧ w.cell? ⟨b, off + k * 4 + 1, none⟩ = some (.int .i64 (xs.getD k FireI.zero).cause) ∧ w.cell? ⟨b, off + k * 4 + 2, none⟩ = some (.int .i64 (xs.getD k FireI.zero).hect) ∧ w.cell? ⟨b, off + k * 4 + 3, none⟩ = some (.int .i64 (xs.getD k FireI.zero).hours) := by
  obtain ⟨b', off', e, hl, hc⟩ := h.at' k hk
  simp only [Option.some.injEq, Addr.mk.injEq] at e
  obtain ⟨rfl, rfl, _⟩ := e
  exact ⟨hl, by rw [show off + k * 4 = off + (k * FFire.sz + 0) by show _ = off + (k * 4 + 0); omega]; exact hc k hk 0 (by decide), by rw [show off + k * 4 + 1 = off + (k * FFire.sz + 1) by show _ = off + (k * 4 + 1); omega]; exact hc k hk 1 (by decide), by rw [show off + k * 4 + 2 = off + (k * FFire.sz + 2) by show _ = off + (k * 4 + 2); omega]; exact hc k hk 2 (by decide), by rw [show off + k * 4 + 3 = off + (k * FFire.sz + 3) by show _ = off + (k * 4 + 3); omega]; exact hc k hk 3 (by decide)⟩
theorem Ow.cellFire {E : TypeId} {B : Nat} {w : World} {g n c : Nat} {xs : List FireI} (h : Ow FFire E B w (some ⟨g, 0, none⟩) n c xs) {k : Nat} (hk : k < n) : w.cell? ⟨g, k * 4, none⟩ = some (.int .i64 (xs.getD k FireI.zero).day) ∧ w.cell? ⟨g, k * 4 + 1, none⟩ = some (.int .i64 (xs.getD k FireI.zero).cause) ∧ w.cell? ⟨g, k * 4 + 2, none⟩ = some (.int .i64 (xs.getD k FireI.zero).hect) ∧ w.cell? ⟨g, k * 4 + 3, none⟩ = some (.int .i64 (xs.getD k FireI.zero).hours) := by
  exact ⟨h.cell hk (j := 0) (by decide), h.cell hk (j := 1) (by decide), h.cell hk (j := 2) (by decide), h.cell hk (j := 3) (by decide)⟩
theorem Ow.putFire {E : TypeId} {B : Nat} {w : World} {g n c : Nat} {xs : List FireI} (h : Ow FFire E B w (some ⟨g, 0, none⟩) n c xs) {k : Nat} (hk : k < n) (y : FireI) (hw : FFire.wf y) : Ow FFire E B ((((w.setCell ⟨g, k * 4, none⟩ (.int .i64 y.day)).setCell ⟨g, k * 4 + 1, none⟩ (.int .i64 y.cause)).setCell ⟨g, k * 4 + 2, none⟩ (.int .i64 y.hect)).setCell ⟨g, k * 4 + 3, none⟩ (.int .i64 y.hours)) (some ⟨g, 0, none⟩) n c (xs.set k y) :=
  h.putRec hk y hw
theorem Mem.putFire {E : TypeId} {B : Nat} {w0 w : World} {G G' : List Ent} {g n c : Nat} {xs : List FireI} (h : Mem B w0 w G) {k : Nat} (hk : k < n) (y : FireI) (hw : FFire.wf y) (p : Put G (owE FFire E (some ⟨g, 0, none⟩) n c xs) (owE FFire E (some ⟨g, 0, none⟩) n c (xs.set k y)) G') : Mem B w0 ((((w.setCell ⟨g, k * 4, none⟩ (.int .i64 y.day)).setCell ⟨g, k * 4 + 1, none⟩ (.int .i64 y.cause)).setCell ⟨g, k * 4 + 2, none⟩ (.int .i64 y.hect)).setCell ⟨g, k * 4 + 3, none⟩ (.int .i64 y.hours)) G' :=
  h.put p (setRec_keeps (d := blockOf (some ⟨g, 0, none⟩)) g ⟨_, rfl, rfl⟩ (FFire.enc y) (k * 4) w) ((h.ow p.mem').putFire hk y hw) (fun k hk => .inl hk)
theorem Tryd.info33 : (Tryd.prog.info? 33).map (fun i => (i.zero, i.size, i.bytes)) = some (some (.agg #[.int .i64 0, .int .i64 0, .int .i64 0, .int .i64 0]), 4, 32) := by kernel_rfl
end Go.Proofs.YtpoabdmapbdmfaaDoor
