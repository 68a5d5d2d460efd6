import Derived.Test.YtdhgkfmehegeoaaRd
import Derived.Test.YtdhgkfmehegeoaaWind
import Derived.Test.YtdhgkfmehegeoaaWinds
import Derived.Test.YtdhgkfmehegeoaaLaw
namespace Go.Proofs.Ytdhgkfmehegeoaa
set_option linter.unusedSimpArgs false
set_option linter.unusedVariables false
open Go.RowKit

def WindI.zero : WindI := ⟨0, 0, 0⟩
def FWind : Fl WindI where
  sz := 3
  enc x := [.int .i64 x.e, .int .i64 x.s, .int .i64 x.q]
  z := WindI.zero
  wf x := I64 x.e ∧ I64 x.s ∧ I64 x.q
  pos := by decide
  len _ := rfl
  one := by intro x v hv; simp at hv; rcases hv with rfl | rfl | rfl <;> rfl
abbrev WindI.val (x : WindI) : Value := .agg #[.int .i64 x.e, .int .i64 x.s, .int .i64 x.q]
theorem Rd.cellWind {w : World} {b off n c : Nat} {xs : List WindI} (h : Rd FWind w (some ⟨b, off, none⟩) n c xs) {k : Nat} (hk : k < n) : b < w.heap.size ∧ w.cell? ⟨b, off + k * 3, none⟩ = some (.int .i64 (xs.getD k WindI.zero).e) ∧ w.cell? ⟨b, off + k * 3 + 1, none⟩ = some (.int .i64 (xs.getD k WindI.zero).s) ∧ w.cell? ⟨b, off + k * 3 + 2, none⟩ = some (.int .i64 (xs.getD k WindI.zero).q) := by
  obtain ⟨b', off', e, hl, hc⟩ := h.at' k hk
  simp only [Option.some.injEq, Addr.mk.injEq] at e
  obtain ⟨rfl, rfl, _⟩ := e
  exact ⟨hl, by rw [show off + k * 3 = off + (k * FWind.sz + 0) by show _ = off + (k * 3 + 0); omega]; exact hc k hk 0 (by decide), by rw [show off + k * 3 + 1 = off + (k * FWind.sz + 1) by show _ = off + (k * 3 + 1); omega]; exact hc k hk 1 (by decide), by rw [show off + k * 3 + 2 = off + (k * FWind.sz + 2) by show _ = off + (k * 3 + 2); omega]; exact hc k hk 2 (by decide)⟩
theorem Ow.cellWind {E : TypeId} {B : Nat} {w : World} {g n c : Nat} {xs : List WindI} (h : Ow FWind E B w (some ⟨g, 0, none⟩) n c xs) {k : Nat} (hk : k < n) : w.cell? ⟨g, k * 3, none⟩ = some (.int .i64 (xs.getD k WindI.zero).e) ∧ w.cell? ⟨g, k * 3 + 1, none⟩ = some (.int .i64 (xs.getD k WindI.zero).s) ∧ w.cell? ⟨g, k * 3 + 2, none⟩ = some (.int .i64 (xs.getD k WindI.zero).q) := by
  exact ⟨h.cell hk (j := 0) (by decide), h.cell hk (j := 1) (by decide), h.cell hk (j := 2) (by decide)⟩
theorem Ow.putWind {E : TypeId} {B : Nat} {w : World} {g n c : Nat} {xs : List WindI} (h : Ow FWind E B w (some ⟨g, 0, none⟩) n c xs) {k : Nat} (hk : k < n) (y : WindI) (hw : FWind.wf y) : Ow FWind E B (((w.setCell ⟨g, k * 3, none⟩ (.int .i64 y.e)).setCell ⟨g, k * 3 + 1, none⟩ (.int .i64 y.s)).setCell ⟨g, k * 3 + 2, none⟩ (.int .i64 y.q)) (some ⟨g, 0, none⟩) n c (xs.set k y) :=
  h.putRec hk y hw
theorem Mem.putWind {E : TypeId} {B : Nat} {w0 w : World} {G G' : List Ent} {g n c : Nat} {xs : List WindI} (h : Mem B w0 w G) {k : Nat} (hk : k < n) (y : WindI) (hw : FWind.wf y) (p : Put G (owE FWind E (some ⟨g, 0, none⟩) n c xs) (owE FWind E (some ⟨g, 0, none⟩) n c (xs.set k y)) G') : Mem B w0 (((w.setCell ⟨g, k * 3, none⟩ (.int .i64 y.e)).setCell ⟨g, k * 3 + 1, none⟩ (.int .i64 y.s)).setCell ⟨g, k * 3 + 2, none⟩ (.int .i64 y.q)) G' :=
  h.put p (setRec_keeps (d := blockOf (some ⟨g, 0, none⟩)) g ⟨_, rfl, rfl⟩ (FWind.enc y) (k * 3) w) ((h.ow p.mem').putWind hk y hw) (fun k hk => .inl hk)
theorem Try.info37 : (Try.prog.info? 37).map (fun i => (i.zero, i.size, i.bytes)) = some (some (.agg #[.int .i64 0, .int .i64 0, .int .i64 0]), 3, 24) := by kernel_rfl
end Go.Proofs.Ytdhgkfmehegeoaa
