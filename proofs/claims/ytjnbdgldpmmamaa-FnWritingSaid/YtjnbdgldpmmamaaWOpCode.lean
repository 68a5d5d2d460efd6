/-
  The code that a law draws from, as it is read; is it too long.
-/
import Derived.Test.YtjnbdgldpmmamaaWCur
import Derived.Test.YtjnbdgldpmmamaaWLawV
/-
  The code that a law draws from, as it is read; is it too long.
-/
namespace Go.Proofs.Ytjnbdgldpmmamaa
set_option linter.unusedSimpArgs false
set_option linter.unusedVariables false
open Go.ChangeShapes Go.WideShapes Go.ChangeAt Go.RowKit Go.Joins

theorem Try.cellsC5 : Try.prog.cellsOf 5 = 1 := by kernel_rfl
theorem codeRd {W : World} {ad : Addr} {len cap : Nat} {zs : List Int} (hl : len ≤ cap) (hm : cap ≤ maxLen) (hz : zs.length = cap) (hcell : ∀ i, i < zs.length → W.cell? (ad.add i) = some (.int .u8 (zs.getD i 0))) (hwz : ∀ n ∈ zs, (Lit.int .u8 n).wf = true) (hs : len ≤ 65536) : Rd FByt W (some ad) len cap ((zs.take len).map fun z => UInt8.ofNat z.toNat) := by
  refine ⟨by rw [List.length_map, List.length_take]; omega, hl, hm, fun e => (by simp at e), by show len * 1 ≤ _; omega, fun _ _ => trivial, fun k hk => ?_⟩
  have h0 := hcell 0 (by omega)
  obtain ⟨b, off, spot⟩ := ad
  obtain rfl : spot = none := by
    cases spot with
    | none => rfl
    | some s =>
      simp only [Addr.add, if_true, World.cell?] at h0
      split at h0
      · simp at h0
      · cases h0
  refine ⟨b, off, rfl, World.block_lt_of_cell? W _ h0, fun i hi j hj => ?_⟩
  obtain rfl : j = 0 := by
    have : j < 1 := hj
    omega
  have hci := hcell i (by omega)
  rw [Addr.add_lit] at hci
  show W.cell? ⟨b, off + (i * 1 + 0), none⟩ = _
  rw [show off + (i * 1 + 0) = off + i by omega, hci]
  have hiz : i < zs.length := by omega
  have hg : zs.getD i 0 = zs[i] := by simp [List.getD, hiz]
  have hw := hwz zs[i] (List.getElem_mem hiz)
  have hb : 0 ≤ zs[i] ∧ zs[i] ≤ 255 := by simpa [Lit.wf, IntKind.min, IntKind.max, IntKind.signed, IntKind.bits] using hw
  rw [hg]
  have hx : (((zs.take len).map fun z => UInt8.ofNat z.toNat).getD i FByt.z) = UInt8.ofNat zs[i].toNat := by
    simp [List.getD, List.getElem?_take, hi, hiz]
  rw [hx]
  have ht : ((UInt8.ofNat zs[i].toNat).toNat : Int) = zs[i] := by
    rw [UInt8.toNat_ofNat']
    omega
  rw [show FByt.enc (UInt8.ofNat zs[i].toNat) = [.int .u8 ((UInt8.ofNat zs[i].toNat).toNat : Int)] from rfl, ht]
  rfl

set_option maxRecDepth 100000 in
theorem openCode {H : Type} {enc : TypeId × Value → H} {W : World} {base : Nat} {v : Value} {d : DataW H} {p : List MemPlace} (hval : Value.okWide Try.prog W .any base 31 v) (h : DataW.Trod enc Try.prog W 0 (fun _ => true) true 31 v d p) : ∃ a n c l, v = .slice a n c ∧ n ≤ maxLen ∧ (n ≤ 65536 → Rd FByt W a n c l) := by
  obtain ⟨f, hf⟩ := h
  obtain ⟨b0, l0, cc0, rfl⟩ := okWide_slice Try.underlying31 hval
  rcases open_ints Try.underlying31 Try.underlying5 Try.cellsC5 hf with ⟨e, -⟩ | ⟨a, len, cap, zs, e, _, hl, hm, hz, _, hcell, hwz⟩
  · obtain ⟨rfl, rfl, rfl⟩ : b0 = none ∧ l0 = 0 ∧ cc0 = 0 := by simpa [Value.cells] using e
    exact ⟨none, 0, 0, [], rfl, Nat.zero_le _, fun _ => ⟨rfl, Nat.le_refl _, Nat.zero_le _, fun _ => rfl, by omega, by simp, fun k hk => by omega⟩⟩
  · obtain ⟨rfl, rfl, rfl⟩ : b0 = some a ∧ l0 = len ∧ cc0 = cap := by simpa [Value.cells] using e
    simp only [if_true] at hz
    exact ⟨some a, l0, cc0, _, rfl, Nat.le_trans hl hm, fun hs => codeRd hl hm hz hcell hwz hs⟩
set_option maxRecDepth 100000 in
theorem vBig_any (a : Option Addr) (n c : Nat) (w : World) :
    Calls Try.prog 12 #[.slice a n c] w fun e w' => e = .returned (.bool (decide (65536 < n))) ∧ Below w.heap.size w w' := by
  by_cases h : 65536 < n
  all_goals
    go_enter Try.func12, Try.ntmps12
    go_wp2
    go_ret
    exact ⟨rb (by simp [h]; try omega), Below.refl _ _⟩
end Go.Proofs.Ytjnbdgldpmmamaa
