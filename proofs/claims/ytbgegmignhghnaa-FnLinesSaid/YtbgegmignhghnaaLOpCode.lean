/-
  The code that a law draws from, as it is read; is it too long.
-/
import Derived.Test.YtbgegmignhghnaaLFlowX
import Derived.Test.YtbgegmignhghnaaLFlowZ
import Derived.Test.YtbgegmignhghnaaLCur
import Derived.Test.YtbgegmignhghnaaLDrawSmk
/-
  What the law on lines asks for: plain Lean.
-/
namespace Go.Proofs.Ytbgegmignhghnaa
set_option linter.unusedSimpArgs false
set_option linter.unusedVariables false
open Go.RowKit

section
variable {W H : Int} {xs ss ts : List Int} {v : Int} {ok fine known : Bool} {best near : List Int}
theorem best_few (hq : fewestR W H xs ss ts = (v, ok)) (hb : bestR W H xs ss ts = ⟨best, fine⟩) : fine = (ok && decide (v ≤ 3)) := by
  unfold fewestR at hq
  unfold bestR at hb
  cases e : caseB W H xs xs.length ss ts && !openB W.toNat xs.length xs ss ts
  · rw [e] at hq hb
    injection hq with h1 h2
    injection hb with h3 h4
    subst h2 h4
    rfl
  · rw [e] at hq hb
    injection hq with h1 h2
    subst h1 h2
    rw [Bool.true_and] at hb ⊢
    split at hb
    · rename_i h5
      injection hb with h3 h4
      rw [← h4, h5]
    · rename_i h5
      injection hb with h3 h4
      rw [← h4]
      exact (Bool.eq_false_iff.2 h5).symm
theorem best_ok (hq : fewestR W H xs ss ts = (v, ok)) (hb : bestR W H xs ss ts = ⟨best, true⟩) : isLineR W H xs ss ts best = ⟨true, true⟩ ∧ trimR W H xs ss ts best = ⟨best, true⟩ ∧ (best.length : Int) = v := by
  unfold fewestR at hq
  unfold bestR at hb
  split at hb
  rotate_left
  · injection hb with _ h; cases h
  rename_i h
  rw [Bool.and_eq_true, Bool.and_eq_true, Bool.not_eq_true', decide_eq_true_eq] at h
  obtain ⟨⟨hc, ho⟩, h3⟩ := h
  rw [hc, ho] at hq
  injection hq with h1 h2
  injection hb with h5 _
  obtain ⟨Wn, Hn, rfl, rfl, hnp, hn25, hW, hxs, hs, ht, hd⟩ := best_case hc
  rw [Int.toNat_natCast] at *
  obtain ⟨k, hk⟩ := few_of (free_line (n := xs.length) (near := nearN Wn) (burn := brn xs) (src := fun k => hasI ss (k : Nat)) (snk := fun k => hasI ts (k : Nat)) (fun c _ h1 => hd _ (hasI_iff.1 h1)) (open_no ho))
  have hk2 : FewT Wn xs.length xs ss ts k := hk
  have hv := fewV_of hk2
  obtain ⟨r, hr⟩ := Option.isSome_iff_exists.1 (few_ext hk2 ht)
  rw [hv, Int.toNat_natCast, hr] at h5
  dsimp only [Option.getD_some] at h5
  subst h5
  obtain ⟨h6, h7, h8⟩ := extL_line k [] r (setB_iff.2 ⟨List.Pairwise.nil, by simp⟩) hr
  have hl : r.length = k := by rw [h7]; simp
  refine ⟨?_, ?_, ?_⟩
  · rw [isLineR, hc, Int.toNat_natCast, h6, h8]; rfl
  · rw [trimR, hc, Int.toNat_natCast, h6, h8]
    have := trim_min h6 ht h8 (by rw [hl]; exact hk2) r (fun _ h => h)
    show (⟨trimTo Wn xs.length xs ss ts r r, true⟩ : LB) = _
    unfold trimTo
    rw [this]
  · rw [← h1, hv, hl]
theorem near_ok (hq : fewestR W H xs ss ts = (v, ok)) (hb : nearestR W H xs ss ts = ⟨near, true⟩) : isLineR W H xs ss ts near = ⟨true, true⟩ ∧ ok = true ∧ v ≤ near.length := by
  unfold nearestR at hb
  split at hb
  rotate_left
  · injection hb with _ h; cases h
  rename_i h
  rw [Bool.and_eq_true] at h
  obtain ⟨hc, hl⟩ := h
  injection hb with h5 _
  obtain ⟨Wn, Hn, rfl, rfl, hnp, hn25, hW, hxs, hs, ht, hd⟩ := best_case hc
  rw [Int.toNat_natCast] at *
  obtain ⟨i1, i2, -, -⟩ := trim_inv ht (nearL Wn xs.length xs ss ts) _ (show setB xs.length (nearL Wn xs.length xs ss ts) = true from setB_cells _ _) hl
  unfold trimTo at h5
  rw [h5] at i1 i2
  have ho := line_open i1 hs ht i2
  unfold fewestR at hq
  rw [hc, Int.toNat_natCast, ho] at hq
  injection hq with h1 h2
  obtain ⟨k, hk⟩ := few_of ((lineB_iff i1 ht).1 i2)
  have hk2 : FewT Wn xs.length xs ss ts k := hk
  have hv := fewV_of hk2
  refine ⟨?_, h2.symm, ?_⟩
  · rw [isLineR, hc, Int.toNat_natCast, i1, i2]; rfl
  · rw [← h1, hv]
    exact few_le hk2 i1 ht i2
end
end Go.Proofs.Ytbgegmignhghnaa

/-
  The code that a law draws from, as it is read; is it too long.
-/
namespace Go.Proofs.Ytbgegmignhghnaa
set_option linter.unusedSimpArgs false
set_option linter.unusedVariables false
open Go.ChangeShapes Go.WideShapes Go.ChangeAt Go.RowKit Go.Joins

theorem Try.cellsC5 : Try.prog.cellsOf 5 = 1 := by kernel_rfl
theorem codeRd {W : World} {ad : Addr} {len cap : Nat} {zs : List Int} (hl : len ≤ cap) (hm : cap ≤ maxLen) (hz : zs.length = cap) (hcell : ∀ i, i < zs.length → W.cell? (ad.add i) = some (.int .u8 (zs.getD i 0))) (hwz : ∀ n ∈ zs, (Lit.int .u8 n).wf = true) (hs : len ≤ 65536) : Rd FByt W (some ad) len cap ((zs.take len).map fun z => UInt8.ofNat z.toNat) := by
  refine ⟨by rw [List.length_map, List.length_take]; omega, hl, hm, fun e => (by simp at e), by show len * 1 ≤ _; omega, fun _ _ => trivial, fun k hk => ?_⟩
  have h0 := hcell 0 (by omega)
  obtain ⟨b, off, spot⟩ := ad
  obtain rfl : spot = none := by
    cases spot with
    | none => rfl
    | some s =>
      simp only [Addr.add, if_true, World.cell?] at h0
      split at h0
      · simp at h0
      · cases h0
  refine ⟨b, off, rfl, World.block_lt_of_cell? W _ h0, fun i hi j hj => ?_⟩
  obtain rfl : j = 0 := by
    have : j < 1 := hj
    omega
  have hci := hcell i (by omega)
  rw [Addr.add_lit] at hci
  show W.cell? ⟨b, off + (i * 1 + 0), none⟩ = _
  rw [show off + (i * 1 + 0) = off + i by omega, hci]
  have hiz : i < zs.length := by omega
  have hg : zs.getD i 0 = zs[i] := by simp [List.getD, hiz]
  have hw := hwz zs[i] (List.getElem_mem hiz)
  have hb : 0 ≤ zs[i] ∧ zs[i] ≤ 255 := by simpa [Lit.wf, IntKind.min, IntKind.max, IntKind.signed, IntKind.bits] using hw
  rw [hg]
  have hx : (((zs.take len).map fun z => UInt8.ofNat z.toNat).getD i FByt.z) = UInt8.ofNat zs[i].toNat := by
    simp [List.getD, List.getElem?_take, hi, hiz]
  rw [hx]
  have ht : ((UInt8.ofNat zs[i].toNat).toNat : Int) = zs[i] := by
    rw [UInt8.toNat_ofNat']
    omega
  rw [show FByt.enc (UInt8.ofNat zs[i].toNat) = [.int .u8 ((UInt8.ofNat zs[i].toNat).toNat : Int)] from rfl, ht]
  rfl

set_option maxRecDepth 100000 in
theorem openCode {H : Type} {enc : TypeId × Value → H} {W : World} {base : Nat} {v : Value} {d : DataW H} {p : List MemPlace} (hval : Value.okWide Try.prog W .any base 22 v) (h : DataW.Trod enc Try.prog W 0 (fun _ => true) true 22 v d p) : ∃ a n c l, v = .slice a n c ∧ n ≤ maxLen ∧ (n ≤ 65536 → Rd FByt W a n c l) := by
  obtain ⟨f, hf⟩ := h
  obtain ⟨b0, l0, cc0, rfl⟩ := okWide_slice Try.underlying22 hval
  rcases open_ints Try.underlying22 Try.underlying5 Try.cellsC5 hf with ⟨e, -⟩ | ⟨a, len, cap, zs, e, _, hl, hm, hz, _, hcell, hwz⟩
  · obtain ⟨rfl, rfl, rfl⟩ : b0 = none ∧ l0 = 0 ∧ cc0 = 0 := by simpa [Value.cells] using e
    exact ⟨none, 0, 0, [], rfl, Nat.zero_le _, fun _ => ⟨rfl, Nat.le_refl _, Nat.zero_le _, fun _ => rfl, by omega, by simp, fun k hk => by omega⟩⟩
  · obtain ⟨rfl, rfl, rfl⟩ : b0 = some a ∧ l0 = len ∧ cc0 = cap := by simpa [Value.cells] using e
    simp only [if_true] at hz
    exact ⟨some a, l0, cc0, _, rfl, Nat.le_trans hl hm, fun hs => codeRd hl hm hz hcell hwz hs⟩
set_option maxRecDepth 100000 in
theorem vBig_any (a : Option Addr) (n c : Nat) (w : World) :
    Calls Try.prog 5 #[.slice a n c] w fun e w' => e = .returned (.bool (decide (65536 < n))) ∧ Below w.heap.size w w' := by
  by_cases h : 65536 < n
  all_goals
    go_enter Try.func5, Try.ntmps5
    go_wp2
    go_ret
    exact ⟨rb (by simp [h]; try omega), Below.refl _ _⟩
end Go.Proofs.Ytbgegmignhghnaa
