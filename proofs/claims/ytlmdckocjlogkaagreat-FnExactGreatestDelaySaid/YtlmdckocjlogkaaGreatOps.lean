import Derived.Test.YtlmdckocjlogkaaGreatRows
import Derived.Test.YtlmdckocjlogkaaGreatVoc
import Derived.ProofKit
import Derived.OpenShut
import Derived.SizedLaws
import Derived.Lib.SmallJoins
import Derived.Test.YtlmdckocjlogkaaGreatRd
import Derived.Deep.Slices
import Derived.Test.YtlmdckocjlogkaaGreatFlPhase
import Derived.Test.YtlmdckocjlogkaaGreatFlCut
/-
  From a walk to the given statement: what is alike at every law.
-/
namespace Go.Proofs.YtlmdckocjlogkaaGreat
set_option linter.unusedSimpArgs false
set_option linter.unusedVariables false
open Go.ChangeShapes Go.WideShapes Go.ChangeAt Go.RowKit Go.Joins

theorem Tryz.own : ownKnob Tryz.prog.godebug = none := by kernel_rfl
theorem Tryz.laidOut : laidOutB Tryz.prog = true := by kernel_rfl
theorem Tryz.cells3 : Tryz.prog.cellsOf 3 = 1 := by kernel_rfl
theorem Tryz.cells22 : Tryz.prog.cellsOf 22 = 1 := by kernel_rfl
theorem Tryz.bytes3 : Tryz.prog.bytesOf 3 = 8 := by kernel_rfl

theorem trodAll_below {H : Type} {enc : TypeId × Value → H} {W W' : World} (hb : Below W.heap.size W W') : ∀ {ts : List TypeId} {vs : List Value} {ds : List (DataW H)} {ps : List MemPlace},
    (∀ t ∈ ts, Tryz.prog.readableRec t = true ∧ t < Tryz.prog.types.size) → (∀ x ∈ ps, x.block < W.heap.size) →
    DataW.TrodAll enc Tryz.prog W 0 (fun _ => true) true ts vs ds ps → DataW.TrodAll enc Tryz.prog W' 0 (fun b => decide (b < W.heap.size)) true ts vs ds ps
  | [], _, _, _, _, _, h => by
    obtain ⟨rfl, rfl, rfl⟩ := trodAll_nil h
    exact trodAll_mk0
  | t :: ts, _, _, _, hr, hp, h => by
    obtain ⟨v, vs', d, ds', p, q, rfl, rfl, rfl, h1, h2⟩ := trodAll_cons h
    have ht := hr t (by simp)
    exact trodAll_cons_mk (Below.trod Tryz.laidOut ht.1 ht.2 h1 hb (fun x hx => hp x (by simp [hx]))) (trodAll_below hb (fun t' h' => hr t' (by simp [h'])) (fun x hx => hp x (by simp [hx])) h2)

/-- the law returned true and all that was there is as it was: that is the row's post -/
theorem post_law {H : Type} {enc : TypeId × Value → H} {f : Func} {s : ChangeSpec} {W W' : World} {args : Array Value} {ds gs : List (DataW H)} {before : List MemPlace}
    (hW : DataW.Whole enc Tryz.prog f.params.toList s.vars false W args.toList ds gs before) (hv : s.vars = []) (hres : f.resultTypes = #[4])
    (hs : s.fn H ds = { results := [.lit (.bool true)], args := ds }) (hr : ∀ t ∈ f.params.toList, Tryz.prog.readableRec t = true ∧ t < Tryz.prog.types.size)
    (hb : Below W.heap.size W W') : s.post enc Tryz.prog f false true false false W args (.bool true) W' := by
  have hlt : ∀ p ∈ before, p.block < W.heap.size := fun p hp => by simpa using hW.lt p hp
  have hW' := hW
  obtain ⟨p, q, hA, hV, rfl, _, _⟩ := hW
  rw [hv] at hV
  obtain ⟨rfl, rfl⟩ := trodVars_none hV
  have hs' : s.fn H (ds ++ []) = { results := [.lit (.bool true)], args := ds } := by rw [List.append_nil]; exact hs
  refine ⟨ds, [], p ++ [], [], p, [], hW', ?_, ?_, ?_, hb.frame _, fun h => by cases h⟩
  · rw [hs', hres]
    exact trodAll_mk1 (shut_bool Tryz.underlying4 true)
  · rw [hs']
    exact trodAll_below hb hr (fun x hx => hlt x (by simp [hx])) hA
  · rw [hs', hv]
    rfl

/-- a slice of ints that is read -/
theorem ints_open {H : Type} {enc : TypeId × Value → H} {W : World} {fuel : Nat} {cs : List Value} {x : DataW H × List MemPlace} (h : DataW.trod enc Tryz.prog W 0 (fun _ => true) true fuel 22 cs = some x)
    (hlt : ∀ p ∈ x.2, p.block < W.heap.size) (hsz : ∀ n ∈ x.1.weights Tryz.prog 22, n ≤ reachBytes) : ∃ a n c xs, cs = [.slice a n c] ∧ Ints W a n c xs := by
  rcases open_ints Tryz.underlying22 Tryz.underlying3 Tryz.cells3 h with ⟨rfl, rfl⟩ | ⟨a, len, cap, zs, rfl, _, hl, hm, hz, rfl, hcell, hwz⟩
  · exact ⟨none, 0, 0, [], rfl, rfl, Nat.le_refl _, Nat.zero_le _, fun _ => rfl, by omega, by simp, fun k hk => by omega⟩
  · simp only [if_true] at hz
    have hw : (len + (cap - len)) * 8 ≤ reachBytes := by
      refine hsz _ ?_
      simp only [DataW.weights, Tryz.underlying22, Tryz.bytes3]
      rw [show (lits IntKind.i64 (zs.take len) : List (DataW H)).length = len from by simp [lits]; omega, show (lits IntKind.i64 (zs.drop len) : List (DataW H)).length = cap - len from by simp [lits]; omega]
      simp
    have hlen : (zs.take len).length = len := by rw [List.length_take]; omega
    unfold reachBytes at hw
    refine ⟨some a, len, cap, zs.take len, rfl, hlen, hl, hm, fun e => by simp at e, by omega, ?_, fun k hk => ?_⟩
    · intro y hy
      have := hwz y (List.mem_of_mem_take hy)
      simpa [Lit.wf, IntKind.min, IntKind.max, IntKind.signed, IntKind.bits, I64] using this
    · have h0 := hcell 0 (by omega)
      obtain ⟨b, off, spot⟩ := a
      obtain rfl : spot = none := by
        cases spot with
        | none => rfl
        | some s =>
          simp only [Addr.add, if_true, World.cell?] at h0
          split at h0
          · simp at h0
          · cases h0
      refine ⟨b, off, rfl, World.block_lt_of_cell? W _ h0, fun i hi => ?_⟩
      have hci := hcell i (by omega)
      rw [Addr.add_lit] at hci
      rw [hci]
      simp [List.getD, List.getElem?_take, hi]

theorem i64_of_wf {x : Int} (h : (Lit.int .i64 x).wf = true) : I64 x := by
  simpa [Lit.wf, IntKind.min, IntKind.max, IntKind.signed, IntKind.bits, I64] using h

theorem Tryz.cells24 : Tryz.prog.cellsOf 24 = 3 := by kernel_rfl
set_option maxRecDepth 100000 in
theorem openTerrain {H : Type} {enc : TypeId × Value → H} {W : World} {base : Nat} {v : Value} {d : DataW H} {p : List MemPlace} (hval : Value.okWide Tryz.prog W .any base 24 v)
    (h : DataW.Trod enc Tryz.prog W 0 (fun _ => true) true 24 v d p) (hlt : ∀ x ∈ p, x.block < W.heap.size) (hsz : ∀ n ∈ d.weights Tryz.prog 24, n ≤ reachBytes) :
    ∃ Wd Hd a n c xs, v = .agg #[.int .i64 Wd, .int .i64 Hd, .slice a n c] ∧ I64 Wd ∧ I64 Hd ∧ Ints W a n c xs := by
  obtain ⟨c0, c1, c2, y0, y1, y2, m, rfl, rfl, rfl, h0, h1, h2⟩ := open_agg3 Tryz.underlying24 (by kernel_rfl) Tryz.cells24 hval h
  obtain ⟨Wd, e0, _, wa⟩ := DataW.trod_int Tryz.underlying3 h0
  obtain ⟨Hd, e1, _, wb⟩ := DataW.trod_int Tryz.underlying3 h1
  obtain ⟨a, n, c, xs, e2, hI⟩ := ints_open h2 (fun x hx => hlt x (by simp [hx])) (fun k hk => hsz k (by simp [DataW.weights, Tryz.underlying24, DataW.weightsEach, hk]))
  simp at e0 e1 e2
  subst e0 e1 e2
  exact ⟨Wd, Hd, a, n, c, xs, rfl, i64_of_wf wa, i64_of_wf wb, hI⟩

end Go.Proofs.YtlmdckocjlogkaaGreat
/-
  Arguments that are read: slices of records.
-/
namespace Go.Proofs.YtlmdckocjlogkaaGreat
set_option linter.unusedSimpArgs false
set_option linter.unusedVariables false
open Go.ChangeShapes Go.WideShapes Go.ChangeAt Go.RowKit Go.Joins

theorem weightsAll_mem {H : Type} {P : Program} {e : TypeId} {d : DataW H} {k : Nat} : ∀ {l : List (DataW H)}, d ∈ l → k ∈ d.weights P e → k ∈ DataW.weightsAll P e l
  | [], h, _ => by simp at h
  | x :: l, h, hk => by
    rw [DataW.weightsAll]
    rcases List.mem_cons.1 h with rfl | h
    · exact List.mem_append_left _ hk
    · exact List.mem_append_right _ (weightsAll_mem h hk)

theorem list_of {α : Type} (z : α) (Q : Nat → α → Prop) : ∀ (n : Nat), (∀ i, i < n → ∃ x, Q i x) → ∃ xs : List α, xs.length = n ∧ ∀ i, i < n → Q i (xs.getD i z)
  | 0, _ => ⟨[], rfl, fun i hi => by omega⟩
  | n + 1, h => by
    obtain ⟨xs, hl, hx⟩ := list_of z Q n (fun i hi => h i (by omega))
    obtain ⟨y, hy⟩ := h n (by omega)
    refine ⟨xs ++ [y], by simp [hl], fun i hi => ?_⟩
    by_cases e : i = n
    · subst e
      rw [List.getD_eq_getElem?_getD, List.getElem?_append_right (by omega), hl, Nat.sub_self]
      exact hy
    · rw [List.getD_eq_getElem?_getD, List.getElem?_append_left (by omega), ← List.getD_eq_getElem?_getD]
      exact hx i (by omega)

/-- a slice of records that is read -/
theorem rd_open {H : Type} {enc : TypeId × Value → H} {W : World} {α : Type} (F : Fl α) {t e : TypeId} {fuel : Nat} {cs : List Value} {x : DataW H × List MemPlace} (ht : Tryz.prog.underlying t = some (.slice e)) (hC : Tryz.prog.cellsOf e = F.sz) (hB : 8 * F.sz ≤ Tryz.prog.bytesOf e)
    (hel : ∀ (fuel : Nat) (cs : List Value) (x : DataW H × List MemPlace), DataW.trod enc Tryz.prog W 0 (fun _ => true) true fuel e cs = some x → (∀ n ∈ x.1.weights Tryz.prog e, n ≤ reachBytes) → ∃ y, cs = F.enc y ∧ F.wf y)
    (h : DataW.trod enc Tryz.prog W 0 (fun _ => true) true fuel t cs = some x) (hlt : ∀ p ∈ x.2, p.block < W.heap.size) (hsz : ∀ n ∈ x.1.weights Tryz.prog t, n ≤ reachBytes) : ∃ a n c xs, cs = [.slice a n c] ∧ Rd F W a n c xs := by
  rcases Go.Deep.open_slice ht h with ⟨rfl, rfl⟩ | ⟨a, len, cap, m, n, D, Pl, rfl, _, hl, hm, hmm, rfl, hi⟩
  · exact ⟨none, 0, 0, [], rfl, rfl, Nat.le_refl _, Nat.zero_le _, fun _ => rfl, by omega, by simp, fun k hk => by omega⟩
  · simp only [if_true] at hmm
    subst hmm
    have hw : (len + (m - len)) * Tryz.prog.bytesOf e ≤ reachBytes := by
      refine hsz _ ?_
      simp only [DataW.weights, ht]
      simp
    have hroom : len * F.sz ≤ 17592186044416 := by
      have h1 : len * (8 * F.sz) ≤ (len + (m - len)) * Tryz.prog.bytesOf e := Nat.mul_le_mul (by omega) hB
      have h2 : len * (8 * F.sz) = 8 * (len * F.sz) := by rw [← Nat.mul_assoc, Nat.mul_comm len 8, Nat.mul_assoc]
      unfold reachBytes at hw
      omega
    have hQ : ∀ i, i < len → ∃ y : α, F.wf y ∧ ∀ j, j < F.sz → W.cell? (a.add (i * F.sz + j)) = (F.enc y)[j]? := by
      intro i hil
      obtain ⟨cs', hc, htr⟩ := hi i (by omega)
      obtain ⟨y, rfl, hy⟩ := hel _ _ _ htr (fun k hk => hsz k (by
        simp only [DataW.weights, ht]
        exact List.mem_cons_of_mem _ (List.mem_append_left _ (weightsAll_mem (List.mem_map.2 ⟨i, List.mem_range.2 hil, rfl⟩) hk))))
      obtain ⟨_, _, hat⟩ := World.cells?_some hc
      refine ⟨y, hy, fun j hj => ?_⟩
      rw [← hat j (by rw [hC]; exact hj), hC, ← Go.Deep.add_add]
    obtain ⟨xs, hlen, hxs⟩ := list_of F.z _ len hQ
    refine ⟨some a, len, m, xs, rfl, hlen, hl, hm, fun e => by simp at e, hroom, ?_, fun k hk => ?_⟩
    · intro y hy
      obtain ⟨i, hi', rfl⟩ := List.getElem_of_mem hy
      have := (hxs i (by omega)).1
      simpa [List.getD, hi'] using this
    · have hp := F.pos
      obtain ⟨b, off, spot⟩ := a
      have h0 := (hxs 0 (by omega)).2 0 hp
      obtain rfl : spot = none := by
        cases spot with
        | none => rfl
        | some s =>
          rw [List.getElem?_eq_getElem (by rw [F.len]; exact hp)] at h0
          simp only [Addr.add, Nat.zero_mul, Nat.zero_add, if_true, World.cell?] at h0
          split at h0
          · simp at h0
          · cases h0
      refine ⟨b, off, rfl, ?_, fun i hi' j hj => ?_⟩
      · rw [List.getElem?_eq_getElem (by rw [F.len]; exact hp)] at h0
        have := World.block_lt_of_cell? W _ h0
        rwa [Addr.add_lit] at this
      · have := (hxs i hi').2 j hj
        rwa [Addr.add_lit] at this
end Go.Proofs.YtlmdckocjlogkaaGreat
namespace Go.Proofs.YtlmdckocjlogkaaGreat
set_option linter.unusedSimpArgs false
set_option linter.unusedVariables false
open Go.ChangeShapes Go.WideShapes Go.ChangeAt Go.RowKit Go.Joins

theorem Tryz.cells54 : Tryz.prog.cellsOf 54 = 2 := by kernel_rfl
set_option maxRecDepth 100000 in
theorem elPhase {H : Type} {enc : TypeId × Value → H} {W : World} (fuel : Nat) (cs : List Value) (x : DataW H × List MemPlace) (h : DataW.trod enc Tryz.prog W 0 (fun _ => true) true fuel 54 cs = some x) : ∃ y, cs = FPhase.enc y ∧ FPhase.wf y := by
  obtain ⟨ys, m, _, _, hl, hyl, hf⟩ := DataW.trod_struct Tryz.underlying54 h
  rw [Tryz.cells54] at hl
  match cs, hl, ys, hyl with
  | [c0, c1], _, [y0, y1], _ =>
    have h0 : DataW.trod enc Tryz.prog W 0 (fun _ => true) true m 3 [c0] = some y0 := by simpa [Tryz.cells3] using hf 0 _ rfl
    obtain ⟨z0, e0, _, w0⟩ := DataW.trod_int Tryz.underlying3 h0
    simp only [List.cons.injEq, and_true] at e0
    subst e0
    have h1 : DataW.trod enc Tryz.prog W 0 (fun _ => true) true m 3 [c1] = some y1 := by simpa [Tryz.cells3] using hf 1 _ rfl
    obtain ⟨z1, e1, _, w1⟩ := DataW.trod_int Tryz.underlying3 h1
    simp only [List.cons.injEq, and_true] at e1
    subst e1
    exact ⟨⟨z0, z1⟩, rfl, i64_of_wf w0, i64_of_wf w1⟩
set_option maxRecDepth 100000 in
theorem openPhase {H : Type} {enc : TypeId × Value → H} {W : World} {base : Nat} {v : Value} {d : DataW H} {p : List MemPlace} (hval : Value.okWide Tryz.prog W .any base 54 v) (h : DataW.Trod enc Tryz.prog W 0 (fun _ => true) true 54 v d p) : ∃ y : PhaseI, v = y.val ∧ FPhase.wf y := by
  obtain ⟨f, hf⟩ := h
  obtain ⟨cs, rfl, _⟩ := okWide_struct Tryz.underlying54 hval
  obtain ⟨y, hy, hw⟩ := elPhase f _ _ hf
  exact ⟨y, congrArg Value.agg (Array.ext' hy), hw⟩
theorem openPhaseS {H : Type} {enc : TypeId × Value → H} {W : World} {fuel : Nat} {cs : List Value} {x : DataW H × List MemPlace} (h : DataW.trod enc Tryz.prog W 0 (fun _ => true) true fuel 25 cs = some x) (hlt : ∀ p ∈ x.2, p.block < W.heap.size) (hsz : ∀ n ∈ x.1.weights Tryz.prog 25, n ≤ reachBytes) : ∃ a n c xs, cs = [.slice a n c] ∧ Rd FPhase W a n c xs :=
  rd_open FPhase Tryz.underlying25 Tryz.cells54 (by rw [show Tryz.prog.bytesOf 54 = 16 from by kernel_rfl]; exact Nat.le_refl _) (fun fuel cs x h _ => elPhase fuel cs x h) h hlt hsz
end Go.Proofs.YtlmdckocjlogkaaGreat
namespace Go.Proofs.YtlmdckocjlogkaaGreat
set_option linter.unusedSimpArgs false
set_option linter.unusedVariables false
open Go.ChangeShapes Go.WideShapes Go.ChangeAt Go.RowKit Go.Joins

theorem Tryz.cells58 : Tryz.prog.cellsOf 58 = 2 := by kernel_rfl
set_option maxRecDepth 100000 in
theorem elCut {H : Type} {enc : TypeId × Value → H} {W : World} (fuel : Nat) (cs : List Value) (x : DataW H × List MemPlace) (h : DataW.trod enc Tryz.prog W 0 (fun _ => true) true fuel 58 cs = some x) : ∃ y, cs = FCut.enc y ∧ FCut.wf y := by
  obtain ⟨ys, m, _, _, hl, hyl, hf⟩ := DataW.trod_struct Tryz.underlying58 h
  rw [Tryz.cells58] at hl
  match cs, hl, ys, hyl with
  | [c0, c1], _, [y0, y1], _ =>
    have h0 : DataW.trod enc Tryz.prog W 0 (fun _ => true) true m 3 [c0] = some y0 := by simpa [Tryz.cells3] using hf 0 _ rfl
    obtain ⟨z0, e0, _, w0⟩ := DataW.trod_int Tryz.underlying3 h0
    simp only [List.cons.injEq, and_true] at e0
    subst e0
    have h1 : DataW.trod enc Tryz.prog W 0 (fun _ => true) true m 3 [c1] = some y1 := by simpa [Tryz.cells3] using hf 1 _ rfl
    obtain ⟨z1, e1, _, w1⟩ := DataW.trod_int Tryz.underlying3 h1
    simp only [List.cons.injEq, and_true] at e1
    subst e1
    exact ⟨⟨z0, z1⟩, rfl, i64_of_wf w0, i64_of_wf w1⟩
set_option maxRecDepth 100000 in
theorem openCut {H : Type} {enc : TypeId × Value → H} {W : World} {base : Nat} {v : Value} {d : DataW H} {p : List MemPlace} (hval : Value.okWide Tryz.prog W .any base 58 v) (h : DataW.Trod enc Tryz.prog W 0 (fun _ => true) true 58 v d p) : ∃ y : CutI, v = y.val ∧ FCut.wf y := by
  obtain ⟨f, hf⟩ := h
  obtain ⟨cs, rfl, _⟩ := okWide_struct Tryz.underlying58 hval
  obtain ⟨y, hy, hw⟩ := elCut f _ _ hf
  exact ⟨y, congrArg Value.agg (Array.ext' hy), hw⟩
theorem openCutS {H : Type} {enc : TypeId × Value → H} {W : World} {fuel : Nat} {cs : List Value} {x : DataW H × List MemPlace} (h : DataW.trod enc Tryz.prog W 0 (fun _ => true) true fuel 26 cs = some x) (hlt : ∀ p ∈ x.2, p.block < W.heap.size) (hsz : ∀ n ∈ x.1.weights Tryz.prog 26, n ≤ reachBytes) : ∃ a n c xs, cs = [.slice a n c] ∧ Rd FCut W a n c xs :=
  rd_open FCut Tryz.underlying26 Tryz.cells58 (by rw [show Tryz.prog.bytesOf 58 = 16 from by kernel_rfl]; exact Nat.le_refl _) (fun fuel cs x h _ => elCut fuel cs x h) h hlt hsz
end Go.Proofs.YtlmdckocjlogkaaGreat
