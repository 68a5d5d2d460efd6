/-
  Plain laws for the laws on incidents.
-/
import Derived.Test.YtkohfegajcmdbaaQIncC
import Derived.Test.YtkohfegajcmdbaaQAct
import Derived.Test.YtkohfegajcmdbaaQRunB
import Derived.Test.YtkohfegajcmdbaaQNbr
import Derived.Test.YtkohfegajcmdbaaQSafe
import Derived.Test.YtkohfegajcmdbaaQNewInc
/-
  Plain laws for the laws on incidents.
-/
namespace Go.Proofs.Ytkohfegajcmdbaa
set_option linter.unusedSimpArgs false
set_option linter.unusedVariables false
open Go.RowKit

theorem actR_true {W H : Int} {xs fs ws : List Int} {t k cc : Int} {g : IncI} (h : actIncR W H xs fs ws t k cc = ⟨g, true⟩) : incB W H xs fs ws t = true ∧ actionB xs.length k cc = true ∧ actI xs.length ⟨W, H, xs, fs, ws, t⟩ k cc.toNat = ⟨g, true⟩ := by
  unfold actIncR at h
  split at h
  · rename_i hq
    rw [Bool.and_eq_true, Bool.and_eq_true] at hq
    exact ⟨hq.1.1, hq.1.2, h⟩
  · cases h
theorem act_ok {W H : Int} {xs fs ws : List Int} {t k cc gW gH gt : Int} {zs gs us : List Int} (h : actIncR W H xs fs ws t k cc = ⟨⟨gW, gH, zs, gs, us, gt⟩, true⟩) :
    ∃ S1 S2 B1 B2 T, spentR W H xs fs ws t = (S1, true) ∧ spentR gW gH zs gs us gt = (S2, true) ∧ burningR W H xs fs ws t = (B1, true) ∧ burningR gW gH zs gs us gt = (B2, true) ∧ threatR W H xs fs ws t = (T, true) ∧
      withinV S1 S2 = true ∧ (∀ x ∈ B2, hasV B1 x = true ∨ (k = 1 ∧ hasV T x = true)) ∧ (k = 1 → withinV T B2 = true) ∧ (k ≠ 1 → B1 = B2) := by
  obtain ⟨hi, ha, hq⟩ := actR_true h
  obtain ⟨h1, h2, h3, h4⟩ := act_inc hi ha (by rw [hq])
  have hs := spent_act (n := xs.length) (s := ⟨W, H, xs, fs, ws, t⟩) (k := k) (c := cc.toNat)
  have hb := burn_act (n := xs.length) (s := ⟨W, H, xs, fs, ws, t⟩) (k := k) (c := cc.toNat)
  have hfs := actI_fs (n := xs.length) (s := ⟨W, H, xs, fs, ws, t⟩) (k := k) (c := cc.toNat)
  have ht : k = 1 → withinV (cellsN xs.length (thrN W.toNat xs.length xs fs ws)) (burnL xs.length (actI xs.length ⟨W, H, xs, fs, ws, t⟩ k cc.toNat).i.fs) = true := fun e => by
    subst e
    exact thr_act (n := xs.length) (s := ⟨W, H, xs, fs, ws, t⟩) (c := cc.toNat)
  rw [hq] at h1 h2 h3 h4 hs hb hfs ht
  dsimp only at h1 h2 h3 h4 hs hb hfs ht
  subst h2 h3
  refine ⟨spentL xs.length fs, spentL xs.length gs, burnL xs.length fs, burnL xs.length gs, cellsN xs.length (thrN gW.toNat xs.length xs fs ws), ?_, ?_, ?_, ?_, ?_, hs, hb, ht, fun hne => ?_⟩
  · rw [spentR, hi]; rfl
  · rw [spentR, h1, h4]; rfl
  · rw [burningR, hi]; rfl
  · rw [burningR, h1, h4]; rfl
  · rw [threatR, hi]; rfl
  · rw [if_neg hne] at hfs
    rw [hfs]
theorem act_inc2 {W H : Int} {xs fs ws : List Int} {t k cc gW gH gt : Int} {zs gs us : List Int} {b : Bool} (h : actIncR W H xs fs ws t k cc = ⟨⟨gW, gH, zs, gs, us, gt⟩, b⟩) : b = true → incB gW gH zs gs us gt = true := by
  rintro rfl
  obtain ⟨hi, ha, hq⟩ := actR_true h
  obtain ⟨h1, h2, h3, h4⟩ := act_inc hi ha (by rw [hq])
  rw [hq] at h1 h2 h3
  dsimp only at h1 h2 h3
  rw [h2, h3]
  exact h1
/-- every state on the way is an incident -/
theorem run_inc {W H t : Int} {xs fs ws : List Int} {vs : List ActionI} (hi : incB W H xs fs ws t = true) (ha : actsB xs.length vs = true) : ∀ j, j ≤ vs.length → ∃ zs gs us gt n, runTo xs.length (vs.take j) ⟨⟨W, H, xs, fs, ws, t⟩, 0⟩ = ⟨⟨W, H, zs, gs, us, gt⟩, n⟩ ∧ incB W H zs gs us gt = true ∧ zs.length = xs.length ∧ n ≤ j
  | 0, _ => ⟨xs, fs, ws, t, 0, by simp [runTo], hi, rfl, Nat.le_refl _⟩
  | j + 1, hj => by
    obtain ⟨zs, gs, us, gt, n, h1, h2, h3, h4⟩ := run_inc hi ha j (by omega)
    rw [runTo_succ (by omega), h1]
    have hav := List.all_eq_true.1 ha (vs.getD j ActionI.zero) (by rw [List.getD_eq_getElem?_getD, List.getElem?_eq_getElem (by omega)]; exact List.getElem_mem _)
    generalize vs.getD j ActionI.zero = a at hav ⊢
    unfold runStep
    dsimp only
    by_cases ho : (actI xs.length ⟨W, H, zs, gs, us, gt⟩ a.kd a.cell.toNat).ok = true
    · rw [if_pos ho]
      rw [← h3] at ho hav ⊢
      obtain ⟨e1, e2, e3, e4⟩ := act_inc h2 hav ho
      generalize (actI zs.length ⟨W, H, zs, gs, us, gt⟩ a.kd a.cell.toNat).i = g at e1 e2 e3 e4 ⊢
      obtain ⟨gW, gH, z2, g2, u2, t2⟩ := g
      dsimp only at e1 e2 e3 e4 ⊢
      subst e2 e3
      exact ⟨z2, g2, u2, t2, n + 1, rfl, e1, e4, by omega⟩
    · rw [if_neg ho]
      exact ⟨zs, gs, us, gt, n, rfl, h2, h3, by omega⟩
theorem run_step {W H gt : Int} {zs gs us : List Int} {a : ActionI} {m n : Nat} (hi : incB W H zs gs us gt = true) (hl : zs.length = m) (ha : actionB m a.kd a.cell = true) :
    (∃ g, actIncR W H zs gs us gt a.kd a.cell = ⟨g, true⟩ ∧ runStep m ⟨⟨W, H, zs, gs, us, gt⟩, n⟩ a = ⟨g, n + 1⟩) ∨ (actIncR W H zs gs us gt a.kd a.cell = ⟨IncI.zero, false⟩ ∧ runStep m ⟨⟨W, H, zs, gs, us, gt⟩, n⟩ a = ⟨⟨W, H, zs, gs, us, gt⟩, n⟩) := by
  subst hl
  unfold actIncR runStep
  dsimp only
  by_cases ho : (actI zs.length ⟨W, H, zs, gs, us, gt⟩ a.kd a.cell.toNat).ok = true
  · left
    rw [if_pos ho, hi, ha, ho]
    refine ⟨_, ?_, rfl⟩
    rw [if_pos (by rfl)]
    generalize actI zs.length ⟨W, H, zs, gs, us, gt⟩ a.kd a.cell.toNat = g at ho
    obtain ⟨g, b⟩ := g
    dsimp only at ho
    rw [ho]
  · right
    rw [if_neg ho, hi, ha]
    refine ⟨?_, rfl⟩
    rw [if_neg (by simpa using ho)]
theorem run_step2 {W H gt : Int} {zs gs us : List Int} {a : ActionI} {m n : Nat} {g : IncI} {b : Bool} (hi : incB W H zs gs us gt = true) (hl : zs.length = m) (ha : actionB m a.kd a.cell = true) (h : actIncR W H zs gs us gt a.kd a.cell = ⟨g, b⟩) : runStep m ⟨⟨W, H, zs, gs, us, gt⟩, n⟩ a = if b then ⟨g, n + 1⟩ else ⟨⟨W, H, zs, gs, us, gt⟩, n⟩ := by
  rcases run_step (n := n) hi hl ha with ⟨g2, h1, h2⟩ | ⟨h1, h2⟩
  · rw [h1] at h
    injection h with h3 h4
    subst h3 h4
    exact h2
  · rw [h1] at h
    injection h with h3 h4
    subst h3 h4
    exact h2
/-- one more step of the run -/
theorem run_next {W H t : Int} {xs fs ws : List Int} {vs : List ActionI} (hi : incB W H xs fs ws t = true) (ha : actsB xs.length vs = true) {j : Nat} (hj : j < vs.length) {zs gs us : List Int} {gt : Int} {n : Nat} (hs : runTo xs.length (vs.take j) ⟨⟨W, H, xs, fs, ws, t⟩, 0⟩ = ⟨⟨W, H, zs, gs, us, gt⟩, n⟩) {qW qH qt : Int} {z3 g3 u3 : List Int} {b : Bool} (h : actIncR W H zs gs us gt (vs.getD j ActionI.zero).kd (vs.getD j ActionI.zero).cell = ⟨⟨qW, qH, z3, g3, u3, qt⟩, b⟩) :
    (b = false → runTo xs.length (vs.take (j + 1)) ⟨⟨W, H, xs, fs, ws, t⟩, 0⟩ = ⟨⟨W, H, zs, gs, us, gt⟩, n⟩) ∧ (b = true → qW = W ∧ qH = H ∧ n ≤ j ∧ runTo xs.length (vs.take (j + 1)) ⟨⟨W, H, xs, fs, ws, t⟩, 0⟩ = ⟨⟨W, H, z3, g3, u3, qt⟩, n + 1⟩) := by
  obtain ⟨z0, g0, u0, t0, n0, e1, e2, e3, e4⟩ := run_inc hi ha j (by omega)
  rw [hs] at e1
  injection e1 with e5 e6
  injection e5 with _ _ e7 e8 e9 e10
  subst e6 e7 e8 e9 e10
  have hav := List.all_eq_true.1 ha (vs.getD j ActionI.zero) (by rw [List.getD_eq_getElem?_getD, List.getElem?_eq_getElem (by omega)]; exact List.getElem_mem _)
  have h2 := run_step2 (n := n) e2 e3 hav h
  have h3 := runTo_succ (n := xs.length) (s := ⟨⟨W, H, xs, fs, ws, t⟩, 0⟩) hj
  rw [hs, h2] at h3
  refine ⟨?_, ?_⟩
  · rintro rfl
    exact h3
  · rintro rfl
    obtain ⟨z1, g1, u1, t1, n1, e11, -, -, -⟩ := run_inc hi ha (j + 1) (by omega)
    rw [h3] at e11
    simp only [if_true] at e11 h3
    injection e11 with e12 _
    injection e12 with e13 e14 _ _ _ _
    subst e13 e14
    exact ⟨rfl, rfl, e4, h3⟩
set_option maxRecDepth 100000 in
set_option maxHeartbeats 30000000 in
theorem sIsInc_any (W H : Int) (a : Option Addr) (n c : Nat) (xs : List Int) (af : Option Addr) (nf cf : Nat) (fs : List Int) (aw : Option Addr) (nw cw : Nat) (ws : List Int) (t : Int) (w : World) (h : Ints w a n c xs) (hf : Ints w af nf cf fs) (hw : Ints w aw nw cw ws) :
    Calls Try.prog 45 #[.agg #[.int .i64 W, .int .i64 H, .slice a n c, .slice af nf cf, .slice aw nw cw, .int .i64 t]] w (fun e w' => e = .returned (.bool (incB W H xs fs ws t)) ∧ Below w.heap.size w w') := by
  have hM := Mem.start w
  go_enter Try.func45, Try.ntmps45
  go_wp2_with fail
  apply Mem.atA
  · (repeat' (first | with_reducible exact hM | with_reducible exact hMp | with_reducible apply Mem.drew | with_reducible apply Mem.drewN | with_reducible apply Mem.alloc | with_reducible apply Mem.set | with_reducible exact Sto.row | ((with_reducible refine Sto.rowEq2 ?_ ?_); omega; rfl) | ((with_reducible refine Sto.rowEq ?_); omega) | with_reducible apply Sto.int | with_reducible apply Sto.there | with_reducible assumption | (unfold I64; omega) | (with_reducible (have hMx := Mem.undrew hM; exact hMx)) | (with_reducible (have hMx := Mem.undrew hMp; exact hMx))))
  clear hM
  intro wst hM
  (try simp only [World.size_alloc, World.size_setCell, World.heap_drewN, heapDrew, Nat.add_assoc, Nat.reduceAdd, List.setIfInBounds_toArray, List.set_cons_zero, List.set_cons_succ, List.cons_append, List.nil_append] at hM)
  apply Calls.mono
  · (apply l21Good_any) <;> (first | (show (_ : Prop); with_reducible assumption) | (apply Hid.out; with_reducible assumption) | (apply Mem.intsR hM; (repeat' (first | with_reducible exact In.here | with_reducible apply In.there)); done) | (apply Ints.ext (hb := hM.below); with_reducible assumption) | (apply Rd.ext (hb := hM.below); with_reducible assumption) | (apply Mem.row hM; (repeat' (first | with_reducible exact In.here | with_reducible apply In.there)); done) | (apply Row.ext (hb := hM.below); with_reducible assumption) | exact ⟨by omega, by omega⟩ | omega | (trace_state; fail))
  rintro e wc1 ⟨rfl, hb⟩
  replace hM := hM.ext hb
  clear hb
  obtain ⟨k0, f0, l0⟩ := hM.row .here
  go_wp2
  go_ret
  exact ⟨rfl, (by apply Mem.below; (repeat' (first | with_reducible exact hM | with_reducible exact hMp | with_reducible apply Mem.drew | with_reducible apply Mem.drewN | with_reducible apply Mem.alloc | with_reducible apply Mem.set | with_reducible exact Sto.row | ((with_reducible refine Sto.rowEq2 ?_ ?_); omega; rfl) | ((with_reducible refine Sto.rowEq ?_); omega) | with_reducible apply Sto.int | with_reducible apply Sto.there | with_reducible assumption | (unfold I64; omega) | (with_reducible (have hMx := Mem.undrew hM; exact hMx)) | (with_reducible (have hMx := Mem.undrew hMp; exact hMx)))))⟩
theorem runR_true {W H : Int} {xs fs ws : List Int} {t : Int} {vs : List ActionI} {g : IncI} {k : Int} (h : runAR W H xs fs ws t vs = ⟨g, k, true⟩) : incB W H xs fs ws t = true ∧ vs.length ≤ 30 ∧ actsB xs.length vs = true ∧ (runTo xs.length vs ⟨⟨W, H, xs, fs, ws, t⟩, 0⟩).i = g ∧ ((runTo xs.length vs ⟨⟨W, H, xs, fs, ws, t⟩, 0⟩).k : Int) = k := by
  unfold runAR at h
  split at h
  · rename_i hq
    rw [Bool.and_eq_true, Bool.and_eq_true] at hq
    injection h with h1 h2 h3
    exact ⟨hq.1.1, of_decide_eq_true hq.1.2, hq.2, h1, h2⟩
  · cases h
theorem safe_ok {W H : Int} {xs fs ws : List Int} {t : Int} : (safeR W H xs fs ws t).ok = (ticksR W H xs fs ws t).ok := by
  unfold safeR ticksR
  split <;> rfl
/-- what the law on ends asks for -/
theorem ends_ok {W H : Int} {xs fs ws : List Int} {t k : Int} {SL : List Int} (h : ticksR W H xs fs ws t = ⟨k, true⟩) (hsl : safeR W H xs fs ws t = ⟨SL, true⟩) :
    ∃ (K : Nat) (fI wI : Nat → List Int), k = K ∧ K ≤ 10000 ∧ fI 0 = fs ∧ wI 0 = ws ∧
      (∀ i, i < K → ∃ b bs, burningR W H xs (fI i) (wI i) (t + (i : Int)) = (b :: bs, true) ∧ actIncR W H xs (fI i) (wI i) (t + (i : Int)) 1 0 = ⟨⟨W, H, xs, fI (i + 1), wI (i + 1), t + ((i + 1 : Nat) : Int)⟩, true⟩) ∧
      burningR W H xs (fI K) (wI K) (t + (K : Int)) = ([], true) ∧ ∃ SP BR, spentR W H xs (fI K) (wI K) (t + (K : Int)) = (SP, true) ∧ burnR W H xs = (BR, true) ∧ SP.length + SL.length = BR.length := by
  unfold ticksR at h
  unfold safeR at hsl
  split at h
  rotate_left
  · cases h
  rename_i he
  rw [if_pos he] at hsl
  injection h with hk _
  injection hsl with hS _
  unfold endB at he
  rw [Bool.and_eq_true, Bool.not_eq_true', decide_eq_false_iff_not] at he
  obtain ⟨hi, hle⟩ := he
  obtain ⟨Wn, Hn, rfl, rfl, -, -, -, -, -, ⟨ht0, ht1⟩, -, -, -⟩ := incB_facts hi
  obtain ⟨K, hK⟩ : ∃ K, endK (Wn : Int).toNat xs.length xs fs ws = K := ⟨_, rfl⟩
  have hb := end_burn hi
  unfold endF at hb hS
  rw [hK] at hk hle hb hS
  have hI := fun i (hi2 : i ≤ K) => tick_inc hi i (by omega)
  refine ⟨K, fun i => (tickN (Wn : Int).toNat xs.length xs i ⟨fs, ws⟩).f, fun i => (tickN (Wn : Int).toNat xs.length xs i ⟨fs, ws⟩).w, hk.symm, by omega, rfl, rfl, fun i hik => ?_, ?_, ?_⟩
  · have hbn : burnL xs.length (tickN (Wn : Int).toNat xs.length xs i ⟨fs, ws⟩).f ≠ [] := rest_burn (m := 600) (by unfold endK at hK; omega)
    have hii := hI i (by omega)
    dsimp only
    obtain ⟨b, bs, hbb⟩ := List.exists_cons_of_ne_nil hbn
    refine ⟨b, bs, by rw [burningR, hii, hbb]; rfl, ?_⟩
    have ha : actionB xs.length 1 0 = true := by simp [actionB]
    have hlt : t + (i : Int) < 9999 := by omega
    unfold actIncR
    rw [hii, ha]
    simp only [actI, if_true, Bool.true_and, decide_eq_true hlt]
    have e : t + ((i + 1 : Nat) : Int) = t + i + 1 := by omega
    rw [e]
    rfl
  · dsimp only
    rw [burningR, hI K (Nat.le_refl _), hb]
    rfl
  · dsimp only
    have hiK := hI K (Nat.le_refl _)
    refine ⟨_, _, by rw [spentR, hiK]; rfl, by rw [burnR, (incB_true hi).1]; rfl, ?_⟩
    rw [← hS]
    exact end_count hiK hb
end Go.Proofs.Ytkohfegajcmdbaa
