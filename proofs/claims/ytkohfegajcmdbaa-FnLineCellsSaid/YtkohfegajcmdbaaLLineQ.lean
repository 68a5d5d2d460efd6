/-
  Plain laws for the law on the cells of lines.
-/
import Derived.Test.YtkohfegajcmdbaaLFlowE
import Derived.Test.YtkohfegajcmdbaaLTrim
import Derived.Test.YtkohfegajcmdbaaLNbr
/-
  Plain laws for the law on the cells of lines.
-/
namespace Go.Proofs.Ytkohfegajcmdbaa
set_option linter.unusedSimpArgs false
set_option linter.unusedVariables false
open Go.RowKit

section
variable {W n : Nat} {xs ss ts : List Int}
theorem lineB_mono {A B : List Int} (hA : setB n A = true) (hB : setB n B = true) (ht : setB n ts = true) (hl : lineB W n xs ss ts A = true) (hs : ∀ x ∈ A, x ∈ B) (hf : ∀ c : Nat, c < n → hasI B c = true → freeN xs ss ts c = true) : lineB W n xs ss ts B = true := by
  obtain ⟨h1, h2⟩ := (lineB_iff hA ht).1 hl
  refine (lineB_iff hB ht).2 ⟨hf, fun c hc hct hr => h2 c hc hct ?_⟩
  refine hr.least (T := fun c => Reach n (nearN W) (fun k => brn xs k && !hasI A (k : Nat)) (fun k => hasI ss (k : Nat)) c) (fun c h3 h4 h5 => Reach.base h3 h4 ?_) (fun d c hd h3 h4 h5 => Reach.step hd h3 ?_ h5)
  all_goals
    first
    | (rename_i h6; skip)
    | skip
    have key : ∀ c : Nat, (brn xs c && !hasI B (c : Int)) = true → (brn xs c && !hasI A (c : Int)) = true := fun c h => by
      rw [Bool.and_eq_true, Bool.not_eq_true'] at h ⊢
      refine ⟨h.1, ?_⟩
      cases e : hasI A (c : Int)
      · rfl
      · rw [hasI_iff.2 (hs _ (hasI_iff.1 e))] at h
        exact absurd h.2 (by decide)
    exact key c (by assumption)
theorem trim_inv (ht : setB n ts = true) : ∀ (cs out : List Int), setB n out = true → lineB W n xs ss ts out = true →
    setB n (cs.foldl (trimS W n xs ss ts) out) = true ∧ lineB W n xs ss ts (cs.foldl (trimS W n xs ss ts) out) = true ∧ (∀ x ∈ cs.foldl (trimS W n xs ss ts) out, x ∈ out) ∧ ∀ c ∈ cs, c ∈ cs.foldl (trimS W n xs ss ts) out → lineB W n xs ss ts ((cs.foldl (trimS W n xs ss ts) out).filter (neI c)) = false
  | [], out, h1, h2 => ⟨h1, h2, fun _ h => h, fun c hc => by cases hc⟩
  | c :: cs, out, h1, h2 => by
    rw [List.foldl_cons]
    have h3 : setB n (trimS W n xs ss ts out c) = true := by
      unfold trimS
      split
      · exact setB_filter _ h1
      · exact h1
    have h4 : lineB W n xs ss ts (trimS W n xs ss ts out c) = true := by
      unfold trimS
      split
      · assumption
      · exact h2
    have h5 : ∀ x ∈ trimS W n xs ss ts out c, x ∈ out := by
      intro x hx
      unfold trimS at hx
      split at hx
      · exact (List.mem_filter.1 hx).1
      · exact hx
    obtain ⟨i1, i2, i3, i4⟩ := trim_inv ht cs _ h3 h4
    refine ⟨i1, i2, fun x hx => h5 x (i3 x hx), fun d hd hdr => ?_⟩
    rcases List.mem_cons.1 hd with rfl | hd
    · have h6 := i3 d hdr
      by_cases e : lineB W n xs ss ts (out.filter (neI d)) = true
      · unfold trimS at h6
        rw [if_pos e] at h6
        have := (List.mem_filter.1 h6).2
        simp [neI] at this
      · cases e2 : lineB W n xs ss ts ((cs.foldl (trimS W n xs ss ts) (trimS W n xs ss ts out d)).filter (neI d))
        · rfl
        · refine absurd (lineB_mono (setB_filter _ i1) (setB_filter _ h1) ht e2 (fun x hx => ?_) (fun c hc hcl => ?_)) e
          · obtain ⟨hx1, hx2⟩ := List.mem_filter.1 hx
            exact List.mem_filter.2 ⟨h5 x (i3 x hx1), hx2⟩
          · exact lineB_free h2 c hc (hasI_iff.2 (List.mem_filter.1 (hasI_iff.1 hcl)).1)
    · exact i4 d hd hdr
theorem setB_less {out : List Int} (h : setB n out = true) (i : Nat) : setB n (out.take i ++ out.drop (i + 1)) = true := by
  obtain ⟨h1, h2⟩ := setB_iff.1 h
  have hsub : (out.take i ++ out.drop (i + 1)).Sublist out := by
    rw [← List.eraseIdx_eq_take_drop_succ]
    exact List.eraseIdx_sublist _ _
  exact setB_iff.2 ⟨h1.sublist hsub, fun x hx => h2 x (hsub.subset hx)⟩
theorem less_filter {out : List Int} (h : setB n out = true) {i : Nat} (hi : i < out.length) : out.take i ++ out.drop (i + 1) = out.filter (neI (out.getD i 0)) := by
  obtain ⟨h1, h2⟩ := setB_iff.1 h
  have hg : out.getD i 0 = out[i] := by simp [List.getD, hi]
  rw [hg]
  refine asc_ext (setB_iff.1 (setB_less h i)).1 (h1.sublist List.filter_sublist) (fun x => ?_)
  rw [← List.eraseIdx_eq_take_drop_succ, List.mem_eraseIdx_iff_getElem, List.mem_filter]
  constructor
  · rintro ⟨j, hj, hne, rfl⟩
    refine ⟨List.getElem_mem hj, ?_⟩
    have := List.pairwise_iff_getElem.1 h1
    unfold neI
    simp only [bne_iff_ne, ne_eq]
    intro e
    rcases Nat.lt_trichotomy i j with hlt | hlt | hlt
    · have := this i j hi hj hlt; omega
    · exact hne hlt.symm
    · have := this j i hj hi hlt; omega
  · rintro ⟨hx, hne⟩
    obtain ⟨j, hj, rfl⟩ := List.getElem_of_mem hx
    refine ⟨j, hj, ?_, rfl⟩
    rintro rfl
    simp [neI] at hne
theorem trim_ok {W H : Int} {line out : List Int} (h : trimR W H xs ss ts line = ⟨out, true⟩) : isLineR W H xs ss ts out = ⟨true, true⟩ ∧ withinV out line = true ∧ ∀ i, i < out.length → isLineR W H xs ss ts (out.take i ++ out.drop (i + 1)) = ⟨false, true⟩ := by
  unfold trimR at h
  split at h
  · rename_i hc
    rw [Bool.and_eq_true, Bool.and_eq_true] at hc
    obtain ⟨hc1, hs, hl⟩ := hc
    injection h with h1 _
    obtain ⟨-, -, ht, -⟩ := caseB_true hc1
    obtain ⟨i1, i2, i3, i4⟩ := trim_inv (W := W.toNat) (xs := xs) (ss := ss) ht line line hs hl
    have h2 : trimTo W.toNat xs.length xs ss ts line line = line.foldl (trimS W.toNat xs.length xs ss ts) line := rfl
    rw [h2] at h1
    rw [h1] at i1 i2 i3 i4
    refine ⟨?_, withinV_iff.2 i3, fun i hi => ?_⟩
    · unfold isLineR
      rw [hc1, i1, i2]
      rfl
    · have hm : out.getD i 0 ∈ out := getD_mem hi
      have h3 := i4 _ (i3 _ hm) hm
      unfold isLineR
      rw [hc1, setB_less i1 i, less_filter i1 hi, h3]
      rfl
  · cases h
theorem part2 {p q r : Nat → Bool} : ∀ n, (∀ c, c < n → r c = (p c || q c) ∧ ¬ (p c = true ∧ q c = true)) → (cellsN n r).length = (cellsN n p).length + (cellsN n q).length
  | 0, _ => rfl
  | n + 1, h => by
    have ih := part2 (p := p) (q := q) (r := r) n (fun c hc => h c (by omega))
    obtain ⟨h1, h2⟩ := h n (by omega)
    rw [cellsN_succ, cellsN_succ, cellsN_succ, List.length_append, List.length_append, List.length_append, ih, h1]
    cases hp : p n <;> cases hq : q n
    · simp
    · simp; omega
    · simp; omega
    · exact absurd ⟨hp, hq⟩ h2
theorem cells_fil {n : Nat} {p : Nat → Bool} {q : Int → Bool} : (cellsN n p).filter q = cellsN n (fun c => p c && q c) := by
  induction n with
  | zero => rfl
  | succ n ih =>
    rw [cellsN_succ, cellsN_succ, List.filter_append, ih]
    congr 1
    cases h : p n
    · rfl
    · cases h2 : q n <;> simp [h2]
theorem saved_ok {W H : Int} {line sv : List Int} (h : savedR W H xs ss line = ⟨sv, true⟩) : ∃ before after, reachR W H xs ss = (before, true) ∧ clrR W H xs line = ⟨⟨W, H, clrL xs line⟩, true⟩ ∧ reachR W H (clrL xs line) ss = (after, true) ∧ withinV sv before = true ∧ withinV after before = true ∧ before.length = after.length + sv.length + (line.filter (hasV before)).length ∧ before.length ≤ 25 := by
  unfold savedR at h
  split at h
  · rename_i hc
    injection h with h1 _
    obtain ⟨hg, hs, hl, hd⟩ := caseB_true hc
    obtain ⟨Wn, Hn, rfl, rfl, -, -, -, -, hlen, h25, hall⟩ := goodB_true hg
    have hlm := (setB_iff.1 hl).2
    have hcl : ∀ (cells xs : List Int), (clrL xs cells).length = xs.length := fun cells => by
      induction cells with
      | nil => exact fun _ => rfl
      | cons c cs ih =>
        intro xs
        show (clrL (xs.set c.toNat 0) cs).length = _
        rw [ih, List.length_set]
    have hg2 : goodB 20 Wn Hn (clrL xs line) = true := by
      unfold goodB at hg ⊢
      rw [hcl]
      simp only [Bool.and_eq_true, List.all_eq_true] at hg ⊢
      refine ⟨hg.1, fun x hx => ?_⟩
      rcases clrL_mem x hx with rfl | h
      · rfl
      · exact hg.2 x h
    have hb : ∀ c : Nat, brn (clrL xs line) c = (brn xs c && !hasI line c) := fun c => by
      unfold brn
      rw [clrL_get (fun x hx => (hlm x hx).1)]
      cases hasI line c <;> simp
    obtain ⟨bf, hbf⟩ : ∃ f, reachB xs.length (nearN Wn) (brn xs) (fun k => hasI ss (k : Nat)) = f := ⟨_, rfl⟩
    obtain ⟨af, haf⟩ : ∃ f, reachB xs.length (nearN Wn) (brn (clrL xs line)) (fun k => hasI ss (k : Nat)) = f := ⟨_, rfl⟩
    have hab : ∀ c, af c = true → bf c = true ∧ hasI line (c : Int) = false := fun c hc => by
      rw [← haf] at hc
      have hr := reachB_iff.1 hc
      refine ⟨?_, ?_⟩
      · rw [← hbf]
        refine reachB_iff.2 (hr.least (T := fun c => Reach xs.length (nearN Wn) (brn xs) (fun k => hasI ss (k : Nat)) c) (fun c h3 h4 h5 => Reach.base h3 h4 ?_) (fun d c hd h3 h4 h5 => Reach.step hd h3 ?_ h5))
        · rw [hb, Bool.and_eq_true] at h5; exact h5.1
        · rw [hb, Bool.and_eq_true] at h4; exact h4.1
      · have := hr.lt.2
        rw [hb, Bool.and_eq_true, Bool.not_eq_true'] at this
        exact this.2
    simp only [Int.toNat_natCast] at h1
    unfold reachL at h1
    rw [hbf, haf] at h1
    refine ⟨cellsN xs.length bf, cellsN xs.length af, ?_, ?_, ?_, ?_, ?_, ?_, ?_⟩
    · rw [reachR, hg, hs, Int.toNat_natCast, reachL, hbf]; rfl
    · rw [clrR, hg, hl]; rfl
    · rw [reachR, hg2, hcl, hs, Int.toNat_natCast, reachL, haf]; rfl
    · rw [← h1]
      exact withinV_iff.2 (fun x hx => (List.mem_filter.1 hx).1)
    · refine withinV_iff.2 (fun x hx => ?_)
      obtain ⟨c, rfl, h3, h4⟩ := cellsN_mem.1 hx
      exact cellsN_mem.2 ⟨c, rfl, h3, (hab c h4).1⟩
    · have e1 : sv = cellsN xs.length (fun c => bf c && (!af c && !hasI line (c : Int))) := by
        rw [← h1, cells_fil]
        refine cellsN_congr fun c hc => ?_
        unfold savedP
        rw [hasI_cells hc]
      have e2 : line.filter (hasV (cellsN xs.length bf)) = cellsN xs.length (fun c => hasI line (c : Int) && bf c) := by
        conv => lhs; rw [setB_own hl]
        rw [cells_fil]
        refine cellsN_congr fun c hc => ?_
        show (hasI line (c : Int) && hasI (cellsN xs.length bf) c) = _
        rw [hasI_cells hc]
      rw [e1, e2, part2 (p := fun c => af c || (bf c && (!af c && !hasI line (c : Int)))) (q := fun c => hasI line (c : Int) && bf c) xs.length (fun c hc => ?_), part2 (p := af) (q := fun c => bf c && (!af c && !hasI line (c : Int))) (r := fun c => af c || (bf c && (!af c && !hasI line (c : Int)))) xs.length (fun c hc => ⟨rfl, ?_⟩)]
      · rintro ⟨h3, h4⟩
        rw [h3] at h4
        simp at h4
      · have := hab c
        cases e3 : af c <;> cases e4 : bf c <;> cases e5 : hasI line (c : Int) <;> simp_all
    · exact Nat.le_trans (cellsN_length _ _) h25
  · cases h
end
end Go.Proofs.Ytkohfegajcmdbaa
