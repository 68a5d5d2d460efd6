/-
  Speeds and work that is done.
-/
import Derived.Test.YtojfbcgfeojdfaaGreatKVoc
import Derived.Test.YtojfbcgfeojdfaaGreatKMir
import Derived.Test.YtojfbcgfeojdfaaGreatKMkr
import Derived.Test.YtojfbcgfeojdfaaGreatKRd
namespace Go.Proofs.YtojfbcgfeojdfaaGreat
set_option linter.unusedSimpArgs false
set_option linter.unusedVariables false
/-- cells that are reached in k steps from sources, over cells that burn -/
def rK (n : Nat) (near : Nat → Nat → Bool) (burn src : Nat → Bool) : Nat → Nat → Prop
  | 0, c => c < n ∧ src c = true ∧ burn c = true
  | k + 1, c => rK n near burn src k c ∨ (c < n ∧ burn c = true ∧ ∃ d, rK n near burn src k d ∧ near d c = true)
def Reach (n : Nat) (near : Nat → Nat → Bool) (burn src : Nat → Bool) (c : Nat) : Prop := ∃ k, rK n near burn src k c
section
variable {n : Nat} {near : Nat → Nat → Bool} {burn src : Nat → Bool}
theorem Reach.base {c : Nat} (h : c < n) (hs : src c = true) (hb : burn c = true) : Reach n near burn src c := ⟨0, h, hs, hb⟩
theorem Reach.step {d c : Nat} (hd : Reach n near burn src d) (h : c < n) (hb : burn c = true) (hn : near d c = true) : Reach n near burn src c := by
  obtain ⟨k, hk⟩ := hd
  exact ⟨k + 1, .inr ⟨h, hb, d, hk, hn⟩⟩
theorem Reach.least {T : Nat → Prop} (h0 : ∀ c, c < n → src c = true → burn c = true → T c) (h1 : ∀ d c, T d → c < n → burn c = true → near d c = true → T c) {c : Nat} (h : Reach n near burn src c) : T c := by
  obtain ⟨k, hk⟩ := h
  induction k generalizing c with
  | zero => exact h0 c hk.1 hk.2.1 hk.2.2
  | succ k ih =>
    rcases hk with hk | ⟨hc, hb, d, hd, hn⟩
    · exact ih hk
    · exact h1 d c (ih hd) hc hb hn
theorem Reach.lt {c : Nat} (h : Reach n near burn src c) : c < n ∧ burn c = true :=
  h.least (T := fun c => c < n ∧ burn c = true) (fun _ h1 _ h3 => ⟨h1, h3⟩) (fun _ _ _ h1 h2 _ => ⟨h1, h2⟩)
end
noncomputable def reachB (n : Nat) (near : Nat → Nat → Bool) (burn src : Nat → Bool) (c : Nat) : Bool := @decide (Reach n near burn src c) (Classical.propDecidable _)
theorem reachB_iff {n : Nat} {near : Nat → Nat → Bool} {burn src : Nat → Bool} {c : Nat} : reachB n near burn src c = true ↔ Reach n near burn src c := by
  unfold reachB
  exact @decide_eq_true_iff _ (Classical.propDecidable _)
/-- strictly ascending lists with the same elements are the same -/
theorem asc_ext : ∀ {xs ys : List Int}, xs.Pairwise (· < ·) → ys.Pairwise (· < ·) → (∀ x, x ∈ xs ↔ x ∈ ys) → xs = ys
  | [], [], _, _, _ => rfl
  | [], y :: ys, _, _, h => by have := (h y).2 (by simp); simp at this
  | x :: xs, [], _, _, h => by have := (h x).1 (by simp); simp at this
  | x :: xs, y :: ys, hx, hy, h => by
    obtain ⟨hx1, hx2⟩ := List.pairwise_cons.1 hx
    obtain ⟨hy1, hy2⟩ := List.pairwise_cons.1 hy
    have e : x = y := by
      have h1 := (h x).1 (by simp)
      have h2 := (h y).2 (by simp)
      rcases List.mem_cons.1 h1 with h1 | h1
      · exact h1
      · rcases List.mem_cons.1 h2 with h2 | h2
        · exact h2.symm
        · have := hx1 y h2
          have := hy1 x h1
          omega
    subst e
    rw [asc_ext hx2 hy2 (fun z => ?_)]
    constructor
    · intro hz
      rcases List.mem_cons.1 ((h z).1 (by simp [hz])) with rfl | h3
      · have := hx1 z hz; omega
      · exact h3
    · intro hz
      rcases List.mem_cons.1 ((h z).2 (by simp [hz])) with rfl | h3
      · have := hy1 z hz; omega
      · exact h3
end Go.Proofs.YtojfbcgfeojdfaaGreat

/-
  Distances and neighbors; cells that fulfil a condition; lists filtered.
-/
namespace Go.Proofs.YtojfbcgfeojdfaaGreat
set_option linter.unusedSimpArgs false
set_option linter.unusedVariables false
open Go.RowKit

def dI (a b : Int) : Int := max (a - b) (b - a)
/-- steps between two cells -/
def apI (W a b : Nat) : Int := max (dI (a % W : Nat) (b % W : Nat)) (dI (a / W : Nat) (b / W : Nat))
theorem apI_symm (W a b : Nat) : apI W a b = apI W b a := by unfold apI dI; omega
theorem apI_bound {W a b : Nat} (ha : a ≤ 1000) (hb : b ≤ 1000) : 0 ≤ apI W a b ∧ apI W a b ≤ 1000 := by
  have h1 := Nat.mod_le a W
  have h2 := Nat.mod_le b W
  have h3 := Nat.div_le_self a W
  have h4 := Nat.div_le_self b W
  unfold apI dI
  generalize a % W = q1 at *
  generalize b % W = q2 at *
  generalize a / W = q3 at *
  generalize b / W = q4 at *
  omega
def nearN (W a b : Nat) : Bool := apI W a b == 1
theorem nearN_symm (W a b : Nat) : nearN W a b = nearN W b a := by unfold nearN; rw [apI_symm]
/-- the cells below n with p, as numbers -/
def cellsN (n : Nat) (p : Nat → Bool) : List Int := ((List.range n).filter p).map Int.ofNat
theorem cellsN_succ (n : Nat) (p : Nat → Bool) : cellsN (n + 1) p = cellsN n p ++ if p n then [(n : Int)] else [] := by
  unfold cellsN
  rw [List.range_succ, List.filter_append, List.map_append]
  cases h : p n <;> simp [h]
theorem cellsN_length (n : Nat) (p : Nat → Bool) : (cellsN n p).length ≤ n := by
  unfold cellsN
  rw [List.length_map]
  exact Nat.le_trans (List.length_filter_le _ _) (by simp)
theorem cellsN_mem {n : Nat} {p : Nat → Bool} {x : Int} : x ∈ cellsN n p ↔ ∃ c : Nat, x = c ∧ c < n ∧ p c = true := by
  unfold cellsN
  simp only [List.mem_map, List.mem_filter, List.mem_range]
  constructor
  · rintro ⟨c, ⟨h1, h2⟩, rfl⟩; exact ⟨c, rfl, h1, h2⟩
  · rintro ⟨c, rfl, h1, h2⟩; exact ⟨c, ⟨h1, h2⟩, rfl⟩
theorem cellsN_asc (n : Nat) (p : Nat → Bool) : (cellsN n p).Pairwise (· < ·) := by
  unfold cellsN
  rw [List.pairwise_map]
  refine List.Pairwise.imp ?_ (List.Pairwise.filter _ List.pairwise_lt_range)
  intro a b h
  exact Int.ofNat_lt.2 h
theorem cellsN_congr {n : Nat} {p q : Nat → Bool} (h : ∀ c, c < n → p c = q c) : cellsN n p = cellsN n q := by
  unfold cellsN
  rw [List.filter_congr (fun c hc => h c (List.mem_range.1 hc))]

theorem distance_any (a b : Int) (w : World) (ha : 0 ≤ a ∧ a ≤ 1000000) (hb : 0 ≤ b ∧ b ≤ 1000000) :
    Calls Tryz.prog 154 #[.int .i64 a, .int .i64 b] w fun e w' => e = .returned (.int .i64 (dI a b)) ∧ w = w' := by
  obtain ⟨a0, a1⟩ := ha
  obtain ⟨b0, b1⟩ := hb
  go_enter Tryz.func154, Tryz.ntmps154
  go_wp2
  all_goals
    go_ret
    exact ⟨ri (by unfold dI; omega), rfl⟩

theorem l1Most_any (a b : Int) (w : World) :
    Calls Tryz.prog 116 #[.int .i64 a, .int .i64 b] w fun e w' => e = .returned (.int .i64 (max a b)) ∧ w = w' := by
  by_cases h : b < a
  all_goals
    go_enter Tryz.func116, Tryz.ntmps116
    go_wp2
    go_ret
    exact ⟨ri (by omega), rfl⟩

set_option maxRecDepth 100000 in
set_option maxHeartbeats 1000000 in
theorem apart_any (W : Nat) (H : Int) (s : Value) (a b : Nat) (w : World) (hW : 1 ≤ W ∧ W ≤ 5) (ha : a ≤ 1000) (hb : b ≤ 1000) :
    Calls Tryz.prog 132 #[.agg #[.int .i64 W, .int .i64 H, s], .int .i64 a, .int .i64 b] w fun e w' => e = .returned (.int .i64 (apI W a b)) ∧ Below w.heap.size w w' := by
  have hM := Mem.start w
  have h1 := Nat.mod_le a W
  have h2 := Nat.mod_le b W
  have h3 := Nat.div_le_self a W
  have h4 := Nat.div_le_self b W
  obtain ⟨w1, w2⟩ := hW
  obtain ⟨qa, hqa⟩ : ∃ q, a % W = q := ⟨_, rfl⟩
  obtain ⟨qb, hqb⟩ : ∃ q, b % W = q := ⟨_, rfl⟩
  obtain ⟨ra, hra⟩ : ∃ q, a / W = q := ⟨_, rfl⟩
  obtain ⟨rb, hrb⟩ : ∃ q, b / W = q := ⟨_, rfl⟩
  have e1 : ((a : Int) % (W : Int)) = qa := by rw [← hqa]; rfl
  have e2 : ((b : Int) % (W : Int)) = qb := by rw [← hqb]; rfl
  have e3 : ((a : Int) / (W : Int)) = ra := by rw [← hra]; rfl
  have e4 : ((b : Int) / (W : Int)) = rb := by rw [← hrb]; rfl
  have HF := Lib.hid (show apI W a b = max (dI qa qb) (dI ra rb) by unfold apI; rw [hqa, hqb, hra, hrb])
  rw [hqa] at h1; rw [hqb] at h2; rw [hra] at h3; rw [hrb] at h4
  have E1 := Lib.hid e1; have E2 := Lib.hid e2; have E3 := Lib.hid e3; have E4 := Lib.hid e4
  clear hqa hqb hra hrb e1 e2 e3 e4
  have b1 : 0 ≤ dI qa qb ∧ dI qa qb ≤ 1000 := by unfold dI; omega
  have b2 : 0 ≤ dI ra rb ∧ dI ra rb ≤ 1000 := by unfold dI; omega
  obtain ⟨x, hx⟩ : ∃ x, dI qa qb = x := ⟨_, rfl⟩
  obtain ⟨y, hy⟩ : ∃ y, dI ra rb = y := ⟨_, rfl⟩
  rw [hx] at b1
  rw [hy] at b2
  have HX := Lib.hid hx; have HY := Lib.hid hy
  clear hx hy
  go_enter Tryz.func132, Tryz.ntmps132
  go_wp2_with fail
  apply Mem.atWp
  · exact memA
  clear hM
  intro hM
  refine AtT.startA hM hM 15 (by kernel_rfl) ?_
  clear hM
  intro wd hM
  have hS := hM
  refine AtT.tk 0 ?_ 7 ?_ hS ?_
  rotate_left
  · (intro wS hSw; (try dsimp only at hSw); have kr0 := (Mem.row hSw .here).cell; go_simp; (try rw [if_neg (by omega)]); try with_reducible rfl)
  simp only [Act.put, sA]
  refine AtT.tk 1 ?_ 8 ?_ hS ?_
  rotate_left
  · (intro wS hSw; (try dsimp only at hSw); go_simp; (try rw [if_neg (by omega)]); try with_reducible rfl)
  simp only [Act.put, sA]
  refine AtT.tk 3 ?_ 10 ?_ hS ?_
  rotate_left
  · (intro wS hSw; (try dsimp only at hSw); have kr0 := (Mem.row hSw .here).cell; go_simp; (try rw [if_neg (by omega)]); try with_reducible rfl)
  simp only [Act.put, sA]
  refine AtT.tk 4 ?_ 11 ?_ hS ?_
  rotate_left
  · (intro wS hSw; (try dsimp only at hSw); go_simp; (try rw [if_neg (by omega)]); try with_reducible rfl)
  simp only [Act.put, sA]
  refine AtT.tk 7 ?_ 14 ?_ hS ?_
  rotate_left
  · (intro wS hSw; (try dsimp only at hSw); have kr0 := (Mem.row hSw .here).cell; go_simp; (try rw [if_neg (by omega)]); try with_reducible rfl)
  simp only [Act.put, sA]
  refine AtT.tk 8 ?_ 15 ?_ hS ?_
  rotate_left
  · (intro wS hSw; (try dsimp only at hSw); go_simp; (try rw [if_neg (by omega)]); try with_reducible rfl)
  simp only [Act.put, sA]
  refine AtT.tk 10 ?_ 17 ?_ hS ?_
  rotate_left
  · (intro wS hSw; (try dsimp only at hSw); have kr0 := (Mem.row hSw .here).cell; go_simp; (try rw [if_neg (by omega)]); try with_reducible rfl)
  simp only [Act.put, sA]
  refine AtT.tk 11 ?_ 18 ?_ hS ?_
  rotate_left
  · (intro wS hSw; (try dsimp only at hSw); go_simp; (try rw [if_neg (by omega)]); try with_reducible rfl)
  simp only [Act.put, sA]
  refine AtT.only (i := 2) (by kernel_rfl) rfl rfl ?_
  intro K hK
  go_simp
  refine (column_any _ _ _ _ _ (by omega) (by omega)).mono ?_
  rw [E1.out]
  rintro e w1 ⟨rfl, hb⟩
  replace hM := hM.ext hb
  clear hb
  try dsimp only
  refine hK.out _ _ (hM) ?_
  clear hK K hS
  have hS := hM
  refine AtT.only (i := 5) (by kernel_rfl) rfl rfl ?_
  intro K hK
  go_simp
  refine (column_any _ _ _ _ _ (by omega) (by omega)).mono ?_
  rw [E2.out]
  rintro e w1 ⟨rfl, hb⟩
  replace hM := hM.ext hb
  clear hb
  try dsimp only
  refine hK.out _ _ (hM) ?_
  clear hK K hS
  have hS := hM
  refine AtT.only (i := 6) (by kernel_rfl) rfl rfl ?_
  intro K hK
  go_simp
  refine (distance_any _ _ _ (by omega) (by omega)).mono ?_
  rw [HX.out]
  rintro e w1 ⟨rfl, rfl⟩
  try dsimp only
  refine hK.out _ _ (hM) ?_
  clear hK K hS
  have hS := hM
  refine AtT.only (i := 9) (by kernel_rfl) rfl rfl ?_
  intro K hK
  go_simp
  refine (row_any _ _ _ _ _ (by omega) (by omega)).mono ?_
  rw [E3.out]
  rintro e w1 ⟨rfl, hb⟩
  replace hM := hM.ext hb
  clear hb
  try dsimp only
  refine hK.out _ _ (hM) ?_
  clear hK K hS
  have hS := hM
  refine AtT.only (i := 12) (by kernel_rfl) rfl rfl ?_
  intro K hK
  go_simp
  refine (row_any _ _ _ _ _ (by omega) (by omega)).mono ?_
  rw [E4.out]
  rintro e w1 ⟨rfl, hb⟩
  replace hM := hM.ext hb
  clear hb
  try dsimp only
  refine hK.out _ _ (hM) ?_
  clear hK K hS
  have hS := hM
  refine AtT.only (i := 13) (by kernel_rfl) rfl rfl ?_
  intro K hK
  go_simp
  refine (distance_any _ _ _ (by omega) (by omega)).mono ?_
  rw [HY.out]
  rintro e w1 ⟨rfl, rfl⟩
  try dsimp only
  refine hK.out _ _ (hM) ?_
  clear hK K hS
  have hS := hM
  refine AtT.tk 14 ?_ 21 ?_ hS ?_
  rotate_left
  · (intro wS hSw; (try dsimp only at hSw); go_simp; (try rw [if_neg (by omega)]); try with_reducible rfl)
  simp only [Act.put, sA]
  refine AtT.last (by kernel_rfl) rfl (by kernel_rfl) ?_
  intro K hK
  clear hS
  go_simp
  refine hK.out _ _ ?_
  clear hK K
  go_wp2
  all_goals
    go_ret
    exact ⟨ri (by rw [HF.out, HX.out, HY.out]; omega), (by apply Mem.below; (exact memA))⟩
end Go.Proofs.YtojfbcgfeojdfaaGreat

/-
  When fire arrives: least times over steps that take their time; plain lists.
-/
namespace Go.Proofs.YtojfbcgfeojdfaaGreat
set_option linter.unusedSimpArgs false
set_option linter.unusedVariables false
open Go.RowKit

/-- work at speeds -/
def doneF (sp : Int → Int) : Nat → Int → Int → Int
  | 0, t, _ => t
  | m + 1, t, w => if 0 < w then doneF sp m (t + 1) (w - sp t) else t
/-- the tick at which work is done -/
def doneT (sp : Int → Int) (t w : Int) : Int := doneF sp w.toNat t w
theorem doneF_stop {sp : Int → Int} {t w : Int} (h : w ≤ 0) : ∀ m, doneF sp m t w = t
  | 0 => rfl
  | m + 1 => by rw [doneF, if_neg (by omega)]
theorem doneF_fuel {sp : Int → Int} (hs : ∀ t, 0 ≤ t → 1 ≤ sp t) : ∀ (m m' : Nat) {t w : Int}, 0 ≤ t → w ≤ m → w ≤ m' → doneF sp m t w = doneF sp m' t w
  | 0, m', t, w, _, h, _ => (doneF_stop (by omega) _).trans (doneF_stop (by omega) _).symm
  | m + 1, 0, t, w, _, _, h => (doneF_stop (by omega) _).trans (doneF_stop (by omega) _).symm
  | m + 1, m' + 1, t, w, ht, h, h' => by
    rw [doneF, doneF]
    split
    · have := hs t ht
      exact doneF_fuel hs m m' (by omega) (by omega) (by omega)
    · rfl
theorem doneT_step {sp : Int → Int} (hs : ∀ t, 0 ≤ t → 1 ≤ sp t) {t w : Int} (ht : 0 ≤ t) (hw : 0 < w) : doneT sp t w = doneT sp (t + 1) (w - sp t) := by
  have h1 := hs t ht
  unfold doneT
  obtain ⟨m, hm⟩ : ∃ m, w.toNat = m + 1 := ⟨w.toNat - 1, by omega⟩
  rw [hm, doneF, if_pos hw]
  exact doneF_fuel hs _ _ (by omega) (by omega) (by omega)
theorem doneT_stop {sp : Int → Int} {t w : Int} (h : w ≤ 0) : doneT sp t w = t := doneF_stop h _
theorem doneF_ge {sp : Int → Int} : ∀ (m : Nat) (t w : Int), t ≤ doneF sp m t w
  | 0, t, _ => Int.le_refl t
  | m + 1, t, w => by
    rw [doneF]
    split
    · have := doneF_ge (sp := sp) m (t + 1) (w - sp t); omega
    · exact Int.le_refl t
theorem doneT_ge {sp : Int → Int} (t w : Int) : t ≤ doneT sp t w := doneF_ge _ _ _
theorem doneF_le {sp : Int → Int} : ∀ (m : Nat) (t w : Int), doneF sp m t w ≤ t + m
  | 0, t, _ => by show t ≤ t + ((0 : Nat) : Int); omega
  | m + 1, t, w => by
    rw [doneF]
    split
    · have := doneF_le (sp := sp) m (t + 1) (w - sp t); omega
    · omega
theorem doneT_le {sp : Int → Int} {t w : Int} (hw : 0 ≤ w) : doneT sp t w ≤ t + w := by
  have := doneF_le (sp := sp) w.toNat t w
  unfold doneT
  omega
theorem doneF_mono_w {sp : Int → Int} : ∀ (m : Nat) (t w w' : Int), w ≤ w' → doneF sp m t w ≤ doneF sp m t w'
  | 0, t, _, _, _ => Int.le_refl t
  | m + 1, t, w, w', h => by
    rw [doneF, doneF]
    split
    · rw [if_pos (by omega)]
      exact doneF_mono_w m (t + 1) _ _ (by omega)
    · split
      · have := doneF_ge (sp := sp) m (t + 1) (w' - sp t); omega
      · exact Int.le_refl t
theorem doneT_mono_w {sp : Int → Int} (hs : ∀ t, 0 ≤ t → 1 ≤ sp t) {t w w' : Int} (ht : 0 ≤ t) (h : w ≤ w') : doneT sp t w ≤ doneT sp t w' := by
  unfold doneT
  rw [doneF_fuel hs w.toNat w'.toNat ht (by omega) (by omega)]
  exact doneF_mono_w _ _ _ _ h
theorem doneT_succ {sp : Int → Int} (hs : ∀ t, 0 ≤ t → 1 ≤ sp t) {t w : Int} (ht : 0 ≤ t) : doneT sp t w ≤ doneT sp (t + 1) w := by
  by_cases hw : 0 < w
  · rw [doneT_step hs ht hw]
    have := hs t ht
    exact doneT_mono_w hs (by omega) (by omega)
  · rw [doneT_stop (by omega), doneT_stop (by omega)]
    omega
theorem doneT_mono {sp : Int → Int} (hs : ∀ t, 0 ≤ t → 1 ≤ sp t) {w : Int} : ∀ (k : Nat) {t : Int}, 0 ≤ t → doneT sp t w ≤ doneT sp (t + k) w
  | 0, t, _ => by rw [show t + ((0 : Nat) : Int) = t by omega]; exact Int.le_refl _
  | k + 1, t, ht => by
    have h1 := doneT_mono hs (w := w) k ht
    have h2 := doneT_succ hs (t := t + k) (w := w) (by omega)
    rw [show t + ((k + 1 : Nat) : Int) = t + k + 1 by omega]
    omega
theorem doneT_le_of {sp : Int → Int} (hs : ∀ t, 0 ≤ t → 1 ≤ sp t) {w t t' : Int} (ht : 0 ≤ t) (h : t ≤ t') : doneT sp t w ≤ doneT sp t' w := by
  have := doneT_mono hs (w := w) (t' - t).toNat ht
  rwa [show t + ((t' - t).toNat : Int) = t' by omega] at this
/-- where fire is at what tick, in k steps -/
def arK (n : Nat) (near : Nat → Nat → Bool) (burn src : Nat → Bool) (start : Int) (don : Nat → Nat → Int → Int) : Nat → Nat → Int → Prop
  | 0, c, t => c < n ∧ src c = true ∧ burn c = true ∧ t = start
  | k + 1, c, t => arK n near burn src start don k c t ∨ (c < n ∧ burn c = true ∧ ∃ d t', arK n near burn src start don k d t' ∧ near d c = true ∧ t = don d c t')
def Arr (n : Nat) (near : Nat → Nat → Bool) (burn src : Nat → Bool) (start : Int) (don : Nat → Nat → Int → Int) (c : Nat) (t : Int) : Prop := ∃ k, arK n near burn src start don k c t
section
variable {n : Nat} {near : Nat → Nat → Bool} {burn src : Nat → Bool} {start : Int} {don : Nat → Nat → Int → Int}
theorem Arr.base {c : Nat} (h : c < n) (hs : src c = true) (hb : burn c = true) : Arr n near burn src start don c start := ⟨0, h, hs, hb, rfl⟩
theorem Arr.step {d c : Nat} {t : Int} (hd : Arr n near burn src start don d t) (h : c < n) (hb : burn c = true) (hn : near d c = true) : Arr n near burn src start don c (don d c t) := by
  obtain ⟨k, hk⟩ := hd
  exact ⟨k + 1, .inr ⟨h, hb, d, t, hk, hn, rfl⟩⟩
theorem Arr.least {T : Nat → Int → Prop} (h0 : ∀ c, c < n → src c = true → burn c = true → T c start) (h1 : ∀ d c t, T d t → c < n → burn c = true → near d c = true → T c (don d c t)) {c : Nat} {t : Int} (h : Arr n near burn src start don c t) : T c t := by
  obtain ⟨k, hk⟩ := h
  induction k generalizing c t with
  | zero => obtain ⟨a, b, d, rfl⟩ := hk; exact h0 c a b d
  | succ k ih =>
    rcases hk with hk | ⟨hc, hb, d, t', hk, hn, rfl⟩
    · exact ih hk
    · exact h1 d c t' (ih hk) hc hb hn
/-- the times at which fire arrives -/
structure IsT (n : Nat) (near : Nat → Nat → Bool) (burn src : Nat → Bool) (start : Int) (don : Nat → Nat → Int → Int) (ts : List Int) : Prop where
  len : ts.length = n
  is : ∀ c, c < n → ts.getD c 0 = -1 ∨ (0 ≤ ts.getD c 0 ∧ Arr n near burn src start don c (ts.getD c 0))
  le : ∀ c t, Arr n near burn src start don c t → ts.getD c 0 ≠ -1 ∧ ts.getD c 0 ≤ t
theorem IsT.unique {ts ts' : List Int} (h : IsT n near burn src start don ts) (h' : IsT n near burn src start don ts') : ts = ts' := by
  apply List.ext_getElem (by rw [h.len, h'.len])
  intro i h1 h2
  have hi : i < n := by rw [← h.len]; exact h1
  have e1 : ts.getD i 0 = ts[i] := by simp [List.getD, h1]
  have e2 : ts'.getD i 0 = ts'[i] := by simp [List.getD, h2]
  rw [← e1, ← e2]
  rcases h.is i hi with a | ⟨a0, a⟩
  · rcases h'.is i hi with b | ⟨b0, b⟩
    · rw [a, b]
    · exact absurd a (h.le i _ b).1
  · rcases h'.is i hi with b | ⟨b0, b⟩
    · exact absurd b (h'.le i _ a).1
    · have := (h.le i _ b).2
      have := (h'.le i _ a).2
      omega
/-- what is begun: times that fire takes, sources at the start -/
structure BegT (n : Nat) (near : Nat → Nat → Bool) (burn src : Nat → Bool) (start : Int) (don : Nat → Nat → Int → Int) (ts : List Int) : Prop where
  len : ts.length = n
  is : ∀ c, c < n → ts.getD c 0 = -1 ∨ (0 ≤ ts.getD c 0 ∧ Arr n near burn src start don c (ts.getD c 0))
  src : ∀ c, c < n → src c = true → burn c = true → ts.getD c 0 ≠ -1 ∧ ts.getD c 0 ≤ start
/-- the edge from a to b has been taken -/
def edgeT (burn : Nat → Bool) (near : Nat → Nat → Bool) (don : Nat → Nat → Int → Int) (ts : List Int) (a b : Nat) : Prop := ts.getD a 0 ≠ -1 → burn b = true → near a b = true → ts.getD b 0 ≠ -1 ∧ ts.getD b 0 ≤ don a b (ts.getD a 0)
theorem BegT.done {ts : List Int} (h : BegT n near burn src start don ts) (hm : ∀ a b t t', 0 ≤ t → t ≤ t' → don a b t ≤ don a b t') (he : ∀ a b, a < n → b < n → edgeT burn near don ts a b) : IsT n near burn src start don ts := by
  refine ⟨h.len, h.is, fun c t ht => ?_⟩
  have key := ht.least (T := fun c t => c < n ∧ ts.getD c 0 ≠ -1 ∧ ts.getD c 0 ≤ t) (fun c hc hs hb => ⟨hc, h.src c hc hs hb⟩) (fun d c t hd hc hb hn => by
    obtain ⟨hdn, hd1, hd2⟩ := hd
    obtain ⟨e1, e2⟩ := he d c hdn hc hd1 hb hn
    have h0 : 0 ≤ ts.getD d 0 := by
      rcases h.is d hdn with e | ⟨e, _⟩
      · exact absurd e hd1
      · exact e
    exact ⟨hc, e1, Int.le_trans e2 (hm d c _ _ h0 hd2)⟩)
  exact key.2
/-- a shorter time is found -/
theorem BegT.relax {ts : List Int} (h : BegT n near burn src start don ts) (hg : ∀ a b t, t ≤ don a b t) {a b : Nat} (ha : a < n) (hb : b < n) (hta : ts.getD a 0 ≠ -1) (hbb : burn b = true) (hn : near a b = true) (hl : ts.getD b 0 = -1 ∨ don a b (ts.getD a 0) < ts.getD b 0) : BegT n near burn src start don (ts.set b (don a b (ts.getD a 0))) := by
  have ha2 : 0 ≤ ts.getD a 0 ∧ Arr n near burn src start don a (ts.getD a 0) := by
    rcases h.is a ha with e | e
    · exact absurd e hta
    · exact e
  have hg2 : ∀ c, c < n → (ts.set b (don a b (ts.getD a 0))).getD c 0 = if c = b then don a b (ts.getD a 0) else ts.getD c 0 := by
    intro c hc
    by_cases e : c = b
    · subst e
      rw [if_pos rfl]
      simp [List.getD, h.len, hc]
    · rw [if_neg e]
      simp [List.getD, List.getElem?_set_ne (Ne.symm e)]
  refine ⟨by rw [List.length_set]; exact h.len, fun c hc => ?_, fun c hc hs hbn => ?_⟩
  · rw [hg2 c hc]
    by_cases e : c = b
    · subst e
      rw [if_pos rfl]
      exact .inr ⟨Int.le_trans ha2.1 (hg _ _ _), ha2.2.step hc hbb hn⟩
    · rw [if_neg e]
      exact h.is c hc
  · rw [hg2 c hc]
    have h1 := h.src c hc hs hbn
    by_cases e : c = b
    · subst e
      rw [if_pos rfl]
      have h2 := hg a c (ts.getD a 0)
      rcases hl with hl | hl
      · exact absurd hl h1.1
      · exact ⟨by omega, by omega⟩
    · rw [if_neg e]
      exact h1
end
end Go.Proofs.YtojfbcgfeojdfaaGreat

namespace Go.Proofs.YtojfbcgfeojdfaaGreat
set_option linter.unusedSimpArgs false
set_option linter.unusedVariables false
open Go.RowKit

structure PhaseI where
  fr : Int
  sp : Int
instance : DecidableEq PhaseI := fun a b => decidable_of_iff (a.fr = b.fr ∧ a.sp = b.sp) (by cases a; cases b; simp [and_assoc])
def PhaseI.zero : PhaseI := ⟨0, 0⟩
def FPhase : Fl PhaseI where
  sz := 2
  enc x := [.int .i64 x.fr, .int .i64 x.sp]
  z := PhaseI.zero
  wf x := I64 x.fr ∧ I64 x.sp
  pos := by decide
  len _ := rfl
  one := by intro x v hv; simp at hv; rcases hv with rfl | rfl <;> rfl
abbrev PhaseI.val (x : PhaseI) : Value := .agg #[.int .i64 x.fr, .int .i64 x.sp]
theorem Rd.cellPhase {w : World} {b off n c : Nat} {xs : List PhaseI} (h : Rd FPhase w (some ⟨b, off, none⟩) n c xs) {k : Nat} (hk : k < n) : b < w.heap.size ∧ w.cell? ⟨b, off + k * 2, none⟩ = some (.int .i64 (xs.getD k PhaseI.zero).fr) ∧ w.cell? ⟨b, off + k * 2 + 1, none⟩ = some (.int .i64 (xs.getD k PhaseI.zero).sp) := by
  obtain ⟨b', off', e, hl, hc⟩ := h.at' k hk
  simp only [Option.some.injEq, Addr.mk.injEq] at e
  obtain ⟨rfl, rfl, _⟩ := e
  exact ⟨hl, by rw [show off + k * 2 = off + (k * FPhase.sz + 0) by show _ = off + (k * 2 + 0); omega]; exact hc k hk 0 (by decide), by rw [show off + k * 2 + 1 = off + (k * FPhase.sz + 1) by show _ = off + (k * 2 + 1); omega]; exact hc k hk 1 (by decide)⟩
theorem Ow.cellPhase {E : TypeId} {B : Nat} {w : World} {g n c : Nat} {xs : List PhaseI} (h : Ow FPhase E B w (some ⟨g, 0, none⟩) n c xs) {k : Nat} (hk : k < n) : w.cell? ⟨g, k * 2, none⟩ = some (.int .i64 (xs.getD k PhaseI.zero).fr) ∧ w.cell? ⟨g, k * 2 + 1, none⟩ = some (.int .i64 (xs.getD k PhaseI.zero).sp) := by
  exact ⟨h.cell hk (j := 0) (by decide), h.cell hk (j := 1) (by decide)⟩
theorem Ow.putPhase {E : TypeId} {B : Nat} {w : World} {g n c : Nat} {xs : List PhaseI} (h : Ow FPhase E B w (some ⟨g, 0, none⟩) n c xs) {k : Nat} (hk : k < n) (y : PhaseI) (hw : FPhase.wf y) : Ow FPhase E B ((w.setCell ⟨g, k * 2, none⟩ (.int .i64 y.fr)).setCell ⟨g, k * 2 + 1, none⟩ (.int .i64 y.sp)) (some ⟨g, 0, none⟩) n c (xs.set k y) :=
  h.putRec hk y hw
theorem Mem.putPhase {E : TypeId} {B : Nat} {w0 w : World} {G G' : List Ent} {g n c : Nat} {xs : List PhaseI} (h : Mem B w0 w G) {k : Nat} (hk : k < n) (y : PhaseI) (hw : FPhase.wf y) (p : Put G (owE FPhase E (some ⟨g, 0, none⟩) n c xs) (owE FPhase E (some ⟨g, 0, none⟩) n c (xs.set k y)) G') : Mem B w0 ((w.setCell ⟨g, k * 2, none⟩ (.int .i64 y.fr)).setCell ⟨g, k * 2 + 1, none⟩ (.int .i64 y.sp)) G' :=
  h.put p (setRec_keeps (d := blockOf (some ⟨g, 0, none⟩)) g ⟨_, rfl, rfl⟩ (FPhase.enc y) (k * 2) w) ((h.ow p.mem').putPhase hk y hw) (fun k hk => .inl hk)
theorem Tryz.info128 : (Tryz.prog.info? 128).map (fun i => (i.zero, i.size, i.bytes)) = some (some (.agg #[.int .i64 0, .int .i64 0]), 2, 16) := by kernel_rfl
end Go.Proofs.YtojfbcgfeojdfaaGreat

/-
  Speeds and work that is done.
-/
namespace Go.Proofs.YtojfbcgfeojdfaaGreat
set_option linter.unusedSimpArgs false
set_option linter.unusedVariables false
open Go.RowKit

/-- the speed from a tick on -/
def spd (l : List PhaseI) (t : Int) : Int := l.foldl (fun o p => if p.fr ≤ t then p.sp else o) 0
def phOK (l : List PhaseI) (k : Nat) : Bool := inB (l.getD k PhaseI.zero).fr 0 9999 && inB (l.getD k PhaseI.zero).sp 1 9 && (if k = 0 then decide ((l.getD k PhaseI.zero).fr = 0) else decide ((l.getD (k - 1) PhaseI.zero).fr < (l.getD k PhaseI.zero).fr))
def phasesB (l : List PhaseI) : Bool := (List.range l.length).all (phOK l) && inB l.length 1 6
theorem phasesB_true {l : List PhaseI} (h : phasesB l = true) : (∀ k, k < l.length → phOK l k = true) ∧ 1 ≤ l.length ∧ l.length ≤ 6 := by
  unfold phasesB at h
  rw [Bool.and_eq_true, List.all_eq_true] at h
  have := inB_true h.2
  exact ⟨fun k hk => h.1 k (List.mem_range.2 hk), by omega, by omega⟩
theorem phOK_true {l : List PhaseI} {k : Nat} (h : phOK l k = true) : (0 ≤ (l.getD k PhaseI.zero).fr ∧ (l.getD k PhaseI.zero).fr ≤ 9999) ∧ (1 ≤ (l.getD k PhaseI.zero).sp ∧ (l.getD k PhaseI.zero).sp ≤ 9) ∧ (k = 0 → (l.getD k PhaseI.zero).fr = 0) ∧ (0 < k → (l.getD (k - 1) PhaseI.zero).fr < (l.getD k PhaseI.zero).fr) := by
  unfold phOK at h
  simp only [Bool.and_eq_true] at h
  refine ⟨inB_true h.1.1, inB_true h.1.2, fun e => ?_, fun e => ?_⟩
  · have := h.2; rw [if_pos e] at this; simpa using this
  · have := h.2; rw [if_neg (by omega)] at this; simpa using this
theorem spd_take {l : List PhaseI} {t : Int} {k : Nat} (hk : k < l.length) : spd (l.take (k + 1)) t = if (l.getD k PhaseI.zero).fr ≤ t then (l.getD k PhaseI.zero).sp else spd (l.take k) t := by
  unfold spd
  rw [take_succV (z := PhaseI.zero) hk, List.foldl_append]
  rfl
/-- the speed is that of the last phase that has begun -/
theorem spd_at {l : List PhaseI} (h : phasesB l = true) {t : Int} {j : Nat} (hj : j < l.length) (h1 : (l.getD j PhaseI.zero).fr ≤ t) (h2 : j + 1 < l.length → t < (l.getD (j + 1) PhaseI.zero).fr) : spd l t = (l.getD j PhaseI.zero).sp := by
  obtain ⟨hok, _, _⟩ := phasesB_true h
  have hasc : ∀ d a, a + d < l.length → (l.getD a PhaseI.zero).fr ≤ (l.getD (a + d) PhaseI.zero).fr := by
    intro d
    induction d with
    | zero => intro a _; exact Int.le_refl _
    | succ d ih =>
      intro a ha
      have h3 := ih a (by omega)
      have h4 := (phOK_true (hok (a + (d + 1)) ha)).2.2.2 (by omega)
      rw [show a + (d + 1) - 1 = a + d by omega] at h4
      omega
  have key : ∀ k, k ≤ l.length → j < k → spd (l.take k) t = (l.getD j PhaseI.zero).sp := by
    intro k
    induction k with
    | zero => intro _ h; omega
    | succ k ih =>
      intro hk hjk
      rw [spd_take (by omega)]
      by_cases e : k = j
      · subst e; rw [if_pos h1]
      · have h3 := h2 (by omega)
        have h4 := hasc (k - (j + 1)) (j + 1) (by omega)
        rw [show j + 1 + (k - (j + 1)) = k by omega] at h4
        rw [if_neg (by omega)]
        exact ih (by omega) (by omega)
  have := key l.length (Nat.le_refl _) hj
  rwa [List.take_of_length_le (Nat.le_refl _)] at this
/-- there is such a phase -/
theorem phase_of {l : List PhaseI} (h : phasesB l = true) {t : Int} (ht : 0 ≤ t) : ∃ j, j < l.length ∧ (l.getD j PhaseI.zero).fr ≤ t ∧ (j + 1 < l.length → t < (l.getD (j + 1) PhaseI.zero).fr) := by
  obtain ⟨hok, h1, _⟩ := phasesB_true h
  have key : ∀ k, k < l.length → ∃ j, j ≤ k ∧ (l.getD j PhaseI.zero).fr ≤ t ∧ (j + 1 ≤ k → t < (l.getD (j + 1) PhaseI.zero).fr) := by
    intro k
    induction k with
    | zero =>
      intro hk
      exact ⟨0, Nat.le_refl _, by have := (phOK_true (hok 0 hk)).2.2.1 rfl; omega, fun h => by omega⟩
    | succ k ih =>
      intro hk
      obtain ⟨j, hj, h2, h3⟩ := ih (by omega)
      by_cases e : (l.getD (k + 1) PhaseI.zero).fr ≤ t
      · exact ⟨k + 1, Nat.le_refl _, e, fun h => by omega⟩
      · refine ⟨j, by omega, h2, fun h => ?_⟩
        by_cases e2 : j = k
        · subst e2; omega
        · exact h3 (by omega)
  obtain ⟨j, hj, h2, h3⟩ := key (l.length - 1) (by omega)
  exact ⟨j, by omega, h2, fun h => h3 (by omega)⟩
theorem spd_pos {l : List PhaseI} (h : phasesB l = true) {t : Int} (ht : 0 ≤ t) : 1 ≤ spd l t ∧ spd l t ≤ 9 := by
  obtain ⟨j, hj, h1, h2⟩ := phase_of h ht
  rw [spd_at h hj h1 h2]
  exact (phOK_true ((phasesB_true h).1 j hj)).2.1
theorem spd_cap {l : List PhaseI} (h : phasesB l = true) {t : Int} (ht : 0 ≤ t) : spd l (min t 9999) = spd l t := by
  obtain ⟨j, hj, h1, h2⟩ := phase_of h ht
  have h3 := (phOK_true ((phasesB_true h).1 j hj)).1.2
  rw [spd_at h hj h1 h2, spd_at h hj (by omega) (fun e => by have := h2 e; omega)]
end Go.Proofs.YtojfbcgfeojdfaaGreat
