/-
  Missing kinds: the plain part (sorting by kinds).
-/
import Derived.Test.YtfnaenekdenmkaaYApp
/-
  Missing kinds: the plain part (sorting by kinds).
-/
namespace Go.Proofs.Ytfnaenekdenmkaa
set_option linter.unusedSimpArgs false
set_option linter.unusedVariables false
open Go.RowKit

section
variable {α : Type} (d : α) (lt : α → α → Bool)
/-- the element at place j sinks as long as it is less than the one before it -/
def sinkG : Nat → List α → List α
  | 0, xs => xs
  | j + 1, xs => if lt (xs.getD (j + 1) d) (xs.getD j d) then sinkG j ((xs.set (j + 1) (xs.getD j d)).set j (xs.getD (j + 1) d)) else xs
def isortH : Nat → List α → List α
  | 0, xs => xs
  | k + 1, xs => sinkG d lt k (isortH k xs)
/-- insertion sort -/
def isortG (xs : List α) : List α := isortH d lt xs.length xs
/-- x sinks from behind -/
def insR (x : α) : List α → List α
  | [] => [x]
  | a :: A => if (a :: A).all (lt x) then x :: a :: A else a :: insR x A
end
section
variable {α : Type} {d : α} {lt : α → α → Bool}
theorem sinkG_length : ∀ (j : Nat) (xs : List α), (sinkG d lt j xs).length = xs.length
  | 0, _ => rfl
  | j + 1, xs => by
    rw [sinkG]
    split
    · rw [sinkG_length j]; simp
    · rfl
theorem isortH_length : ∀ (k : Nat) (xs : List α), (isortH d lt k xs).length = xs.length
  | 0, _ => rfl
  | k + 1, xs => by rw [isortH, sinkG_length, isortH_length k]
theorem isortG_length (xs : List α) : (isortG d lt xs).length = xs.length := isortH_length _ _
theorem swapG_mem {xs : List α} {j : Nat} (hj : j + 1 < xs.length) : ∀ z ∈ (xs.set (j + 1) (xs.getD j d)).set j (xs.getD (j + 1) d), z ∈ xs := by
  intro z hz
  rcases List.mem_or_eq_of_mem_set hz with hz | rfl
  · rcases List.mem_or_eq_of_mem_set hz with hz | rfl
    · exact hz
    · exact getD_memO (by omega)
  · exact getD_memO hj
theorem sinkG_mem : ∀ (j : Nat) (xs : List α), j < xs.length → ∀ z ∈ sinkG d lt j xs, z ∈ xs
  | 0, _, _ => fun _ hz => hz
  | j + 1, xs, hj => by
    rw [sinkG]
    split
    · intro z hz
      exact swapG_mem hj z (sinkG_mem j _ (by simp; omega) z hz)
    · exact fun _ hz => hz
theorem isortH_mem : ∀ (k : Nat) (xs : List α), k ≤ xs.length → ∀ z ∈ isortH d lt k xs, z ∈ xs
  | 0, _, _ => fun _ hz => hz
  | k + 1, xs, hk => fun z hz => isortH_mem k xs (by omega) z (sinkG_mem k _ (by rw [isortH_length]; omega) z hz)

theorem getD_appL {A B : List α} {j : Nat} (h : j < A.length) : (A ++ B).getD j d = A.getD j d := by
  rw [List.getD_eq_getElem?_getD, List.getElem?_append_left h, ← List.getD_eq_getElem?_getD]
theorem sinkG_app {B : List α} : ∀ (j : Nat) (xs : List α), j < xs.length → sinkG d lt j (xs ++ B) = sinkG d lt j xs ++ B
  | 0, _, _ => rfl
  | j + 1, xs, h => by
    rw [sinkG, sinkG, getD_appL h, getD_appL (by omega)]
    split
    · rw [List.set_append_left _ _ h, List.set_append_left _ _ (by simp; omega), sinkG_app j _ (by simp; omega)]
    · rfl
theorem isortH_app {B : List α} : ∀ (k : Nat) (xs : List α), k ≤ xs.length → isortH d lt k (xs ++ B) = isortH d lt k xs ++ B
  | 0, _, _ => rfl
  | k + 1, xs, h => by rw [isortH, isortH, isortH_app k xs (by omega), sinkG_app k _ (by rw [isortH_length]; omega)]
theorem insR_snoc (x a : α) : ∀ A : List α, insR lt x (A ++ [a]) = if lt x a then insR lt x A ++ [a] else A ++ [a, x]
  | [] => by
    simp only [List.nil_append, insR, List.all_cons, List.all_nil, Bool.and_true]
    split <;> rfl
  | c :: A => by
    have ih := insR_snoc x a A
    rw [List.cons_append, insR, ih]
    cases h : lt x a
    · rw [if_neg (by simp [h]), if_neg (by simp), if_neg (by simp)]
      rfl
    · rw [if_pos rfl, if_pos rfl, insR]
      by_cases h2 : (c :: A).all (lt x) = true
      · rw [if_pos h2, if_pos (by rw [← List.cons_append, List.all_append, h2]; simp [h])]
        rfl
      · rw [if_neg h2, if_neg (by rw [← List.cons_append, List.all_append]; simp [h] at h2 ⊢; exact h2)]
        rfl
theorem sinkG_ins (x : α) (B : List α) : ∀ (n : Nat) (A : List α), A.length = n → sinkG d lt n (A ++ x :: B) = insR lt x A ++ B
  | 0, A, h => by
    obtain rfl := List.eq_nil_of_length_eq_zero h
    rfl
  | n + 1, A, h => by
    obtain ⟨A', a, rfl⟩ : ∃ A' a, A = A' ++ [a] := ⟨A.dropLast, A.getLast (by intro e; subst e; simp at h), (List.dropLast_concat_getLast _).symm⟩
    have hl : A'.length = n := by simpa using h
    have e1 : (A' ++ [a] ++ x :: B).getD (n + 1) d = x := by
      rw [List.getD_eq_getElem?_getD, List.getElem?_append_right (by simp [hl])]
      simp [hl]
    have e2 : (A' ++ [a] ++ x :: B).getD n d = a := by
      rw [getD_appL (by simp [hl]), List.getD_eq_getElem?_getD, List.getElem?_append_right (by omega)]
      simp [hl]
    rw [sinkG, e1, e2, insR_snoc]
    split
    · have e3 : ((A' ++ [a] ++ x :: B).set (n + 1) a).set n x = A' ++ x :: (a :: B) := by
        rw [List.set_append_right _ _ (by simp [hl])]
        simp only [List.length_append, List.length_singleton, hl, Nat.sub_self, List.set_cons_zero]
        rw [List.append_assoc, List.set_append_right _ _ (by omega), hl]
        simp
      rw [e3, sinkG_ins x (a :: B) n A' hl]
      simp
    · simp
theorem isortG_snoc (xs : List α) (x : α) : isortG d lt (xs ++ [x]) = insR lt x (isortG d lt xs) := by
  unfold isortG
  rw [List.length_append, List.length_singleton, isortH, isortH_app _ _ (Nat.le_refl _)]
  have := sinkG_ins (d := d) (lt := lt) x [] xs.length (isortH d lt xs.length xs) (isortH_length _ _)
  rw [this, List.append_nil]
theorem getD_map {f : α → α} {xs : List α} {j : Nat} (h : j < xs.length) : (xs.map f).getD j d = f (xs.getD j d) := by
  rw [List.getD_eq_getElem?_getD, List.getD_eq_getElem?_getD, List.getElem?_map, List.getElem?_eq_getElem h]
  rfl
theorem sinkG_map {f : α → α} (hf : ∀ a b, lt (f a) (f b) = lt a b) : ∀ (j : Nat) (xs : List α), j < xs.length → sinkG d lt j (xs.map f) = (sinkG d lt j xs).map f
  | 0, _, _ => rfl
  | j + 1, xs, h => by
    rw [sinkG, sinkG, getD_map h, getD_map (by omega), hf]
    split
    · rw [← List.map_set, ← List.map_set, sinkG_map hf j _ (by simp; omega)]
    · rfl
theorem isortG_map {f : α → α} (hf : ∀ a b, lt (f a) (f b) = lt a b) (xs : List α) : isortG d lt (xs.map f) = (isortG d lt xs).map f := by
  have h : ∀ k, k ≤ xs.length → isortH d lt k (xs.map f) = (isortH d lt k xs).map f := by
    intro k
    induction k with
    | zero => intro _; rfl
    | succ k ih => intro hk; rw [isortH, isortH, ih (by omega), sinkG_map hf _ _ (by rw [isortH_length]; omega)]
  unfold isortG
  rw [List.length_map]
  exact h _ (Nat.le_refl _)
end

def ltK (a b : StockI) : Bool := ltS a.kd b.kd
/-- as many more of a kind -/
def addK (kd : Bs) (n : Int) : List StockI → List StockI
  | [] => [⟨kd, n⟩]
  | s :: l => if s.kd == kd then ⟨s.kd, s.ct + n⟩ :: l else s :: addK kd n l
/-- as many more of a kind, in a store -/
def putK (kd : Bs) (n : Int) : List StockI → List StockI
  | [] => [⟨kd, n⟩]
  | s :: l => if ltS s.kd kd then s :: putK kd n l else if s.kd == kd then ⟨s.kd, s.ct + n⟩ :: l else ⟨kd, n⟩ :: s :: l
def addAll (ol : List OrderI) : List StockI := ol.foldl (fun l o => addK o.kd o.ct l) []
def putAll (ol : List OrderI) : List StockI := ol.foldl (fun l o => putK o.kd o.ct l) []
def bump (kd : Bs) (n : Int) (s : StockI) : StockI := if s.kd == kd then ⟨s.kd, s.ct + n⟩ else s
theorem bump_kd (kd : Bs) (n : Int) (s : StockI) : (bump kd n s).kd = s.kd := by unfold bump; split <;> rfl
theorem bump_id {kd : Bs} {n : Int} {l : List StockI} (h : ∀ s ∈ l, s.kd ≠ kd) : l.map (bump kd n) = l := by
  induction l with
  | nil => rfl
  | cons s l ih =>
    rw [List.map_cons, ih fun x hx => h x (List.mem_cons_of_mem _ hx), bump, if_neg (by simpa using h s (List.mem_cons_self ..))]
def diffK (l : List StockI) : Prop := l.Pairwise fun a b => a.kd ≠ b.kd
def ascK (l : List StockI) : Prop := l.Pairwise fun a b => ltS a.kd b.kd = true
theorem ltS_ne {a b : Bs} (h : ltS a b = true) : a ≠ b := by rintro rfl; rw [ltS_self] at h; cases h
theorem ltS_tot {a b : Bs} (h : ltS a b = false) (hn : a ≠ b) : ltS b a = true := by
  have h1 := ltS_le a b
  rw [h, show (a == b) = false by simpa using hn] at h1
  cases h2 : ltS b a
  · rw [h2] at h1; cases h1
  · rfl
theorem ltS_anti {a b : Bs} (h : ltS a b = true) : ltS b a = false := by
  have h1 := ltS_le a b
  rw [h] at h1
  cases h2 : ltS b a
  · rfl
  · rw [h2] at h1; cases h1
theorem addK_mem {kd : Bs} {n : Int} : ∀ {l : List StockI} {s : StockI}, s ∈ addK kd n l → s.kd = kd ∨ ∃ t ∈ l, t.kd = s.kd
  | [], s, h => by
    simp only [addK, List.mem_singleton] at h
    subst h
    exact .inl rfl
  | x :: l, s, h => by
    unfold addK at h
    split at h
    · rename_i hx
      rcases List.mem_cons.1 h with rfl | h
      · exact .inl (by simpa using hx)
      · exact .inr ⟨s, List.mem_cons_of_mem _ h, rfl⟩
    · rcases List.mem_cons.1 h with rfl | h
      · exact .inr ⟨s, List.mem_cons_self .., rfl⟩
      · rcases addK_mem h with h | ⟨t, h1, h2⟩
        · exact .inl h
        · exact .inr ⟨t, List.mem_cons_of_mem _ h1, h2⟩
theorem putK_mem {kd : Bs} {n : Int} : ∀ {l : List StockI} {s : StockI}, s ∈ putK kd n l → s.kd = kd ∨ ∃ t ∈ l, t.kd = s.kd
  | [], s, h => by
    simp only [putK, List.mem_singleton] at h
    subst h
    exact .inl rfl
  | x :: l, s, h => by
    unfold putK at h
    split at h
    · rcases List.mem_cons.1 h with rfl | h
      · exact .inr ⟨s, List.mem_cons_self .., rfl⟩
      · rcases putK_mem h with h | ⟨t, h1, h2⟩
        · exact .inl h
        · exact .inr ⟨t, List.mem_cons_of_mem _ h1, h2⟩
    · split at h
      · rename_i hx
        rcases List.mem_cons.1 h with rfl | h
        · exact .inl (by simpa using hx)
        · exact .inr ⟨s, List.mem_cons_of_mem _ h, rfl⟩
      · rcases List.mem_cons.1 h with rfl | h
        · exact .inl rfl
        · exact .inr ⟨s, h, rfl⟩
theorem addK_diff {kd : Bs} {n : Int} : ∀ {l : List StockI}, diffK l → diffK (addK kd n l)
  | [], _ => List.pairwise_singleton ..
  | x :: l, h => by
    obtain ⟨h1, h2⟩ := List.pairwise_cons.1 h
    unfold addK
    split
    · exact List.pairwise_cons.2 ⟨h1, h2⟩
    · rename_i hx
      refine List.pairwise_cons.2 ⟨fun s hs => ?_, addK_diff h2⟩
      rcases addK_mem hs with h3 | ⟨t, h3, h4⟩
      · rw [h3]; simpa using hx
      · rw [← h4]; exact h1 t h3
theorem putK_asc {kd : Bs} {n : Int} : ∀ {l : List StockI}, ascK l → ascK (putK kd n l)
  | [], _ => List.pairwise_singleton ..
  | x :: l, h => by
    obtain ⟨h1, h2⟩ := List.pairwise_cons.1 h
    unfold putK
    split
    · rename_i hx
      refine List.pairwise_cons.2 ⟨fun s hs => ?_, putK_asc h2⟩
      rcases putK_mem hs with h3 | ⟨t, h3, h4⟩
      · rw [h3]; exact hx
      · rw [← h4]; exact h1 t h3
    · rename_i hx
      split
      · exact List.pairwise_cons.2 ⟨h1, h2⟩
      · rename_i hx2
        have h3 : ltS kd x.kd = true := ltS_tot (by simpa using hx) (by simpa using hx2)
        refine List.pairwise_cons.2 ⟨fun s hs => ?_, h⟩
        rcases List.mem_cons.1 hs with rfl | hs
        · exact h3
        · exact ltS_trans h3 (h1 s hs)
theorem has_cons (s : StockI) (l : List StockI) (kd : Bs) : hasK (s :: l) kd = (s.kd == kd || hasK l kd) := rfl
theorem has_add (kd : Bs) (n : Int) (k' : Bs) : ∀ l : List StockI, hasK (addK kd n l) k' = (hasK l k' || kd == k')
  | [] => by simp [addK, hasK, isK]
  | x :: l => by
    unfold addK
    split
    · rename_i h
      have h : x.kd = kd := by simpa using h
      rw [has_cons, has_cons, ← h]
      simp only
      cases x.kd == k' <;> simp
    · rw [has_cons, has_cons, has_add kd n k' l, Bool.or_assoc]
theorem has_put (kd : Bs) (n : Int) (k' : Bs) : ∀ l : List StockI, hasK (putK kd n l) k' = (hasK l k' || kd == k')
  | [] => by simp [putK, hasK, isK]
  | x :: l => by
    unfold putK
    split
    · rw [has_cons, has_cons, has_put kd n k' l, Bool.or_assoc]
    · split
      · rename_i h
        have h : x.kd = kd := by simpa using h
        rw [has_cons, has_cons, ← h]
        simp only
        cases x.kd == k' <;> simp
      · rw [has_cons, has_cons, Bool.or_comm]
theorem add_bump {kd : Bs} {n : Int} : ∀ {l : List StockI}, diffK l → hasK l kd = true → addK kd n l = l.map (bump kd n)
  | [], _, h => by cases h
  | x :: l, hd, h => by
    obtain ⟨h1, h2⟩ := List.pairwise_cons.1 hd
    rw [has_cons] at h
    unfold addK
    cases hx : x.kd == kd
    · rw [hx, Bool.false_or] at h
      rw [if_neg (by simp), add_bump h2 h, List.map_cons, bump, if_neg (by simp [hx])]
    · have hx2 : x.kd = kd := by simpa using hx
      rw [if_pos rfl, List.map_cons, bump, if_pos hx, bump_id fun s hs => by rw [← hx2]; exact (h1 s hs).symm]
theorem add_new {kd : Bs} {n : Int} : ∀ {l : List StockI}, hasK l kd = false → addK kd n l = l ++ [⟨kd, n⟩]
  | [], _ => rfl
  | x :: l, h => by
    rw [has_cons, Bool.or_eq_false_iff] at h
    unfold addK
    rw [if_neg (by simp [h.1]), add_new h.2]
    rfl
theorem put_bump {kd : Bs} {n : Int} : ∀ {l : List StockI}, ascK l → hasK l kd = true → putK kd n l = l.map (bump kd n)
  | [], _, h => by cases h
  | x :: l, hd, h => by
    obtain ⟨h1, h2⟩ := List.pairwise_cons.1 hd
    rw [has_cons] at h
    unfold putK
    cases hx : x.kd == kd
    · rw [hx, Bool.false_or] at h
      have hx3 : ltS x.kd kd = true := by
        unfold hasK at h
        obtain ⟨s, hs, hk⟩ := List.any_eq_true.1 h
        have : s.kd = kd := by simpa [isK] using hk
        rw [← this]; exact h1 s hs
      rw [if_pos hx3, put_bump h2 h, List.map_cons, bump, if_neg (by simp [hx])]
    · have hx2 : x.kd = kd := by simpa using hx
      rw [if_neg (by rw [hx2, ltS_self]; simp), if_pos rfl, List.map_cons, bump, if_pos hx, bump_id fun s hs => by rw [← hx2]; exact (ltS_ne (h1 s hs)).symm]
theorem put_new {kd : Bs} {n : Int} : ∀ {l : List StockI}, ascK l → hasK l kd = false → putK kd n l = insR ltK ⟨kd, n⟩ l
  | [], _, _ => rfl
  | x :: l, hd, h => by
    obtain ⟨h1, h2⟩ := List.pairwise_cons.1 hd
    rw [has_cons, Bool.or_eq_false_iff] at h
    unfold putK insR
    cases hx : ltS x.kd kd
    · have h3 : ltS kd x.kd = true := ltS_tot hx (by simpa using h.1)
      rw [if_neg (by simp), if_neg (by simp [h.1]), if_pos]
      rw [List.all_cons, Bool.and_eq_true, List.all_eq_true]
      exact ⟨h3, fun s hs => ltS_trans h3 (h1 s hs)⟩
    · rw [if_pos rfl, if_neg, put_new h2 h.2]
      rw [List.all_cons, Bool.and_eq_true]
      rintro ⟨h3, -⟩
      unfold ltK at h3
      rw [ltS_anti hx] at h3
      cases h3
theorem all_facts (ol : List OrderI) : diffK (addAll ol) ∧ ascK (putAll ol) ∧ (∀ kd, hasK (addAll ol) kd = hasK (putAll ol) kd) ∧ isortG StockI.zero ltK (addAll ol) = putAll ol := by
  suffices h : ∀ (m : Nat) (ol : List OrderI), ol.length = m → diffK (addAll ol) ∧ ascK (putAll ol) ∧ (∀ kd, hasK (addAll ol) kd = hasK (putAll ol) kd) ∧ isortG StockI.zero ltK (addAll ol) = putAll ol from h _ ol rfl
  intro m
  induction m with
  | zero =>
    intro ol h
    obtain rfl := List.eq_nil_of_length_eq_zero h
    exact ⟨List.Pairwise.nil, List.Pairwise.nil, fun _ => rfl, rfl⟩
  | succ m ih =>
    intro ol h
    obtain ⟨ol', o, rfl⟩ : ∃ A' a, ol = A' ++ [a] := ⟨ol.dropLast, ol.getLast (by intro e; subst e; simp at h), (List.dropLast_concat_getLast _).symm⟩
    obtain ⟨i1, i2, i3, i4⟩ := ih ol' (by simpa using h)
    have e1 : addAll (ol' ++ [o]) = addK o.kd o.ct (addAll ol') := by simp [addAll, List.foldl_append]
    have e2 : putAll (ol' ++ [o]) = putK o.kd o.ct (putAll ol') := by simp [putAll, List.foldl_append]
    rw [e1, e2]
    refine ⟨addK_diff i1, putK_asc i2, fun kd => by rw [has_add, has_put, i3], ?_⟩
    cases hh : hasK (addAll ol') o.kd
    · rw [add_new hh, isortG_snoc, i4, put_new i2 (by rw [← i3]; exact hh)]
    · rw [add_bump i1 hh, put_bump i2 (by rw [← i3]; exact hh), isortG_map, i4]
      intro a b
      unfold ltK
      rw [bump_kd, bump_kd]
theorem addAll_snoc (ol : List OrderI) (o : OrderI) : addAll (ol ++ [o]) = addK o.kd o.ct (addAll ol) := by simp [addAll, List.foldl_append]
theorem putAll_snoc (ol : List OrderI) (o : OrderI) : putAll (ol ++ [o]) = putK o.kd o.ct (putAll ol) := by simp [putAll, List.foldl_append]

/-- addK by places -/
theorem addK_pl {kd : Bs} {n : Int} : ∀ {l : List StockI}, addK kd n l = if hasK l kd then l.set (plK l kd) ⟨kd, (l.getD (plK l kd) StockI.zero).ct + n⟩ else l ++ [⟨kd, n⟩]
  | [] => rfl
  | x :: l => by
    have ih := addK_pl (kd := kd) (n := n) (l := l)
    unfold addK
    rw [has_cons]
    have hp : plK (x :: l) kd = if x.kd == kd then 0 else plK l kd + 1 := by
      show (x :: l).findIdx (isK kd) = _
      rw [List.findIdx_cons]
      show (bif x.kd == kd then 0 else l.findIdx (isK kd) + 1) = _
      cases x.kd == kd <;> rfl
    rw [hp]
    cases hx : x.kd == kd
    · simp only [Bool.false_or, Bool.false_eq_true, if_false]
      rw [ih]
      cases hasK l kd <;> simp
    · have hx2 : x.kd = kd := by simpa using hx
      simp only [Bool.true_or, if_true]
      rw [hx2]
      simp
/-- the first place whose kind is not before kd -/
def posK (kd : Bs) : List StockI → Nat
  | [] => 0
  | s :: l => if ltS s.kd kd then posK kd l + 1 else 0
theorem posK_le (kd : Bs) : ∀ l : List StockI, posK kd l ≤ l.length
  | [] => Nat.le_refl _
  | s :: l => by
    unfold posK
    split
    · simpa using posK_le kd l
    · omega
theorem posK_lt {kd : Bs} : ∀ {l : List StockI} {k : Nat}, k < posK kd l → ltS (l.getD k StockI.zero).kd kd = true
  | [], k, h => by simp [posK] at h
  | s :: l, 0, h => by
    unfold posK at h
    split at h
    · rename_i h1; exact h1
    · omega
  | s :: l, k + 1, h => by
    unfold posK at h
    split at h
    · have := posK_lt (kd := kd) (l := l) (k := k) (by omega)
      simpa using this
    · omega
theorem posK_at {kd : Bs} : ∀ {l : List StockI}, posK kd l < l.length → ltS (l.getD (posK kd l) StockI.zero).kd kd = false
  | [], h => by simp [posK] at h
  | s :: l, h => by
    unfold posK at h ⊢
    cases h1 : ltS s.kd kd
    · simpa using h1
    · rw [h1, if_pos rfl, List.length_cons] at h
      rw [if_pos rfl]
      have := posK_at (kd := kd) (l := l) (by omega)
      simpa using this
theorem putK_pl {kd : Bs} {n : Int} : ∀ {l : List StockI}, putK kd n l = if posK kd l < l.length ∧ (l.getD (posK kd l) StockI.zero).kd = kd then l.set (posK kd l) ⟨(l.getD (posK kd l) StockI.zero).kd, (l.getD (posK kd l) StockI.zero).ct + n⟩ else l.take (posK kd l) ++ [⟨kd, n⟩] ++ l.drop (posK kd l)
  | [] => rfl
  | x :: l => by
    have ih := putK_pl (kd := kd) (n := n) (l := l)
    unfold putK posK
    cases h1 : ltS x.kd kd
    · simp only [Bool.false_eq_true, if_false]
      cases h2 : x.kd == kd
      · have h3 : ¬ x.kd = kd := by simpa using h2
        simp [h3]
      · have h3 : x.kd = kd := by simpa using h2
        simp [h3]
    · rw [if_pos rfl, if_pos rfl, ih]
      simp only [List.length_cons, Nat.add_lt_add_iff_right, List.getD_cons_succ]
      split
      · rfl
      · rfl
theorem addK_len (kd : Bs) (n : Int) : ∀ l : List StockI, (addK kd n l).length ≤ l.length + 1
  | [] => Nat.le_refl _
  | x :: l => by
    unfold addK
    split
    · simp
    · have := addK_len kd n l; simp; omega
theorem addAll_len (ol : List OrderI) : (addAll ol).length ≤ ol.length := by
  suffices h : ∀ (ol : List OrderI) (l : List StockI), (ol.foldl (fun l o => addK o.kd o.ct l) l).length ≤ l.length + ol.length by unfold addAll; simpa using h ol []
  intro ol
  induction ol with
  | nil => intro l; simp
  | cons o ol ih =>
    intro l
    have h1 := ih (addK o.kd o.ct l)
    have h2 := addK_len o.kd o.ct l
    rw [List.foldl_cons, List.length_cons]
    omega
theorem putAll_len (ol : List OrderI) : (putAll ol).length ≤ ol.length := by
  rw [← (all_facts ol).2.2.2, isortG_length]; exact addAll_len ol

/-- what holds for the rows that orders make: a word, from 1 up to 99 times the number of orders -/
def rowOK (m : Nat) (s : StockI) : Prop := wordB s.kd = true ∧ 1 ≤ s.ct ∧ s.ct ≤ 99 * (m : Int)
theorem addK_ok {m : Nat} {o : OrderI} (ho : wordB o.kd = true) (h1 : 1 ≤ o.ct) (h2 : o.ct ≤ 99) : ∀ {l : List StockI}, (∀ s ∈ l, rowOK m s) → ∀ s ∈ addK o.kd o.ct l, rowOK (m + 1) s
  | [], _, s, hs => by
    simp only [addK, List.mem_singleton] at hs
    subst hs
    exact ⟨ho, h1, by show o.ct ≤ _; omega⟩
  | x :: l, h, s, hs => by
    have hx := h x (List.mem_cons_self ..)
    have hw : ∀ t ∈ l, rowOK (m + 1) t := fun t ht => ⟨(h t (List.mem_cons_of_mem _ ht)).1, (h t (List.mem_cons_of_mem _ ht)).2.1, by have := (h t (List.mem_cons_of_mem _ ht)).2.2; omega⟩
    unfold addK at hs
    split at hs
    · rcases List.mem_cons.1 hs with rfl | hs
      · exact ⟨hx.1, by show 1 ≤ x.ct + o.ct; have := hx.2.1; omega, by show x.ct + o.ct ≤ _; have := hx.2.2; omega⟩
      · exact hw s hs
    · rcases List.mem_cons.1 hs with rfl | hs
      · exact ⟨hx.1, hx.2.1, by have := hx.2.2; omega⟩
      · exact addK_ok ho h1 h2 (fun t ht => h t (List.mem_cons_of_mem _ ht)) s hs
end Go.Proofs.Ytfnaenekdenmkaa
