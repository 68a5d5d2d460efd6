/-
  Records of a log as bytes: the line of a record, what is read from a line, and that both ways of reading agree. Plain Lean.
-/
import Derived.Lib.ItoaNum
import Derived.Lib.ItoaLen
import Derived.Lib.Bytealg
/-
  Records of a log as bytes: the line of a record, what is read from a line, and that both ways of reading agree. Plain Lean.
-/
namespace Go.Proofs.YtpflnmejbialjaaGreatDoor
set_option linter.unusedSimpArgs false
set_option linter.unusedVariables false

abbrev Bs := List UInt8
structure RecB where
  c : Bs
  r : Bs

/-- what stands before the first b, and what stands behind it -/
def befB (b : UInt8) : Bs → Bs
  | [] => []
  | x :: l => if x == b then [] else x :: befB b l
def aftB (b : UInt8) : Bs → Bs
  | [] => []
  | x :: l => if x == b then l else aftB b l
def hasB (b : UInt8) (l : Bs) : Bool := l.any fun x => x == b

theorem hasB_false {b : UInt8} {l : Bs} : hasB b l = false ↔ ∀ x ∈ l, x ≠ b := by simp [hasB]
theorem hasB_cons (b x : UInt8) (l : Bs) : hasB b (x :: l) = (x == b || hasB b l) := by simp [hasB]
theorem hasB_append (b : UInt8) (l m : Bs) : hasB b (l ++ m) = (hasB b l || hasB b m) := by simp [hasB]

theorem bef_none {b : UInt8} : ∀ {l : Bs}, hasB b l = false → befB b l = l ∧ aftB b l = []
  | [], _ => ⟨rfl, rfl⟩
  | x :: l, h => by
    rw [hasB_cons, Bool.or_eq_false_iff] at h
    obtain ⟨h1, h2⟩ := bef_none h.2
    simp [befB, aftB, h.1, h1, h2]
theorem bef_at {b : UInt8} {m : Bs} : ∀ {l : Bs}, hasB b l = false → befB b (l ++ b :: m) = l ∧ aftB b (l ++ b :: m) = m
  | [], _ => by simp [befB, aftB]
  | x :: l, h => by
    rw [hasB_cons, Bool.or_eq_false_iff] at h
    obtain ⟨h1, h2⟩ := bef_at (m := m) h.2
    simp [befB, aftB, h.1, h1, h2]
theorem bef_split {b : UInt8} : ∀ {l : Bs}, hasB b l = true → l = befB b l ++ b :: aftB b l ∧ hasB b (befB b l) = false
  | [], h => by simp [hasB] at h
  | x :: l, h => by
    by_cases hx : (x == b) = true
    · have : x = b := by simpa using hx
      subst this
      simp [befB, aftB, hasB]
    · have hx' : (x == b) = false := by simpa using hx
      rw [hasB_cons, hx', Bool.false_or] at h
      obtain ⟨h1, h2⟩ := bef_split h
      simp only [befB, aftB, hx', Bool.false_eq_true, if_false, List.cons_append, hasB_cons, Bool.false_or, h2, and_true]
      rw [← h1]
theorem bef_len (b : UInt8) : ∀ l : Bs, (befB b l).length ≤ l.length
  | [] => Nat.le_refl _
  | x :: l => by
    have := bef_len b l
    simp only [befB]
    split <;> simp <;> omega
theorem aft_drop {b : UInt8} {l : Bs} (h : hasB b l = true) : aftB b l = l.drop ((befB b l).length + 1) := by
  obtain ⟨h1, _⟩ := bef_split h
  generalize aftB b l = m at *
  generalize befB b l = q at *
  subst h1
  rw [← List.drop_drop, List.drop_left]
  rfl
theorem bef_take (b : UInt8) (l : Bs) : befB b l = l.take (befB b l).length := by
  cases hh : hasB b l
  · rw [(bef_none hh).1, List.take_of_length_le (Nat.le_refl _)]
  · obtain ⟨h1, _⟩ := bef_split hh
    generalize aftB b l = m at *
    generalize befB b l = q at *
    subst h1
    rw [List.take_left]
theorem index_bef (b : UInt8) : ∀ l : Bs, Lib.indexByte l b = if hasB b l then ((befB b l).length : Int) else -1
  | [] => by simp [Lib.indexByte, hasB]
  | x :: l => by
    rw [Lib.indexByte, hasB_cons, index_bef b l]
    by_cases hx : (x == b) = true
    · simp [hx, befB]
    · have hx' : (x == b) = false := by simpa using hx
      simp only [hx', Bool.false_eq_true, if_false, Bool.false_or, befB]
      cases hasB b l
      · simp
      · simp only [if_true]
        have : (((befB b l).length : Int) == -1) = false := by rw [beq_eq_false_iff_ne]; omega
        rw [this]
        simp

/-- the checksum -/
def sumB (l : Bs) : Nat := l.foldl (fun n x => (41 * n + x.toNat + 1) % 999979) 7
theorem sumB_lt (l : Bs) : sumB l < 999979 := by
  have : ∀ (l : Bs) (n : Nat), n < 999979 → l.foldl (fun n x => (41 * n + x.toNat + 1) % 999979) n < 999979 := by
    intro l
    induction l with
    | nil => intro n h; exact h
    | cons x l ih => intro n _; exact ih _ (Nat.mod_lt _ (by decide))
  exact this l 7 (by decide)
theorem sumB_step {l : Bs} {k : Nat} (hk : k < l.length) : sumB (l.take (k + 1)) = (41 * sumB (l.take k) + (l.getD k 0).toNat + 1) % 999979 := by
  rw [List.take_succ_eq_append_getElem hk]
  unfold sumB
  rw [List.foldl_append]
  simp [List.getD, hk]

/-- the lines of records -/
def sealB (l : Bs) : Bs := l ++ 35 :: Lib.decDigits (sumB l)
def plainB (l : Bs) (most : Nat) : Bool := l.all (fun x => decide (32 ≤ x.toNat ∧ x.toNat ≤ 126) && !(x == 35)) && decide (l.length ≤ most)
def okB (e : RecB) : Bool := !e.c.isEmpty && plainB e.c 160 && !hasB 64 e.c && plainB e.r 200
def payB (k : Nat) (e : RecB) : Bs := Lib.decDigits k ++ 32 :: (e.c ++ 64 :: e.r)
def lineLB (k : Nat) (e : RecB) : Bs := sealB (payB k e) ++ [10]

theorem digit_bounds (n : Nat) : ∀ x ∈ Lib.decDigits n, 48 ≤ x.toNat ∧ x.toNat ≤ 57 := by
  induction n using Nat.strongRecOn with
  | _ n ih =>
    intro x hx
    have hd : ∀ d, d < 10 → 48 ≤ (UInt8.ofNat (48 + d)).toNat ∧ (UInt8.ofNat (48 + d)).toNat ≤ 57 := by
      intro d hd
      rw [UInt8.toNat_ofNat']
      omega
    by_cases h : n < 10
    · rw [Lib.decDigits_one h] at hx
      obtain rfl := List.mem_singleton.1 hx
      exact hd n h
    · rw [Lib.decDigits, dif_neg h] at hx
      rcases List.mem_append.1 hx with hx | hx
      · exact ih (n / 10) (by omega) x hx
      · obtain rfl := List.mem_singleton.1 hx
        exact hd _ (Nat.mod_lt _ (by decide))
theorem digits_no {b : UInt8} (hb : b.toNat < 48) (n : Nat) : hasB b (Lib.decDigits n) = false := by
  rw [hasB_false]
  rintro x hx rfl
  have := (digit_bounds n x hx).1
  omega
theorem digits_len {n : Nat} (h : n < 18446744073709551616) : (Lib.decDigits n).length ≤ 20 := by
  rw [Lib.decDigits_length]
  exact Lib.nDigits_le20 n h

theorem plain_parts {l : Bs} {m : Nat} (h : plainB l m = true) : (∀ x ∈ l, 32 ≤ x.toNat ∧ x.toNat ≤ 126 ∧ x ≠ 35) ∧ l.length ≤ m := by
  simp only [plainB, Bool.and_eq_true, List.all_eq_true, decide_eq_true_eq, Bool.not_eq_true', beq_eq_false_iff_ne] at h
  exact ⟨fun x hx => ⟨(h.1 x hx).1.1, (h.1 x hx).1.2, (h.1 x hx).2⟩, h.2⟩
theorem ok_parts {e : RecB} (h : okB e = true) : e.c ≠ [] ∧ plainB e.c 160 = true ∧ hasB 64 e.c = false ∧ plainB e.r 200 = true := by
  simp only [okB, Bool.and_eq_true, Bool.not_eq_true', List.isEmpty_eq_false_iff] at h
  exact ⟨h.1.1.1, h.1.1.2, h.1.2, h.2⟩
theorem plain_no {l : Bs} {m : Nat} {b : UInt8} (h : plainB l m = true) (hb : b.toNat < 32 ∨ b = 35) : hasB b l = false := by
  rw [hasB_false]
  rintro x hx rfl
  have := (plain_parts h).1 x hx
  rcases hb with hb | hb
  · omega
  · exact this.2.2 hb
theorem pay_no {e : RecB} (h : okB e = true) (k : Nat) {b : UInt8} (hb : b = 35 ∨ b = 10) : hasB b (payB k e) = false := by
  obtain ⟨_, h1, _, h2⟩ := ok_parts h
  have hb' : b.toNat < 32 ∨ b = 35 := by rcases hb with rfl | rfl <;> simp
  have hd : hasB b (Lib.decDigits k) = false := digits_no (by rcases hb with rfl | rfl <;> decide) k
  rw [payB, hasB_append, hasB_cons, hasB_append, hasB_cons, hd, plain_no h1 hb', plain_no h2 hb']
  rcases hb with rfl | rfl <;> decide
theorem seal_no {e : RecB} (h : okB e = true) (k : Nat) : hasB 10 (sealB (payB k e)) = false := by
  rw [sealB, hasB_append, hasB_cons, pay_no h k (.inr rfl), digits_no (by decide)]
  decide
theorem pay_len {e : RecB} (h : okB e = true) {k : Nat} (hk : k ≤ 59) : (payB k e).length ≤ 382 := by
  obtain ⟨_, h1, _, h2⟩ := ok_parts h
  have a1 := (plain_parts h1).2
  have a2 := (plain_parts h2).2
  have a3 := digits_len (n := k) (by omega)
  simp [payB]
  omega
theorem line_len {e : RecB} (h : okB e = true) {k : Nat} (hk : k ≤ 59) : (lineLB k e).length ≤ 404 ∧ 1 ≤ (lineLB k e).length := by
  have a1 := pay_len h hk
  have a2 := digits_len (n := sumB (payB k e)) (by have := sumB_lt (payB k e); omega)
  simp [lineLB, sealB]
  omega

/-- what the program reads from a line -/
def parseI (line : Bs) : RecB := ⟨befB 64 (aftB 32 (befB 35 line)), aftB 64 (aftB 32 (befB 35 line))⟩
def readI (k : Nat) (line : Bs) : Option RecB := if decide (line.length ≤ 4000) && decide (k ≤ 59) && okB (parseI line) && (lineLB k (parseI line) == line ++ [10]) then some (parseI line) else none
/-- what the reference reads from a line -/
def aheadB (k : Nat) : Bs := Lib.decDigits k ++ [32]
def parseS (k : Nat) (line : Bs) : Option RecB :=
  let text := befB 35 line
  if decide (text.length < (aheadB k).length) || !(text.take (aheadB k).length == aheadB k) then none
  else
    let rest := text.drop (aheadB k).length
    if (befB 64 rest).length = rest.length then none else some ⟨befB 64 rest, rest.drop ((befB 64 rest).length + 1)⟩
def readS (k : Nat) (line : Bs) : Option RecB := (parseS k line).bind fun e => if okB e && (lineLB k e == line ++ [10]) then some e else none

theorem parseI_line {e : RecB} (h : okB e = true) (k : Nat) : parseI (sealB (payB k e)) = e := by
  obtain ⟨_, _, h3, _⟩ := ok_parts h
  have a1 : befB 35 (sealB (payB k e)) = payB k e := (bef_at (pay_no h k (.inl rfl))).1
  have a2 : aftB 32 (payB k e) = e.c ++ 64 :: e.r := (bef_at (digits_no (by decide) k)).2
  rw [parseI, a1, a2, (bef_at h3).1, (bef_at h3).2]
theorem parseS_line {e : RecB} (h : okB e = true) (k : Nat) : parseS k (sealB (payB k e)) = some e := by
  obtain ⟨_, _, h3, _⟩ := ok_parts h
  have a1 : befB 35 (sealB (payB k e)) = payB k e := (bef_at (pay_no h k (.inl rfl))).1
  have a2 : payB k e = aheadB k ++ (e.c ++ 64 :: e.r) := by simp [payB, aheadB]
  have a3 : (payB k e).take (aheadB k).length = aheadB k := by rw [a2, List.take_left]
  have a4 : (payB k e).drop (aheadB k).length = e.c ++ 64 :: e.r := by rw [a2, List.drop_left]
  have a5 : ¬ (payB k e).length < (aheadB k).length := by rw [a2, List.length_append]; omega
  have a6 : ¬ e.c.length = (e.c ++ 64 :: e.r).length := by simp
  have a7 : (e.c ++ 64 :: e.r).drop (e.c.length + 1) = e.r := by rw [← List.drop_drop, List.drop_left]; rfl
  simp only [parseS, a1, a3, a4, a5, decide_false, BEq.rfl, Bool.not_true, Bool.or_self, Bool.false_eq_true, if_false, (bef_at h3).1, a6, a7]
theorem line_of {k : Nat} {e : RecB} {line : Bs} (h : lineLB k e = line ++ [10]) : sealB (payB k e) = line := List.append_cancel_right h
theorem readI_iff {k : Nat} (hk : k ≤ 59) (line : Bs) (e : RecB) : readI k line = some e ↔ okB e = true ∧ lineLB k e = line ++ [10] := by
  constructor
  · intro h
    unfold readI at h
    split at h
    · rename_i hc
      simp only [Bool.and_eq_true, beq_iff_eq] at hc
      obtain rfl := Option.some.inj h
      exact ⟨hc.1.2, hc.2⟩
    · simp at h
  · rintro ⟨h1, h2⟩
    have h3 := line_of h2
    have h4 : parseI line = e := by rw [← h3, parseI_line h1]
    have h5 : line.length ≤ 4000 := by
      have := (line_len h1 hk).1
      rw [h2] at this
      simp at this
      omega
    rw [readI, h4, h1, h2]
    simp [h5, hk]
theorem readS_iff {k : Nat} (line : Bs) (e : RecB) : readS k line = some e ↔ okB e = true ∧ lineLB k e = line ++ [10] := by
  constructor
  · intro h
    simp only [readS, Option.bind_eq_some_iff] at h
    obtain ⟨e', _, h⟩ := h
    split at h
    · rename_i hc
      simp only [Bool.and_eq_true, beq_iff_eq] at hc
      obtain rfl := Option.some.inj h
      exact hc
    · simp at h
  · rintro ⟨h1, h2⟩
    have h3 := line_of h2
    have h4 : parseS k line = some e := by rw [← h3, parseS_line h1]
    rw [readS, h4, Option.bind_some, h1, h2]
    simp
theorem readI_readS {k : Nat} (hk : k ≤ 59) (line : Bs) : readI k line = readS k line := by
  apply Option.ext
  intro e
  rw [readI_iff hk, readS_iff]
theorem readI_big {k : Nat} (hk : ¬ k ≤ 59) (line : Bs) : readI k line = none := by simp [readI, hk]

/-- the record at the beginning of a text, and how long it is -/
def decB (k : Nat) (s : Bs) : Option (RecB × Nat) := if hasB 10 s then (readI k (befB 10 s)).map fun e => (e, (befB 10 s).length + 1) else none
theorem decB_some {k : Nat} {s : Bs} {e : RecB} {n : Nat} (h : decB k s = some (e, n)) : k ≤ 59 ∧ okB e = true ∧ s = lineLB k e ++ s.drop n ∧ n = (lineLB k e).length := by
  unfold decB at h
  split at h
  · rename_i hs
    obtain ⟨e', h1, h2⟩ := Option.map_eq_some_iff.1 h
    simp only [Prod.mk.injEq] at h2
    obtain ⟨rfl, rfl⟩ := h2
    have hk : k ≤ 59 := by
      by_cases hk : k ≤ 59
      · exact hk
      · rw [readI_big hk] at h1; simp at h1
    obtain ⟨h3, h4⟩ := (readI_iff hk _ _).1 h1
    obtain ⟨h5, _⟩ := bef_split hs
    have h6 := aft_drop hs
    refine ⟨hk, h3, ?_, by rw [h4]; simp⟩
    rw [h4, ← h6, List.append_assoc]
    exact h5
  · simp at h
theorem decB_line {k : Nat} (hk : k ≤ 59) {e : RecB} (h : okB e = true) (rest : Bs) : decB k (lineLB k e ++ rest) = some (e, (lineLB k e).length) := by
  have h1 : lineLB k e ++ rest = sealB (payB k e) ++ 10 :: rest := by simp [lineLB]
  have h2 := bef_at (m := rest) (seal_no h k)
  have h3 : hasB 10 (sealB (payB k e) ++ 10 :: rest) = true := by rw [hasB_append, hasB_cons]; simp
  rw [decB, h1, if_pos h3, h2.1, (readI_iff hk _ _).2 ⟨h, rfl⟩]
  simp [lineLB]
theorem decB_nil (k : Nat) : decB k [] = none := by simp [decB, hasB]

/-- the records at the beginning of a text -/
def readN : Nat → Nat → Bs → List RecB
  | 0, _, _ => []
  | f + 1, k, s => match decB k s with
    | none => []
    | some (e, n) => e :: readN f (k + 1) (s.drop n)
def linesB (k : Nat) : List RecB → Bs
  | [] => []
  | e :: es => lineLB k e ++ linesB (k + 1) es
def openLB (s : Bs) : List RecB := readN 60 0 s
def endLB (rs : List RecB) : Nat := (linesB 0 rs).length

theorem linesB_append : ∀ (k : Nat) (rs qs : List RecB), linesB k (rs ++ qs) = linesB k rs ++ linesB (k + rs.length) qs
  | k, [], qs => by simp [linesB]
  | k, e :: rs, qs => by
    simp only [List.cons_append, linesB, List.length_cons, linesB_append (k + 1) rs qs, List.append_assoc]
    rw [show k + 1 + rs.length = k + (rs.length + 1) by omega]
theorem readN_none {f k : Nat} {s : Bs} (h : decB k s = none) : readN f k s = [] := by
  cases f
  · rfl
  · simp [readN, h]
theorem readN_some {f k : Nat} {s : Bs} {e : RecB} {n : Nat} (h : decB k s = some (e, n)) : readN (f + 1) k s = e :: readN f (k + 1) (s.drop n) := by simp [readN, h]
theorem readN_pre : ∀ (f k : Nat) (s : Bs), k + f = 60 → s = linesB k (readN f k s) ++ s.drop (linesB k (readN f k s)).length ∧ (∀ e ∈ readN f k s, okB e = true) ∧ (readN f k s).length ≤ f
  | 0, k, s, _ => by simp [readN, linesB]
  | f + 1, k, s, h => by
    cases hd : decB k s with
    | none => simp [readN_none hd, linesB]
    | some p =>
      obtain ⟨e, n⟩ := p
      obtain ⟨h1, h2, h3, h4⟩ := decB_some hd
      obtain ⟨i1, i2, i3⟩ := readN_pre f (k + 1) (s.drop n) (by omega)
      rw [readN_some hd]
      refine ⟨?_, ?_, by simp; omega⟩
      · simp only [linesB, List.length_append]
        rw [← h4, ← List.drop_drop, List.append_assoc, ← i1]
        exact h3
      · intro x hx
        rcases List.mem_cons.1 hx with rfl | hx
        · exact h2
        · exact i2 x hx
theorem readN_lines : ∀ (rs : List RecB) (f k : Nat) (rest : Bs), k + f = 60 → rs.length ≤ f → (∀ e ∈ rs, okB e = true) → readN f k (linesB k rs ++ rest) = rs ++ readN (f - rs.length) (k + rs.length) rest
  | [], f, k, rest, _, _, _ => by simp [linesB]
  | e :: rs, f, k, rest, hf, hl, ho => by
    simp only [List.length_cons] at hl
    obtain ⟨f, rfl⟩ : ∃ g, f = g + 1 := ⟨f - 1, by omega⟩
    have h1 := decB_line (k := k) (by omega) (ho e (by simp)) (linesB (k + 1) rs ++ rest)
    rw [linesB, List.append_assoc, readN_some h1, List.drop_left, readN_lines rs f (k + 1) rest (by omega) (by omega) (fun x hx => ho x (by simp [hx]))]
    simp only [List.cons_append, List.length_cons]
    rw [show f - rs.length = f + 1 - (rs.length + 1) by omega, show k + 1 + rs.length = k + (rs.length + 1) by omega]
theorem open_pre (s : Bs) : s = linesB 0 (openLB s) ++ s.drop (endLB (openLB s)) ∧ (∀ e ∈ openLB s, okB e = true) ∧ (openLB s).length ≤ 60 := readN_pre 60 0 s rfl
theorem endLB_le (s : Bs) : endLB (openLB s) ≤ s.length := by
  have h := congrArg List.length (open_pre s).1
  rw [List.length_append] at h
  unfold endLB
  omega
theorem linesB_len : ∀ (rs : List RecB) (k : Nat), k + rs.length ≤ 60 → (∀ e ∈ rs, okB e = true) → (linesB k rs).length ≤ rs.length * 404
  | [], k, _, _ => by simp [linesB]
  | e :: rs, k, hl, ho => by
    simp only [List.length_cons] at hl
    have h1 := linesB_len rs (k + 1) (by omega) (fun x hx => ho x (by simp [hx]))
    have h2 := (line_len (ho e (by simp)) (k := k) (by omega)).1
    simp only [linesB, List.length_append, List.length_cons, Nat.add_mul]
    omega
theorem endLB_small (s : Bs) : endLB (openLB s) ≤ 24240 := by
  obtain ⟨_, h2, h3⟩ := open_pre s
  have := linesB_len (openLB s) 0 (by omega) h2
  unfold endLB
  have := Nat.mul_le_mul_right 404 h3
  omega
theorem open_lines {rs : List RecB} (hl : rs.length ≤ 60) (ho : ∀ e ∈ rs, okB e = true) : openLB (linesB 0 rs) = rs := by
  have h := readN_lines rs 60 0 [] rfl hl ho
  rw [List.append_nil, readN_none (decB_nil _), List.append_nil] at h
  exact h

/-- is the log valid: as the program asks, and as the reference does -/
def okI (D P : Bs) (c : Int) : Bool :=
  (List.range ((openLB (D ++ P)).length + 1)).any (fun j => decide (endLB ((openLB (D ++ P)).take j) = D.length)) && decide (endLB (openLB (D ++ P)) = (D ++ P).length) && decide (c = (openLB (D ++ P)).length)
def okS (D P : Bs) (c : Int) : Bool :=
  decide (D.length + P.length ≤ 30000) && (decide (endLB (openLB (D ++ P)) = D.length + P.length) && decide (endLB (openLB D) = D.length) && decide (((openLB (D ++ P)).length : Int) = c))
theorem okI_okS (D P : Bs) (c : Int) : okI D P c = okS D P c := by
  rw [Bool.eq_iff_iff]
  simp only [okI, okS, Bool.and_eq_true, List.any_eq_true, List.mem_range, decide_eq_true_eq, List.length_append]
  obtain ⟨h1, h2, h3⟩ := open_pre (D ++ P)
  have h4 := endLB_small (D ++ P)
  constructor
  · rintro ⟨⟨⟨j, hj, hD⟩, he⟩, hc⟩
    refine ⟨by omega, ⟨he, ?_⟩, by omega⟩
    have e1 : linesB 0 (openLB (D ++ P)) = linesB 0 ((openLB (D ++ P)).take j) ++ linesB (0 + ((openLB (D ++ P)).take j).length) ((openLB (D ++ P)).drop j) := by
      rw [← linesB_append, List.take_append_drop]
    rw [e1, List.append_assoc] at h1
    have e2 : D = linesB 0 ((openLB (D ++ P)).take j) := (List.append_inj h1 hD.symm).1
    have e3 : openLB D = (openLB (D ++ P)).take j := by
      rw [e2]
      have := open_lines (rs := (openLB (D ++ P)).take j) (by rw [List.length_take]; omega) (fun x hx => h2 x (List.mem_of_mem_take hx))
      rw [← e2] at this ⊢
      exact this
    rw [e3]
    exact hD
  · rintro ⟨_, ⟨he, hD⟩, hc⟩
    obtain ⟨g1, g2, g3⟩ := open_pre D
    rw [hD, List.drop_length, List.append_nil] at g1
    have e1 : openLB (D ++ P) = openLB D ++ readN (60 - (openLB D).length) (0 + (openLB D).length) P := by
      have := readN_lines (openLB D) 60 0 P rfl g3 g2
      rw [← g1] at this
      exact this
    refine ⟨⟨⟨(openLB D).length, by rw [e1, List.length_append]; omega, ?_⟩, he⟩, by omega⟩
    rw [e1, List.take_left]
    exact hD
/-- the parts of a text between bytes: those that are whole up to a place, and where the next one begins -/
def splitTo (b : UInt8) (l : Bs) : Nat → List Bs × Nat
  | 0 => ([], 0)
  | i + 1 => if l.getD i 0 == b then ((splitTo b l i).1 ++ [(l.drop (splitTo b l i).2).take (i - (splitTo b l i).2)], i + 1) else splitTo b l i
def splitB (b : UInt8) (l : Bs) : List Bs := (splitTo b l l.length).1 ++ [l.drop (splitTo b l l.length).2]
theorem splitTo_le (b : UInt8) (l : Bs) : ∀ i, (splitTo b l i).2 ≤ i ∧ (splitTo b l i).1.length ≤ i
  | 0 => ⟨Nat.le_refl _, Nat.le_refl _⟩
  | i + 1 => by
    have := splitTo_le b l i
    simp only [splitTo]
    split
    · simp; omega
    · omega
theorem splitTo_form (b : UInt8) (l : Bs) : ∀ i, i ≤ l.length → (hasB b (l.take i) = false ∧ splitTo b l i = ([], 0)) ∨ (hasB b (l.take i) = true ∧ ∃ r, (splitTo b l i).1 = befB b l :: r)
  | 0, _ => by simp [splitTo, hasB]
  | i + 1, hi => by
    have hil : i < l.length := by omega
    have hg : l.getD i 0 = l[i] := by simp [List.getD, hil]
    have ht : l.take (i + 1) = l.take i ++ [l[i]] := List.take_succ_eq_append_getElem hil
    have h1 : hasB b (l.take (i + 1)) = (hasB b (l.take i) || l[i] == b) := by rw [ht, hasB_append, hasB_cons]; simp [hasB]
    rw [h1, splitTo, hg]
    rcases splitTo_form b l i (by omega) with ⟨h2, h3⟩ | ⟨h2, r, h3⟩
    · rw [h2, h3]
      by_cases hb : (l[i] == b) = true
      · have e : l = l.take i ++ b :: l.drop (i + 1) := by
          have hb' : l[i] = b := by simpa using hb
          rw [← hb', ← List.drop_eq_getElem_cons hil, List.take_append_drop]
        have e2 : befB b l = l.take i := by
          have := (bef_at (m := l.drop (i + 1)) h2).1
          rw [← e] at this
          exact this
        right
        simp [hb, e2]
      · have hb' : (l[i] == b) = false := by simpa using hb
        left
        simp [hb']
    · right
      rw [h2]
      refine ⟨by simp, ?_⟩
      split
      · exact ⟨r ++ [(l.drop (splitTo b l i).2).take (i - (splitTo b l i).2)], by simp [h3]⟩
      · exact ⟨r, h3⟩
theorem splitB_form (b : UInt8) (l : Bs) : ∃ r, splitB b l = befB b l :: r ∧ (r = [] ↔ hasB b l = false) := by
  have h := splitTo_form b l l.length (Nat.le_refl _)
  rw [List.take_length] at h
  unfold splitB
  rcases h with ⟨h2, h3⟩ | ⟨h2, r, h3⟩
  · rw [h3]
    exact ⟨[], by simp [(bef_none h2).1], by simp [h2]⟩
  · rw [h3]
    exact ⟨r ++ [l.drop (splitTo b l l.length).2], by simp, by simp [h2]⟩
/-- what has been read so far -/
structure Part (s : Bs) (rs : List RecB) : Prop where
  len : rs.length ≤ 60
  eq : openLB s = rs ++ readN (60 - rs.length) rs.length (s.drop (endLB rs))
  le : endLB rs ≤ s.length
theorem Part.start (s : Bs) : Part s [] := ⟨by simp, by simp [openLB, endLB, linesB], by simp [endLB, linesB]⟩
theorem endLB_snoc (rs : List RecB) (e : RecB) : endLB (rs ++ [e]) = endLB rs + (lineLB rs.length e).length := by
  unfold endLB
  rw [linesB_append]
  simp [linesB]
theorem Part.step {s : Bs} {rs : List RecB} (h : Part s rs) {e : RecB} {n : Nat} (hd : decB rs.length (s.drop (endLB rs)) = some (e, n)) : Part s (rs ++ [e]) ∧ endLB (rs ++ [e]) = endLB rs + n ∧ rs.length ≤ 59 := by
  obtain ⟨h1, h2, h3, h4⟩ := decB_some hd
  have h5 : endLB (rs ++ [e]) = endLB rs + n := by rw [endLB_snoc, h4]
  refine ⟨⟨by simp; omega, ?_, ?_⟩, h5, h1⟩
  · rw [h.eq, h5, show 60 - rs.length = (60 - (rs ++ [e]).length) + 1 by simp; omega, readN_some hd]
    simp [List.drop_drop]
  · rw [h5]
    have := congrArg List.length h3
    simp only [List.length_append, List.length_drop] at this
    have := h.le
    omega
theorem Part.stop {s : Bs} {rs : List RecB} (h : Part s rs) (hd : decB rs.length (s.drop (endLB rs)) = none) : openLB s = rs := by
  rw [h.eq, readN_none hd, List.append_nil]
theorem Part.full {s : Bs} {rs : List RecB} (h : Part s rs) (hl : rs.length = 60) : openLB s = rs := by
  rw [h.eq, hl]
  simp [readN]
theorem Part.nil {s : Bs} {rs : List RecB} (h : Part s rs) (hl : endLB rs = s.length) : openLB s = rs := h.stop (by rw [hl, List.drop_length, decB_nil])

/-- where the records end -/
def endsB (rs : List RecB) : List Int := (List.range rs.length).map fun j => (endLB (rs.take (j + 1)) : Int)
def startsB (rs : List RecB) : List Int := (List.range (rs.length + 1)).map fun j => (endLB (rs.take j) : Int)
theorem startsB_length (rs : List RecB) : (startsB rs).length = rs.length + 1 := by simp [startsB]
theorem endsB_snoc (rs : List RecB) (e : RecB) : endsB (rs ++ [e]) = endsB rs ++ [(endLB (rs ++ [e]) : Int)] := by
  unfold endsB
  rw [List.length_append, List.length_singleton, List.range_succ, List.map_append]
  congr 1
  · refine List.map_congr_left fun j hj => ?_
    have := List.mem_range.1 hj
    rw [List.take_append_of_le_length (by omega)]
  · simp [List.take_of_length_le]
theorem starts_ends (rs : List RecB) : startsB rs = 0 :: endsB rs := by
  unfold startsB endsB
  rw [List.range_succ_eq_map]
  simp [endLB, linesB]
theorem starts_last (rs : List RecB) : (startsB rs).getD rs.length 0 = endLB rs := by simp [startsB, List.getD]
theorem okI_starts (D P : Bs) (c : Int) : okI D P c = ((startsB (openLB (D ++ P))).any (fun x => x == (D.length : Int)) && ((endLB (openLB (D ++ P)) : Int) == ((D ++ P).length : Int)) && (c == ((openLB (D ++ P)).length : Int))) := by
  unfold okI startsB
  congr 1
  · congr 1
    · rw [List.any_map]
      congr 1
      funext j
      simp only [Function.comp]
      rw [Bool.eq_iff_iff]
      simp
      omega
    · rw [Bool.eq_iff_iff]
      simp
      try omega
end Go.Proofs.YtpflnmejbialjaaGreatDoor
