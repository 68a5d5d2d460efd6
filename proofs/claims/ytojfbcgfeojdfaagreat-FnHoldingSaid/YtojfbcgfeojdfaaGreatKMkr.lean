/-
  A region that draws its order and holds several operations that make memory: each is shown once, whatever else has been done.
-/
import Derived.Test.YtojfbcgfeojdfaaGreatKRd
/-
  A region that draws its order and holds several operations that make memory: each is shown once, whatever else has been done.
-/
namespace Go.Proofs.YtojfbcgfeojdfaaGreat
set_option linter.unusedSimpArgs false
set_option linter.unusedVariables false
open Go.RowKit

/-- what an operation made: its value, its memory -/
abbrev Res := Value × List Ent
def puts (ds : Nat → Option Tmp) (ρ : Nat → Res) : List Nat → Act → Act
  | [], a => a
  | i :: is, a => puts ds ρ is (a.put (ds i) (ρ i).1)
def sets : List Nat → Array Bool → Array Bool
  | [], l => l
  | i :: is, l => sets is (l.setIfInBounds i true)
def flat (ρ : Nat → Res) (is : List Nat) : List Ent := is.flatMap fun i => (ρ i).2
def preOf (ops : Array Oper) (ds : Nat → Option Tmp) (ms : List Nat) (i : Nat) : List Nat :=
  match ops[i]? with
  | some o => ms.filter fun j => match ds j with
    | some d => (o.looksAt ops).contains d
    | none => false
  | none => []
def orderOk (md : Region.Mode) (ops : Array Oper) (l0 : Array Bool) : List Nat → List Nat → Bool
  | _, [] => true
  | done, i :: r => (match ops[i]? with
    | some o => o.after.all fun e => !Region.binds md e || l0.getD e.on false || done.contains e.on
    | none => false) && orderOk md ops l0 (i :: done) r
def makersOk (md : Region.Mode) (ops : Array Oper) (l0 : Array Bool) (t : Nat) (ds : Nat → Option Tmp) (pre : Nat → List Nat) (ms : List Nat) : Bool :=
  Region.noSelect ops && orderOk md ops l0 [] ms && decide ms.Nodup
  && (ms.all fun i => match ops[i]? with
    | some o => (match o.guard with | none => true | _ => false) && o.dst == ds i && (pre i == preOf ops ds ms i) && !(i == t) && !(l0.getD i true) && (pre i).all fun j => !(j == i) && o.after.any fun e => Region.binds md e && e.on == j
    | none => false)
  && (ms.all fun i => ms.all fun j => i == j || (match ds i with | some d => !(ds j == some d) | none => true))
  && (List.range ops.size).all fun j => l0.getD j true || ms.contains j || ms.all fun i => anc md ops i ops.size j

section
variable {P : Program} {ops : Array Oper} {Q : Exit → Act → World → Prop} {md : Region.Mode} {S : World → Prop} {t : Nat} {B : Nat} {w0 : World} {G0 : List Ent} {ds : Nat → Option Tmp} {pre : Nat → List Nat} {ms : List Nat} {ρ : Nat → Res}

theorem put_tmps_size (a : Act) (d : Option Tmp) (v : Value) : (a.put d v).tmps.size = a.tmps.size := by
  cases d <;> simp [Act.put]
theorem put_defers (a : Act) (d : Option Tmp) (v : Value) : (a.put d v).defers = a.defers := by
  cases d <;> simp [Act.put]
theorem puts_size (is : List Nat) (a : Act) : (puts ds ρ is a).tmps.size = a.tmps.size := by
  induction is generalizing a with
  | nil => rfl
  | cons i is ih => rw [puts, ih, put_tmps_size]
theorem put_inj {a a' : Act} {d : Option Tmp} {u v : Value} (hs : a.tmps.size = a'.tmps.size) (h : a'.put d u = a'.put d v) : a.put d u = a.put d v := by
  cases d with
  | none => rfl
  | some d =>
    by_cases hd : d < a'.tmps.size
    · have e := congrArg (fun x : Act => x.tmps[d]?) h
      simp [Act.put, hd] at e
      rw [e]
    · simp [Act.put, Array.setIfInBounds, hs, hd]
theorem wp_same {o : Oper} {a a' : Act} {w : World} (he : execOp a.eval o = execOp a'.eval o) (hs : a.tmps.size = a'.tmps.size) {φ : Value → World → Prop}
    (h : Oper.wp P o a' w (fun x w' => ∃ v, x = a'.put o.dst v ∧ φ v w') (fun _ _ _ => False)) : Oper.wp P o a w (fun x w' => ∃ v, x = a.put o.dst v ∧ φ v w') Q := by
  unfold Oper.wp at *
  rw [he]
  generalize (execOp a'.eval o).run P w = r at *
  cases r with
  | ok n w' =>
    cases n <;> simp only [Oper.upon] at h ⊢
    case value u =>
      obtain ⟨v, e, hv⟩ := h
      exact ⟨v, put_inj hs e, hv⟩
    case skip =>
      obtain ⟨v, e, hv⟩ := h
      exact ⟨v, put_inj hs e, hv⟩
    case defer d =>
      obtain ⟨v, e, hv⟩ := h
      have := congrArg Act.defers e
      rw [put_defers, put_defers] at this
      exact absurd (congrArg List.length this) (by simp)
    case enter f args =>
      refine Calls.mono h fun e w'' he => ?_
      cases e with
      | returned u => obtain ⟨v, e, hv⟩ := he; exact ⟨v, put_inj hs e, hv⟩
      | panicked c => exact he.elim
      | outgrown => obtain ⟨_, _, hf⟩ := he; exact hf.elim
    case row row args => exact Rows.mono h fun u w'' he => (let ⟨v, e, hv⟩ := he; ⟨v, put_inj hs e, hv⟩)
  | halt x w' =>
    cases x <;> simp only [Oper.upon] at h ⊢

theorem puts_append (xs ys : List Nat) (a : Act) : puts ds ρ (xs ++ ys) a = puts ds ρ ys (puts ds ρ xs a) := by
  induction xs generalizing a with
  | nil => rfl
  | cons x xs ih => rw [List.cons_append, puts, puts, ih]
theorem sets_append (xs ys : List Nat) (l : Array Bool) : sets (xs ++ ys) l = sets ys (sets xs l) := by
  induction xs generalizing l with
  | nil => rfl
  | cons x xs ih => rw [List.cons_append, sets, sets, ih]
theorem puts_perm {xs ys : List Nat} (hp : xs.Perm ys) (hd : ∀ i ∈ xs, ∀ j ∈ xs, i ≠ j → ∀ d, ds i = some d → ds j ≠ some d) (hn : xs.Nodup) (a : Act) : puts ds ρ xs a = puts ds ρ ys a := by
  induction hp generalizing a with
  | nil => rfl
  | cons x _ ih => exact ih (fun i hi j hj => hd i (by simp [hi]) j (by simp [hj])) (List.nodup_cons.1 hn).2 _
  | swap x y l =>
    simp only [puts]
    have hne : y ≠ x := fun e => (List.nodup_cons.1 hn).1 (by simp [e])
    rw [Act.put_comm a _ _ (hd y (by simp) x (by simp) hne)]
  | trans h1 _ ih1 ih2 =>
    rw [ih1 hd hn, ih2 (fun i hi j hj => hd i (h1.mem_iff.2 hi) j (h1.mem_iff.2 hj)) (h1.nodup_iff.1 hn)]
theorem sets_perm {xs ys : List Nat} (hp : xs.Perm ys) (l : Array Bool) : sets xs l = sets ys l := by
  induction hp generalizing l with
  | nil => rfl
  | cons x _ ih => exact ih _
  | swap x y l =>
    simp only [sets]
    by_cases h : x = y
    · rw [h]
    · rw [Array.setIfInBounds_comm _ _ (Ne.symm h)]
  | trans _ _ ih1 ih2 => rw [ih1, ih2]
theorem sets_get (xs : List Nat) (l : Array Bool) (j : Nat) (d : Bool) : (sets xs l).getD j d = if j ∈ xs ∧ j < l.size then true else l.getD j d := by
  induction xs generalizing l with
  | nil => simp [sets]
  | cons x xs ih =>
    rw [sets, ih]
    simp only [Array.size_setIfInBounds, List.mem_cons]
    by_cases h1 : j ∈ xs ∧ j < l.size
    · rw [if_pos h1, if_pos ⟨.inr h1.1, h1.2⟩]
    · rw [if_neg h1]
      by_cases h2 : j = x
      · subst h2
        by_cases h3 : j < l.size
        · rw [if_pos ⟨.inl rfl, h3⟩]
          simp [h3]
        · rw [if_neg (fun h => h3 h.2)]
          simp [h3]
      · rw [if_neg (fun h => h.1.elim h2 (fun h4 => h1 ⟨h4, h.2⟩)), getD_set_ne d (Ne.symm h2)]
theorem puts_congr {ρ' : Nat → Res} {is : List Nat} (h : ∀ i ∈ is, ρ i = ρ' i) (a : Act) : puts ds ρ is a = puts ds ρ' is a := by
  induction is generalizing a with
  | nil => rfl
  | cons i is ih => rw [puts, puts, h i (by simp), ih (fun j hj => h j (by simp [hj]))]
theorem flat_congr {ρ' : Nat → Res} {is : List Nat} (h : ∀ i ∈ is, ρ i = ρ' i) : flat ρ is = flat ρ' is := by
  unfold flat
  induction is with
  | nil => rfl
  | cons i is ih => rw [List.flatMap_cons, List.flatMap_cons, h i (by simp), ih (fun j hj => h j (by simp [hj]))]
/-- what is put where an operation does not look -/
theorem execOp_puts (o : Oper) (hs : ∀ cs b, o.op ≠ .select cs b) {is : List Nat} (h : ∀ i ∈ is, ∀ d, ds i = some d → d ∉ o.looksAt ops) (a : Act) : execOp (puts ds ρ is a).eval o = execOp a.eval o := by
  induction is generalizing a with
  | nil => rfl
  | cons i is ih => rw [puts, ih (fun j hj => h j (by simp [hj])), execOp_put (ops := ops) o hs a (ds i) _ (h i (by simp))]

/-- an operation, shown with what it looks at: it makes what R says, whatever else there is -/
def OpMakes (P : Program) (B : Nat) (w0 : World) (o : Oper) (d : Option Tmp) (a : Act) (R : Value → List Ent → Prop) (G : List Ent) : Prop :=
  ∀ w G1, Mem B w0 w (G ++ G1) → ∀ (K : Act → World → Prop) (Q : Exit → Act → World → Prop), ShutT (∀ v E w', R v E → Mem B w0 w' (E ++ (G ++ G1)) → K (a.put d v) w') → Oper.wp P o a w K Q
def SpecAt (P : Program) (ops : Array Oper) (B : Nat) (w0 : World) (G0 : List Ent) (ds : Nat → Option Tmp) (pre : Nat → List Nat) (R : Nat → List Res → Value → List Ent → Prop) (base : Act) (i : Nat) : Prop :=
  ∀ o, ops[i]? = some o → ∀ ρ : Nat → Res, (∀ j ∈ pre i, R j ((pre j).map ρ) (ρ j).1 (ρ j).2) → OpMakes P B w0 o (ds i) (puts ds ρ (pre i) base) (R i ((pre i).map ρ)) (flat ρ (pre i) ++ G0)
theorem SpecAt.intro {R : Nat → List Res → Value → List Ent → Prop} {base : Act} {i : Nat} {o : Oper} (ho : ops[i]? = some o)
    (h : ∀ ρ : Nat → Res, (∀ j ∈ pre i, R j ((pre j).map ρ) (ρ j).1 (ρ j).2) → OpMakes P B w0 o (ds i) (puts ds ρ (pre i) base) (R i ((pre i).map ρ)) (flat ρ (pre i) ++ G0)) : SpecAt P ops B w0 G0 ds pre R base i := by
  intro o' ho'
  obtain rfl : o = o' := Option.some.inj (ho.symm.trans ho')
  exact h
def Specs (P : Program) (ops : Array Oper) (B : Nat) (w0 : World) (G0 : List Ent) (ds : Nat → Option Tmp) (pre : Nat → List Nat) (R : Nat → List Res → Value → List Ent → Prop) (base : Act) : List Nat → Prop
  | [] => True
  | i :: is => SpecAt P ops B w0 G0 ds pre R base i ∧ Specs P ops B w0 G0 ds pre R base is
theorem Specs.at {R : Nat → List Res → Value → List Ent → Prop} {base : Act} : ∀ {is : List Nat}, Specs P ops B w0 G0 ds pre R base is → ∀ i ∈ is, SpecAt P ops B w0 G0 ds pre R base i
  | [], _, i, hi => by simp at hi
  | x :: is, h, i, hi => by
    rcases List.mem_cons.1 hi with rfl | hi
    · exact h.1
    · exact h.2.at i hi

theorem orderOk_at {l0 : Array Bool} : ∀ {r done : List Nat}, orderOk md ops l0 done r = true → ∀ {A : List Nat} {i : Nat} {C : List Nat}, r = A ++ i :: C → ∃ o, ops[i]? = some o ∧ ∀ e ∈ o.after, Region.binds md e = true → l0.getD e.on false = true ∨ e.on ∈ done ∨ e.on ∈ A
  | [], _, _, A, i, C, h => by simp at h
  | x :: r, done, hk, A, i, C, h => by
    unfold orderOk at hk
    rw [Bool.and_eq_true] at hk
    obtain ⟨h1, h2⟩ := hk
    cases A with
    | nil =>
      simp only [List.nil_append, List.cons.injEq] at h
      obtain ⟨rfl, rfl⟩ := h
      cases ho : ops[x]? with
      | none => rw [ho] at h1; cases h1
      | some o =>
        rw [ho] at h1
        refine ⟨o, rfl, fun e he hb => ?_⟩
        have := Array.all_eq_true'.1 h1 e he
        simp only [hb, Bool.not_true, Bool.false_or, Bool.or_eq_true, List.contains_iff_mem] at this
        rcases this with h3 | h3
        · exact .inl h3
        · exact .inr (.inl h3)
    | cons y A =>
      simp only [List.cons_append, List.cons.injEq] at h
      obtain ⟨rfl, rfl⟩ := h
      obtain ⟨o, ho, hall⟩ := orderOk_at h2 rfl
      refine ⟨o, ho, fun e he hb => ?_⟩
      rcases hall e he hb with h3 | h3 | h3
      · exact .inl h3
      · rcases List.mem_cons.1 h3 with h3 | h3
        · exact .inr (.inr (by simp [h3]))
        · exact .inr (.inl h3)
      · exact .inr (.inr (by simp [h3]))

theorem getD_false {l : Array Bool} {i : Nat} (h : l.getD i true = false) : i < l.size ∧ l.getD i false = false := by
  by_cases hi : i < l.size
  · refine ⟨hi, ?_⟩
    simp [hi] at h ⊢
    exact h
  · simp [hi] at h

theorem makers_go {l0 : Array Bool} {f0 : Nat} {base : Act} {R : Nat → List Res → Value → List Ent → Prop} (hchk : makersOk md ops l0 t ds pre ms = true) (hS : ∀ w G1, Mem B w0 w (G1 ++ G0) → S w)
    (hsp : Specs P ops B w0 G0 ds pre R base ms)
    (hfin : ∀ ρ : Nat → Res, (∀ i ∈ ms, R i ((pre i).map ρ) (ρ i).1 (ρ i).2) → ∀ w, Mem B w0 w (flat ρ ms ++ G0) → AtT P md ops Q S t f0 (sets ms l0) (puts ds ρ ms base) w) :
    ∀ (n : Nat) (D rem : List Nat) (ρ : Nat → Res) (w : World), rem.length = n → (D ++ rem).Perm ms → rem.Sublist ms → (∀ i ∈ D, R i ((pre i).map ρ) (ρ i).1 (ρ i).2) → (∀ i ∈ D, ∀ j ∈ pre i, j ∈ D) →
      Mem B w0 w (flat ρ D ++ G0) → Closed md ops (sets D l0) → wpAnyT P md ops Q S t (n + f0) (sets D l0) (puts ds ρ D base) w := by
  simp only [makersOk, Bool.and_eq_true] at hchk
  obtain ⟨⟨⟨⟨⟨c1, c2⟩, c3⟩, c4⟩, c5⟩, c6⟩ := hchk
  have hnd : ms.Nodup := of_decide_eq_true c3
  have hsel := Region.noSelect_spec c1
  have hms : ∀ i ∈ ms, ∃ o, ops[i]? = some o ∧ o.guard = none ∧ o.dst = ds i ∧ pre i = preOf ops ds ms i ∧ i ≠ t ∧ l0.getD i true = false ∧ ∀ j ∈ pre i, j ≠ i ∧ ∃ e ∈ o.after, Region.binds md e = true ∧ e.on = j := by
    intro i hi
    have h := List.all_eq_true.1 c4 i hi
    cases ho : ops[i]? with
    | none => rw [ho] at h; cases h
    | some o =>
      rw [ho] at h
      simp only [Bool.and_eq_true, beq_iff_eq, Bool.not_eq_true'] at h
      obtain ⟨⟨⟨⟨⟨h1, h2⟩, h3⟩, h4⟩, h5⟩, h6⟩ := h
      refine ⟨o, rfl, ?_, h2, h3, by simpa using h4, h5, fun j hj => ?_⟩
      · cases hg : o.guard with
        | none => rfl
        | some g => rw [hg] at h1; cases h1
      · have h7 := List.all_eq_true.1 h6 j hj
        simp only [Bool.and_eq_true, Bool.not_eq_true', beq_eq_false_iff_ne] at h7
        obtain ⟨e, he, hb⟩ := Array.any_eq_true'.1 h7.2
        simp only [Bool.and_eq_true, beq_iff_eq] at hb
        exact ⟨h7.1, e, he, hb⟩
  have hdst : ∀ i ∈ ms, ∀ j ∈ ms, i ≠ j → ∀ d, ds i = some d → ds j ≠ some d := by
    intro i hi j hj hij d hd
    have h := List.all_eq_true.1 (List.all_eq_true.1 c5 i hi) j hj
    rw [hd] at h
    simpa [hij] using h
  intro n
  induction n with
  | zero =>
    intro D rem ρ w hn hp _ hR _ hM hc
    obtain rfl : rem = [] := List.eq_nil_of_length_eq_zero hn
    rw [List.append_nil] at hp
    have hDn : D.Nodup := hp.nodup_iff.2 hnd
    have hh := hfin ρ (fun i hi => hR i (hp.mem_iff.2 hi)) w (hM.perm (List.Perm.append_right _ (List.Perm.flatMap_right _ hp)))
    rw [Nat.zero_add]
    rw [sets_perm hp, puts_perm hp (fun i hi j hj => hdst i (hp.mem_iff.1 hi) j (hp.mem_iff.1 hj)) hDn] at *
    exact hh hc
  | succ n ih =>
    intro D rem ρ w hn hp hsub hR hpre hM hc
    have hDn : (D ++ rem).Nodup := hp.nodup_iff.2 hnd
    obtain ⟨hDn1, hDn2, hDn3⟩ := List.nodup_append.1 hDn
    have hDm : ∀ i ∈ D, i ∈ ms := fun i hi => hp.mem_iff.1 (by simp [hi])
    have hrm : ∀ i ∈ rem, i ∈ ms := fun i hi => hp.mem_iff.1 (by simp [hi])
    have hin : ∀ i ∈ ms, (sets D l0).getD i false = true → i ∈ D := by
      intro i hi h
      obtain ⟨_, _, _, _, _, _, h5, _⟩ := hms i hi
      have h6 := getD_false h5
      rw [sets_get] at h
      by_cases h7 : i ∈ D
      · exact h7
      · rw [if_neg (fun h => h7 h.1), h6.2] at h
        cases h
    rw [show n + 1 + f0 = (n + f0) + 1 by omega]
    refine ⟨fun h0 => ?_, fun j hj => ?_⟩
    · -- something is ready
      exfalso
      cases rem with
      | nil => simp at hn
      | cons i rest =>
        obtain ⟨r1, r2, e1, hi1, hs2⟩ := List.cons_sublist_iff.1 hsub
        obtain ⟨A, A', e2⟩ := List.append_of_mem hi1
        have e3 : ms = A ++ i :: (A' ++ r2) := by rw [e1, e2]; simp
        obtain ⟨o, ho, hall⟩ := orderOk_at c2 e3
        have hiD : i ∉ D := fun h => hDn3 i h i (by simp) rfl
        have hA : ∀ x ∈ A, x ∈ D := by
          intro x hx
          have hxm : x ∈ ms := by rw [e3]; simp [hx]
          rcases List.mem_append.1 (hp.mem_iff.2 hxm) with h | h
          · exact h
          · exfalso
            rw [e3] at hnd
            obtain ⟨_, hn2, hn3⟩ := List.nodup_append.1 hnd
            rcases List.mem_cons.1 h with rfl | h
            · exact hn3 x hx x (by simp) rfl
            · exact hn3 x hx x (by simp [hs2.subset h]) rfl
        obtain ⟨_, _, _, _, _, _, h5, _⟩ := hms i (hrm i (by simp))
        have hri : i ∈ Region.ready md ops (sets D l0) := mem_ready.2 ⟨by rw [sets_get, if_neg (fun h => hiD h.1)]; exact h5, o, ho, fun e he hb => by
          rw [sets_get]
          rcases hall e he hb with h | h | h
          · by_cases h8 : e.on ∈ D ∧ e.on < l0.size
            · rw [if_pos h8]
            · rw [if_neg h8]; exact h
          · simp at h
          · have h8 := hA _ h
            obtain ⟨_, _, _, _, _, _, h9, _⟩ := hms _ (hDm _ h8)
            rw [if_pos ⟨h8, (getD_false h9).1⟩]⟩
        rw [h0] at hri
        cases hri
    · -- whichever is ready
      obtain ⟨hj0, oj, hoj, hall⟩ := mem_ready.1 hj
      have hjs : j < ops.size := by
        obtain ⟨h, _⟩ := Array.getElem?_eq_some_iff.1 hoj
        exact h
      have hjr : j ∈ rem := by
        have h := List.all_eq_true.1 c6 j (List.mem_range.2 hjs)
        simp only [Bool.or_eq_true, List.contains_iff_mem] at h
        rcases h with (h | h) | h
        · rw [sets_get] at hj0
          by_cases h8 : j ∈ D ∧ j < l0.size
          · rw [if_pos h8] at hj0; cases hj0
          · rw [if_neg h8, h] at hj0; cases hj0
        · rcases List.mem_append.1 (hp.mem_iff.2 h) with h8 | h8
          · obtain ⟨_, _, _, _, _, _, h9, _⟩ := hms j h
            rw [sets_get, if_pos ⟨h8, (getD_false h9).1⟩] at hj0
            cases hj0
          · exact h8
        · exfalso
          cases rem with
          | nil => simp at hn
          | cons i rest =>
            have h8 := anc_listed hc ops.size j oj hoj (List.all_eq_true.1 h i (hrm i (by simp))) hall
            exact hDn3 i (hin i (hrm i (by simp)) h8) i (by simp) rfl
      have hjD : j ∉ D := fun h => hDn3 j h j hjr rfl
      obtain ⟨o', ho', hg, hd, hpj, hjt, hj9, hpe⟩ := hms j (hrm j hjr)
      obtain rfl : oj = o' := Option.some.inj (hoj.symm.trans ho')
      have hpD : ∀ i ∈ pre j, i ∈ D := by
        intro i hi
        obtain ⟨_, e, he, hb, rfl⟩ := hpe i hi
        refine hin _ ?_ (hall e he hb)
        rw [hpj] at hi
        unfold preOf at hi
        rw [hoj] at hi
        exact (List.mem_filter.1 hi).1
      have hpn : (pre j).Nodup := by
        rw [hpj]
        unfold preOf
        rw [hoj]
        exact List.Nodup.sublist List.filter_sublist hnd
      -- D, with what j looks at in front
      obtain ⟨oth, hoth⟩ : ∃ oth, D.Perm (pre j ++ oth) := by
        refine ⟨D.filter (fun i => !(pre j).contains i), ?_⟩
        refine (List.filter_append_perm (fun i => (pre j).contains i) D).symm.trans (List.Perm.append_right _ ?_)
        refine (List.perm_ext_iff_of_nodup (List.Nodup.sublist List.filter_sublist hDn1) hpn).2 fun i => ?_
        rw [List.mem_filter, List.contains_iff_mem]
        exact ⟨fun h => h.2, fun h => ⟨hpD i h, h⟩⟩
      have hon : ∀ i ∈ oth, i ∈ D ∧ i ∉ pre j := by
        intro i hi
        have h := hoth.nodup_iff.1 hDn1
        exact ⟨hoth.mem_iff.2 (by simp [hi]), fun h8 => (List.nodup_append.1 h).2.2 i h8 i hi rfl⟩
      have hlook : ∀ i ∈ oth, ∀ d, ds i = some d → d ∉ oj.looksAt ops := by
        intro i hi d hd8 hdl
        apply (hon i hi).2
        rw [hpj]
        unfold preOf
        rw [hoj]
        refine List.mem_filter.2 ⟨hDm i (hon i hi).1, ?_⟩
        rw [hd8]
        simpa using hdl
      have hputs : puts ds ρ D base = puts ds ρ oth (puts ds ρ (pre j) base) := by
        rw [puts_perm hoth (fun i hi k hk => hdst i (hDm i hi) k (hDm k hk)) hDn1, puts_append]
      have hexe : execOp (puts ds ρ D base).eval oj = execOp (puts ds ρ (pre j) base).eval oj := by
        rw [hputs]
        exact execOp_puts oj (fun cs b => hsel j oj cs b hoj) hlook _
      have hwant : Region.wanted oj (yielded ops (puts ds ρ D base).tmps) = true := by simp [Region.wanted, hg]
      unfold wpOp
      rw [hoj]
      dsimp only
      rw [if_pos hwant]
      refine .inl ?_
      have hM1 : Mem B w0 w (flat ρ (pre j) ++ G0 ++ flat ρ oth) := by
        refine hM.perm ?_
        have e1 : (flat ρ D).Perm (flat ρ (pre j) ++ flat ρ oth) := by
          have := List.Perm.flatMap_right (fun i => (ρ i).2) hoth
          rw [List.flatMap_append] at this
          exact this
        refine (List.Perm.append_right G0 e1).trans ?_
        rw [List.append_assoc, List.append_assoc]
        exact List.Perm.append_left _ List.perm_append_comm
      have hspec := hsp.at j (hrm j hjr) oj hoj ρ (fun i hi => hR i (hpD i hi)) w (flat ρ oth) hM1
      rw [← hd] at hspec
      have hval := wp_same (Q := Q) hexe (by rw [puts_size, puts_size]) (φ := fun v w' => ∃ E, R j ((pre j).map ρ) v E ∧ Mem B w0 w' (E ++ (flat ρ (pre j) ++ G0 ++ flat ρ oth)))
        (hspec _ (fun _ _ _ => False) (fun v E w' h1 h2 => ⟨v, rfl, E, h1, h2⟩))
      refine Oper.wp_mono ?_ hval
      rintro a' w' ⟨v, rfl, E, hRv, hM2⟩
      have hM3 : Mem B w0 w' (flat ρ D ++ E ++ G0) := by
        refine hM2.perm ?_
        have e1 : (flat ρ (pre j) ++ flat ρ oth).Perm (flat ρ D) := by
          have := List.Perm.flatMap_right (fun i => (ρ i).2) hoth
          rw [List.flatMap_append] at this
          exact this.symm
        have e2 : (flat ρ (pre j) ++ G0 ++ flat ρ oth).Perm (flat ρ D ++ G0) := by
          refine List.Perm.trans ?_ (List.Perm.append_right G0 e1)
          rw [List.append_assoc, List.append_assoc]
          exact List.Perm.append_left _ List.perm_append_comm
        refine (List.Perm.append_left E e2).trans ?_
        rw [← List.append_assoc]
        exact List.Perm.append_right G0 List.perm_append_comm
      refine ⟨fun _ => hS w' (flat ρ D ++ E) hM3, ?_⟩
      obtain ⟨ρ', hρ'⟩ : ∃ ρ' : Nat → Res, ρ' = fun k => if k = j then (v, E) else ρ k := ⟨_, rfl⟩
      have q1 : ρ' j = (v, E) := by rw [hρ']; simp
      have q2 : ∀ k, k ≠ j → ρ' k = ρ k := fun k hk => by rw [hρ']; simp [hk]
      have q3 : ∀ k ∈ D, ρ k = ρ' k := fun k hk => (q2 k (fun e => hjD (e ▸ hk))).symm
      have q4 : ∀ k ∈ pre j, ρ k = ρ' k := fun k hk => q3 k (hpD k hk)
      have r1 : (puts ds ρ D base).put oj.dst v = puts ds ρ' (D ++ [j]) base := by
        rw [puts_append, puts, puts, q1, hd, ← puts_congr q3]
      have r2 : (sets D l0).setIfInBounds j true = sets (D ++ [j]) l0 := by rw [sets_append]; rfl
      rw [r1, r2]
      refine ih (D ++ [j]) (rem.erase j) ρ' w' ?_ ?_ ((List.erase_sublist).trans hsub) ?_ ?_ ?_ ?_
      · rw [List.length_erase_of_mem hjr]; omega
      · refine List.Perm.trans ?_ hp
        rw [List.append_assoc]
        exact List.Perm.append_left D (List.perm_cons_erase hjr).symm
      · intro i hi
        rcases List.mem_append.1 hi with hi | hi
        · rw [← q3 i hi, ← List.map_congr_left (fun k hk => q3 k (hpre i hi k hk))]
          exact hR i hi
        · obtain rfl : i = j := by simpa using hi
          rw [q1, ← List.map_congr_left q4]
          exact hRv
      · intro i hi k hk
        rcases List.mem_append.1 hi with hi | hi
        · exact List.mem_append_left _ (hpre i hi k hk)
        · obtain rfl : i = j := by simpa using hi
          exact List.mem_append_left _ (hpD k hk)
      · have e1 : flat ρ' (D ++ [j]) = flat ρ D ++ E := by
          show (D ++ [j]).flatMap _ = _
          rw [List.flatMap_append, List.flatMap_cons, List.flatMap_nil, List.append_nil, q1]
          show flat ρ' D ++ E = _
          rw [flat_congr q3]
        rw [e1]
        exact hM3
      · rw [← r2]
        exact hc.set hj

def putz (ds : Nat → Option Tmp) : List Nat → List Res → Act → Act
  | i :: is, r :: rs, a => putz ds is rs (a.put (ds i) r.1)
  | _, _, a => a
theorem putz_map (is : List Nat) (a : Act) : putz ds is (is.map ρ) a = puts ds ρ is a := by
  induction is generalizing a with
  | nil => rfl
  | cons i is ih => rw [List.map_cons, putz, puts, ih]
/-- what the operations of pp yield, whatever the world is; what the others make -/
def combo (P : Program) (ops : Array Oper) (ds : Nat → Option Tmp) (pre : Nat → List Nat) (base : Act) (pp : List Nat) (R : Nat → List Res → Value → List Ent → Prop) (i : Nat) (pv : List Res) (v : Value) (E : List Ent) : Prop :=
  if pp.contains i = true then E = [] ∧ ∀ o, ops[i]? = some o → ∀ w, (execOp (putz ds (pre i) pv base).eval o).run P w = .ok (.value v) w else R i pv v E
theorem SpecAt.pure {R : Nat → List Res → Value → List Ent → Prop} {base : Act} {pp : List Nat} {i : Nat} {o : Oper} (ho : ops[i]? = some o) (hp : pp.contains i = true) (hd : o.dst = ds i)
    (h : ∀ ρ : Nat → Res, (∀ j ∈ pre i, combo P ops ds pre base pp R j ((pre j).map ρ) (ρ j).1 (ρ j).2) → ∃ v, ∀ w, (execOp (puts ds ρ (pre i) base).eval o).run P w = .ok (.value v) w) : SpecAt P ops B w0 G0 ds pre (combo P ops ds pre base pp R) base i := by
  refine SpecAt.intro ho fun ρ hρ w G1 hM K Q hK => ?_
  obtain ⟨v, hv⟩ := h ρ hρ
  unfold Oper.wp
  rw [hv w]
  show K _ w
  rw [hd]
  refine hK v [] w ?_ hM
  unfold combo
  rw [if_pos hp]
  refine ⟨rfl, fun o' ho' w => ?_⟩
  obtain rfl : o = o' := Option.some.inj (ho.symm.trans ho')
  rw [putz_map]
  exact hv w
theorem combo_pure {R : Nat → List Res → Value → List Ent → Prop} {base : Act} {pp : List Nat} {i : Nat} {o : Oper} {v : Value} {E : List Ent} (h : combo P ops ds pre base pp R i ((pre i).map ρ) v E) (hp : pp.contains i = true) (ho : ops[i]? = some o) : E = [] ∧ ∀ w, (execOp (puts ds ρ (pre i) base).eval o).run P w = .ok (.value v) w := by
  unfold combo at h
  rw [if_pos hp] at h
  refine ⟨h.1, fun w => ?_⟩
  rw [← putz_map]
  exact h.2 o ho w
theorem pure_known {p : Prop} {m : Sem Next} {v v' : Value} (h : ∀ w, m.run P w = .ok (.value v) w) (w : World) (h' : m.run P w = .ok (.value v') w) (k : v = v' → p) : p := by
  have e := (h w).symm.trans h'
  injection e with e1 _
  injection e1 with e1
  exact k e1

theorem AtT.makers {l0 : Array Bool} {f0 : Nat} {base : Act} (R : Nat → List Res → Value → List Ent → Prop) {w : World} (m : Nat) (ms pp : List Nat) (ds : Nat → Option Tmp) (pre : Nat → List Nat) (hm : ms.length = m) (hchk : makersOk md ops l0 t ds pre ms = true) (hM : Mem B w0 w G0)
    (hsp : Specs P ops B w0 G0 ds pre (combo P ops ds pre base pp R) base ms)
    (hfin : ∀ ρ : Nat → Res, (∀ i ∈ ms, combo P ops ds pre base pp R i ((pre i).map ρ) (ρ i).1 (ρ i).2) → ∀ w, Mem B w0 w (flat ρ ms ++ G0) → AtT P md ops Q (fun w1 => Mem B w0 w1 G0) t f0 (sets ms l0) (puts ds ρ ms base) w) :
    AtT P md ops Q (fun w1 => Mem B w0 w1 G0) t (f0 + m) l0 base w := fun hc => by
  subst hm
  rw [Nat.add_comm]
  exact makers_go hchk (fun w G1 h => h.sub (List.sublist_append_right _ _)) hsp hfin ms.length [] ms (fun _ => (undef, [])) w rfl (List.Perm.refl _) (List.Sublist.refl _) (by simp) (by simp) (by simpa [flat] using hM) hc

/-- new numbers -/
def RInts (n : Nat) (xs : List Int) (v : Value) (E : List Ent) : Prop := ∃ a c, v = .slice a n c ∧ E = [intE a n c xs]
theorem Mem.empty {B : Nat} {w0 w : World} {G : List Ent} (h : Mem B w0 w G) : Mem B w0 (w.alloc (.cells #[] 3)) (intE (some ⟨w.heap.size, 0, none⟩) 0 0 [] :: G) :=
  (h.alloc #[] 3).toInts (xs := []) .here rfl (by simp) (by simp)
end
end Go.Proofs.YtojfbcgfeojdfaaGreat
