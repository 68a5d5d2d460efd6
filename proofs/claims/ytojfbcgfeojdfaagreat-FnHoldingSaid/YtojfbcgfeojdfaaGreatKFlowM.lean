/-
  Matrices in memory: a slice of rows, each its own array.
-/
import Derived.Test.YtojfbcgfeojdfaaGreatKFlowN
import Derived.Test.YtojfbcgfeojdfaaGreatKDrawSmk
import Derived.Test.YtojfbcgfeojdfaaGreatKNear4
/-
  A search through what is left of a net, and the way back. Plain Lean, no program in sight.
-/
namespace Go.Proofs.YtojfbcgfeojdfaaGreat
set_option linter.unusedSimpArgs false
set_option linter.unusedVariables false

/-- what is found, in order, and whence; cl: the pairs that have been looked at -/
structure BS (N s : Nat) (left : Nat → Nat → Int) (fr : List Int) (h : List Nat) (cl : Nat → Nat → Prop) : Prop where
  len : fr.length = N
  nd : h.Nodup
  lt : ∀ c ∈ h, c < N
  smem : s ∈ h
  yes : ∀ c, c < N → (0 ≤ fr.getD c 0 ↔ c ∈ h)
  par : ∃ rk : Nat → Nat, ∀ c ∈ h, rk c < h.length ∧ (c ≠ s → ∃ p : Nat, fr.getD c 0 = p ∧ p ∈ h ∧ p ≠ c ∧ rk p < rk c ∧ 0 < left p c)
  closed : ∀ a b, cl a b → b < N → 0 < left a b → b ∈ h
section
variable {N s t : Nat} {left cap : Nat → Nat → Int} {fr : List Int} {h : List Nat} {cl cl' : Nat → Nat → Prop} {v : Int}
theorem getD_setB {xs : List Int} {k c : Nat} {y : Int} (hk : k < xs.length) : (xs.set k y).getD c 0 = if c = k then y else xs.getD c 0 := by
  rw [List.getD_eq_getElem?_getD, List.getD_eq_getElem?_getD, List.getElem?_set]
  by_cases e : k = c
  · subst e; simp [hk]
  · rw [if_neg e, if_neg (fun e2 => e e2.symm)]
theorem BS.start (hs : s < N) : BS N s left ((List.replicate N (-1)).set s s) [s] (fun _ _ => False) := by
  have hl : s < (List.replicate N (-1 : Int)).length := by simpa using hs
  refine ⟨by simp, by simp, by simpa using hs, by simp, fun c hc => ?_, ⟨fun _ => 0, fun c hc => ⟨by simp, fun hne => absurd (List.mem_singleton.1 hc) hne⟩⟩, fun _ _ h => h.elim⟩
  rw [getD_setB hl]
  by_cases e : c = s
  · subst e; simp
  · rw [if_neg e]
    simp [List.getD, hc, e]
theorem BS.to (hb : BS N s left fr h cl) (hc : ∀ a b, cl' a b → b < N → 0 < left a b → b ∈ h) : BS N s left fr h cl' := ⟨hb.len, hb.nd, hb.lt, hb.smem, hb.yes, hb.par, hc⟩
theorem BS.add (hb : BS N s left fr h cl) {k a : Nat} (hk : k < N) (hn : fr.getD k 0 < 0) (ha : a ∈ h) (hl : 0 < left a k) : BS N s left (fr.set k a) (h ++ [k]) cl := by
  have hkh : k ∉ h := fun e => by have := (hb.yes k hk).2 e; omega
  have hkf : k < fr.length := by rw [hb.len]; exact hk
  refine ⟨by rw [List.length_set]; exact hb.len, ?_, ?_, by simp [hb.smem], fun c hc => ?_, ?_, fun x y hx hy h2 => by simp [hb.closed x y hx hy h2]⟩
  · rw [List.nodup_append]
    refine ⟨hb.nd, by simp, fun x hx y hy e => ?_⟩
    rw [List.mem_singleton.1 hy] at e
    exact hkh (e ▸ hx)
  · intro c hc
    rcases List.mem_append.1 hc with hc | hc
    · exact hb.lt c hc
    · rw [List.mem_singleton.1 hc]; exact hk
  · rw [getD_setB hkf]
    by_cases e : c = k
    · subst e; simp
    · rw [if_neg e, hb.yes c hc]
      simp [e]
  · obtain ⟨rk, hrk⟩ := hb.par
    refine ⟨fun c => if c = k then h.length else rk c, fun c hc => ?_⟩
    have hne : ∀ c ∈ h, c ≠ k := fun c hc e => hkh (e ▸ hc)
    rcases List.mem_append.1 hc with hc | hc
    · obtain ⟨h1, h2⟩ := hrk c hc
      dsimp only
      rw [if_neg (hne c hc)]
      refine ⟨by rw [List.length_append]; simp; omega, fun hs => ?_⟩
      obtain ⟨p, e1, e2, e3, e4, e5⟩ := h2 hs
      exact ⟨p, by rw [getD_setB hkf, if_neg (hne c hc)]; exact e1, by simp [e2], e3, by rw [if_neg (hne p e2)]; exact e4, e5⟩
    · obtain rfl := List.mem_singleton.1 hc
      dsimp only
      rw [if_pos rfl]
      refine ⟨by simp, fun _ => ⟨a, by rw [getD_setB hkf, if_pos rfl], by simp [ha], hne a ha, ?_, hl⟩⟩
      rw [if_neg (hne a ha)]
      exact (hrk a ha).1
theorem nodup_le : ∀ {N : Nat} {h : List Nat}, h.Nodup → (∀ c ∈ h, c < N) → h.length ≤ N
  | 0, h, _, hl => by
    cases h with
    | nil => exact Nat.le_refl _
    | cons x h => exact absurd (hl x (by simp)) (by omega)
  | N + 1, h, hn, hl => by
    have h1 := nodup_le (N := N) (h := h.erase N) (hn.erase N) (fun c hc => by
      have h2 := hl c (List.mem_of_mem_erase hc)
      have h3 : c ≠ N := fun e => by
        subst e
        exact (List.Nodup.not_mem_erase hn) hc
      omega)
    have h2 : h.length ≤ (h.erase N).length + 1 := by
      rw [List.length_erase]
      split <;> omega
    omega
theorem BS.len_le (hb : BS N s left fr h cl) : h.length ≤ N := nodup_le hb.nd hb.lt
/-- nothing more is found: a cut -/
theorem BS.cut (hb : BS N s left fr h (fun a _ => a ∈ h)) {S : Nat → Bool} (hS : ∀ a, S a = decide (a ∈ h)) : ∀ a b, a < N → b < N → S a = true → S b = false → ¬ 0 < left a b := by
  intro a b _ hbN ha hb' hl
  rw [hS, decide_eq_true_iff] at ha
  rw [hS, decide_eq_false_iff_not] at hb'
  exact hb' (hb.closed a b ha hbN hl)
/-- the way back from what is no farther than R -/
def Way (s : Nat) (left : Nat → Nat → Int) (fr : List Int) (h : List Nat) (rk : Nat → Nat) (R : Nat) : Prop :=
  ∀ c ∈ h, c ≠ s → rk c ≤ R → ∃ p : Nat, fr.getD c 0 = p ∧ p ∈ h ∧ p ≠ c ∧ rk p < rk c ∧ 0 < left p c
theorem BS.way (hb : BS N s left fr h cl) : ∃ rk : Nat → Nat, (∀ c ∈ h, rk c < h.length) ∧ ∀ R, Way s left fr h rk R := by
  obtain ⟨rk, hrk⟩ := hb.par
  exact ⟨rk, fun c hc => (hrk c hc).1, fun R c hc hne _ => (hrk c hc).2 hne⟩
theorem flow_left_le (hf : Flow N s t cap left v) (hc : ∀ a b, cap a b ≤ 1) {a b : Nat} (ha : a < N) (hb : b < N) : 0 ≤ left a b ∧ left a b ≤ 2 := by
  have h1 := hf.anti a b ha hb
  have h2 := hf.pos a b ha hb
  have h3 := hf.pos b a hb ha
  have h4 := hc a b
  have h5 := hc b a
  omega
theorem flowM_left_le {c : Nat} (hf : FlowM N s t c cap left v) (hc : ∀ a b, cap a b ≤ 1) {a b : Nat} (ha : a < N) (hb : b < N) : 0 ≤ left a b ∧ left a b ≤ 2 := by
  have h1 := hf.anti a b ha hb
  have h2 := hf.pos a b ha hb
  have h3 := hf.pos b a hb ha
  have h4 := hc a b
  have h5 := hc b a
  omega
theorem Way.step {rk : Nat → Nat} {c : Nat} (hw : Way s left fr h rk (rk c)) {p : Nat} (hp : rk p < rk c) : Way s (pushed left p c) fr h rk (rk p) := by
  intro d hd hne hle
  obtain ⟨q, h1, h2, h3, h4, h5⟩ := hw d hd hne (by omega)
  refine ⟨q, h1, h2, h3, h4, ?_⟩
  unfold pushed
  rw [if_neg (fun e => by rw [e.2] at hle; omega)]
  split <;> omega
/-- one is the size of the smallest line -/
def Few (n : Nat) (near : Nat → Nat → Bool) (burn src snk : Nat → Bool) (v : Int) : Prop :=
  (∃ C, LineP n near burn src snk C ∧ cntN n C = v) ∧ ∀ C, LineP n near burn src snk C → v ≤ cntN n C
theorem Few.one {n : Nat} {near : Nat → Nat → Bool} {burn src snk : Nat → Bool} {v v' : Int} (h : Few n near burn src snk v) (h' : Few n near burn src snk v') : v = v' := by
  obtain ⟨⟨C, hC, e⟩, hl⟩ := h
  obtain ⟨⟨C', hC', e'⟩, hl'⟩ := h'
  have := hl C' hC'
  have := hl' C hC
  omega
theorem flow_few {n : Nat} {near : Nat → Nat → Bool} {burn src snk : Nat → Bool} {i o dec : Nat → Nat} (hn : Net N n s t i o dec) (hsym : ∀ a b, near a b = near b a) (hdis : ∀ c, c < n → src c = true → snk c = false) (hop : ∀ c d, c < n → d < n → src c = true → burn c = true → snk d = true → burn d = true → near c d = false)
    (hf : Flow N s t (capA n near burn src snk s t i o) left v) {S : Nat → Bool} (hs : S s = true) (ht : S t = false) (hfull : ∀ a b, a < N → b < N → S a = true → S b = false → ¬ 0 < left a b) : Few n near burn src snk v := by
  obtain ⟨C, h1, h2⟩ := flow_line hn hsym hdis hop hf hs ht hfull
  have h3 := flow_le hn hsym hf h1
  exact ⟨⟨C, h1, by omega⟩, fun C' h' => flow_le hn hsym hf h'⟩
end
end Go.Proofs.YtojfbcgfeojdfaaGreat

/-
  Matrices in memory: a slice of rows, each its own array.
-/
namespace Go.Proofs.YtojfbcgfeojdfaaGreat
set_option linter.unusedSimpArgs false
set_option linter.unusedVariables false
open Go.RowKit

structure SlI where
  a : Option Addr
  n : Nat
  c : Nat
def FSl : Fl SlI where
  sz := 1
  enc x := [.slice x.a x.n x.c]
  z := ⟨none, 0, 0⟩
  wf _ := True
  pos := by decide
  len _ := rfl
  one := by
    intro x v hv
    obtain rfl := List.mem_singleton.1 hv
    rfl
theorem Tryz.info24 : (Tryz.prog.info? 24).map (fun i => (i.zero, i.size, i.bytes)) = some (some (.slice none 0 0), 1, 24) := by kernel_rfl
/-- the row of a matrix as a list -/
def rowM (N : Nat) (f : Nat → Int) : List Int := (List.range N).map f
theorem rowM_get {N : Nat} {f : Nat → Int} {j : Nat} (h : j < N) : (rowM N f).getD j 0 = f j := by simp [rowM, List.getD, h]
theorem rowM_set {N : Nat} {f g : Nat → Int} {j : Nat} {v : Int} (h : ∀ k, g k = if k = j then v else f k) : (rowM N f).set j v = rowM N g := by
  apply List.ext_getElem?
  intro k
  rw [List.getElem?_set]
  by_cases hk : k < N
  · by_cases e : j = k
    · subst e; simp [rowM, hk, h]
    · have e2 : ¬ k = j := fun x => e x.symm
      simp [rowM, hk, h, e, e2]
  · by_cases e : j = k
    · subst e; simp [rowM, hk]
    · simp [rowM, hk, e]
structure MatH (E : TypeId) (B : Nat) (w : World) (a : Option Addr) (n c N : Nat) (bs : Nat → Nat) (M : Nat → Nat → Int) : Prop where
  out : Ow FSl E B w a n c ((List.range n).map fun i => (⟨some ⟨bs i, 0, none⟩, N, N⟩ : SlI))
  row : ∀ i, i < n → Own B w (some ⟨bs i, 0, none⟩) N N (rowM N (M i))
  far : ∀ i, i < n → ¬ blockOf a (bs i)
  inj : ∀ i j, i < n → j < n → bs i = bs j → i = j
def matE (E : TypeId) (a : Option Addr) (n c N : Nat) (bs : Nat → Nat) (M : Nat → Nat → Int) : Ent where
  hold B w := MatH E B w a n c N bs M
  blk k := blockOf a k ∨ ∃ i, i < n ∧ k = bs i
  lt := by
    rintro B w h k (hk | ⟨i, hi, rfl⟩)
    · exact ⟨h.out.from k hk, h.out.till k hk⟩
    · exact ⟨(h.row i hi).from _ ⟨_, rfl, rfl⟩, (h.row i hi).till _ ⟨_, rfl, rfl⟩⟩
  mono := fun h hB => ⟨h.out.mono hB, fun i hi => (h.row i hi).mono hB, h.far, h.inj⟩
  keep := by
    rintro B w d w' h hk hd
    refine ⟨h.out.keeps hk (fun k hk => hd k (.inl hk)), fun i hi => (h.row i hi).keeps hk (fun k hk => ?_), h.far, h.inj⟩
    obtain ⟨ad, e, rfl⟩ := hk
    injection e with e
    subst e
    exact hd _ (.inr ⟨i, hi, rfl⟩)
section
variable {E : TypeId} {B : Nat} {w0 w : World} {G G' : List Ent} {a : Option Addr} {n c N : Nat} {bs : Nat → Nat} {M M' : Nat → Nat → Int}
theorem Mem.mat (h : Mem B w0 w G) (i : In G (matE E a n c N bs M)) : MatH E B w a n c N bs M := h.ents _ i.mem
theorem MatH.head (h : MatH E B w a n c N bs M) (hn : 0 < n) : ∃ b, a = some ⟨b, 0, none⟩ ∧ B ≤ b ∧ b < w.heap.size := h.out.head hn
/-- the slice of a row -/
theorem MatH.sl {b : Nat} (h : MatH E B w (some ⟨b, 0, none⟩) n c N bs M) {i : Nat} (hi : i < n) : w.cell? ⟨b, i, none⟩ = some (.slice (some ⟨bs i, 0, none⟩) N N) := by
  have h1 := h.out.cell (i := i) hi (j := 0) (by decide)
  have e : ((List.range n).map fun i => (⟨some ⟨bs i, 0, none⟩, N, N⟩ : SlI)).getD i FSl.z = ⟨some ⟨bs i, 0, none⟩, N, N⟩ := by simp [List.getD, hi]
  rw [e] at h1
  have e2 : i * FSl.sz + 0 = i := by show i * 1 + 0 = i; omega
  rw [e2] at h1
  exact h1
theorem MatH.at (h : MatH E B w a n c N bs M) {i j : Nat} (hi : i < n) (hj : j < N) : w.cell? ⟨bs i, j, none⟩ = some (.int .i64 (M i j)) := by
  have h1 := (h.row i hi).cellAt hj
  rw [rowM_get hj] at h1
  exact h1
theorem MatH.free (h : MatH E B w a n c N bs M) {i : Nat} (hi : i < n) (j : Nat) : w.frozen? ⟨bs i, j, none⟩ = false := (h.row i hi).freeAt j
theorem MatH.lt (h : MatH E B w a n c N bs M) {i : Nat} (hi : i < n) : bs i < w.heap.size := (h.row i hi).till _ ⟨_, rfl, rfl⟩
theorem MatH.ltb {b : Nat} (h : MatH E B w (some ⟨b, 0, none⟩) n c N bs M) : b < w.heap.size := h.out.till _ ⟨_, rfl, rfl⟩
theorem MatH.cap (h : MatH E B w a n c N bs M) : n ≤ c := h.out.rd.cap
/-- a store into a matrix -/
theorem Mem.matSet {i j : Nat} {v : Int} (h : Mem B w0 w G) (p : Put G (matE E a n c N bs M) (matE E a n c N bs M') G') (hi : i < n) (hv : I64 v) (hM : ∀ x y, M' x y = if x = i ∧ y = j then v else M x y) : Mem B w0 (w.setCell ⟨bs i, j, none⟩ (.int .i64 v)) G' := by
  have hm : MatH E B w a n c N bs M := h.ents _ p.mem
  have hk : Keeps (fun k => k = bs i) w (w.setCell ⟨bs i, j, none⟩ (.int .i64 v)) := Keeps.setCell (d := fun k => k = bs i) (Keeps.refl _ _) ⟨bs i, j, none⟩ rfl _
  refine h.put p (Keeps.setCell (Keeps.refl _ _) _ (.inr ⟨i, hi, rfl⟩) _) ⟨hm.out.keeps hk (fun k h1 h2 => hm.far i hi (h2 ▸ h1)), fun x hx => ?_, hm.far, hm.inj⟩ (fun k hk => .inl hk)
  by_cases e : x = i
  · subst e
    have h1 := (hm.row x hx).set j v hv
    rw [rowM_set (g := M' x) (fun k => by rw [hM]; simp)] at h1
    exact h1
  · have h1 := (hm.row x hx).keeps hk (fun k h1 h2 => by
      obtain ⟨ad, e2, rfl⟩ := h1
      injection e2 with e2
      subst e2
      exact e (hm.inj x i hx hi h2))
    have e2 : M' x = M x := funext fun y => by rw [hM, if_neg (fun h => e h.1)]
    rw [e2]
    exact h1
theorem Mem.matTo (h : Mem B w0 w G) (p : Put G (matE E a n c N bs M) (matE E a n c N bs M') G') (hM : ∀ x y, x < n → y < N → M' x y = M x y) : Mem B w0 w G' := by
  have hm : MatH E B w a n c N bs M := h.ents _ p.mem
  refine h.put p (Keeps.refl _ _) ⟨hm.out, fun x hx => ?_, hm.far, hm.inj⟩ (fun k hk => .inl hk)
  have e : rowM N (M' x) = rowM N (M x) := List.map_congr_left (fun y hy => hM x y hx (List.mem_range.1 hy))
  rw [e]
  exact hm.row x hx
/-- rows that were made one by one -/
theorem Mem.toMat {gs : List Nat} (h : Mem B w0 w (owE FSl E a gs.length c (gs.map fun g => (⟨some ⟨g, 0, none⟩, N, N⟩ : SlI)) :: packE (gs.map fun g => intE (some ⟨g, 0, none⟩) N N (rowM N fun _ => 0)) :: G)) : Mem B w0 w (matE E a gs.length c N (fun i => gs.getD i 0) (fun _ _ => 0) :: G) := by
  obtain ⟨a1, a2⟩ := List.pairwise_cons.1 h.apart
  obtain ⟨a3, a4⟩ := List.pairwise_cons.1 a2
  have ho : Ow FSl E B w a gs.length c (gs.map fun g => (⟨some ⟨g, 0, none⟩, N, N⟩ : SlI)) := h.ents _ List.mem_cons_self
  obtain ⟨h1, h2⟩ := h.ents (packE (gs.map fun g => intE (some ⟨g, 0, none⟩) N N (rowM N fun _ => 0))) (by simp)
  have hgm : ∀ i, i < gs.length → gs.getD i 0 ∈ gs := fun i hi => by simp [List.getD, hi]
  have hpk : ∀ g ∈ gs, (packE (gs.map fun g => intE (some ⟨g, 0, none⟩) N N (rowM N fun _ => 0))).blk g := fun g hg => ⟨_, List.mem_map.2 ⟨g, hg, rfl⟩, ⟨_, rfl, rfl⟩⟩
  have e : (List.range gs.length).map (fun i => (⟨some ⟨gs.getD i 0, 0, none⟩, N, N⟩ : SlI)) = gs.map fun g => (⟨some ⟨g, 0, none⟩, N, N⟩ : SlI) := by
    apply List.ext_getElem
    · simp
    · intro k h1 h2
      simp at h1 h2
      simp [List.getD, h2]
  refine ⟨h.below, h.size, fun x hx => ?_, List.pairwise_cons.2 ⟨fun x hx k hk hk' => ?_, a4⟩⟩
  · rcases List.mem_cons.1 hx with rfl | hx
    · refine ⟨by rw [e]; exact ho, fun i hi => ?_, fun i hi hb => ?_, fun i j hi hj hij => ?_⟩
      · exact h1 _ (List.mem_map.2 ⟨_, hgm i hi, rfl⟩)
      · exact a1 (packE _) (by simp) _ hb (hpk _ (hgm i hi))
      · rw [List.pairwise_map] at h2
        have hnd := List.pairwise_iff_getElem.1 h2
        simp only [List.getD, List.getElem?_eq_getElem hi, List.getElem?_eq_getElem hj, Option.getD_some] at hij
        rcases Nat.lt_trichotomy i j with hlt | hlt | hlt
        · exact absurd (show blockOf (some ⟨gs[j], 0, none⟩) gs[i] from ⟨_, rfl, hij⟩) (hnd i j hi hj hlt gs[i] ⟨_, rfl, rfl⟩)
        · exact hlt
        · exact absurd (show blockOf (some ⟨gs[i], 0, none⟩) gs[j] from ⟨_, rfl, hij.symm⟩) (hnd j i hj hi hlt gs[j] ⟨_, rfl, rfl⟩)
    · exact h.ents x (by simp [hx])
  · rcases hk with hk | ⟨i, hi, rfl⟩
    · exact a1 x (by simp [hx]) k hk hk'
    · exact a3 x hx _ (hpk _ (hgm i hi)) hk'
/-- one more row into the pack -/
theorem Mem.packRow {R : List Ent} {e o : Ent} (h : Mem B w0 w (o :: e :: packE R :: G)) : Mem B w0 w (o :: packE (R ++ [e]) :: G) := by
  have h1 : Mem B w0 w ([o, e] ++ (R ++ G)) := Mem.unpackAt [o, e] h
  refine Mem.packAt [o] (h1.perm ?_)
  show (o :: e :: (R ++ G)).Perm (o :: ((R ++ [e]) ++ G))
  refine List.Perm.cons o ?_
  rw [List.append_assoc]
  exact (List.perm_middle (a := e) (l₁ := R) (l₂ := G)).symm
end
end Go.Proofs.YtojfbcgfeojdfaaGreat
