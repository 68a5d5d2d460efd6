/-
  Matrices in memory: a slice of rows, each its own array.
-/
import Derived.Test.YtbgegmignhghnaaLCur
import Derived.Test.YtbgegmignhghnaaLQueue
/-
  Several entries as one, for regions that draw their order; bounds of logs that are drawn.
-/
namespace Go.Proofs.Ytbgegmignhghnaa
set_option linter.unusedSimpArgs false
set_option linter.unusedVariables false
open Go.RowKit

def packE (G : List Ent) : Ent where
  hold B w := (∀ e ∈ G, e.hold B w) ∧ G.Pairwise fun e e' : Ent => ∀ k : Nat, e.blk k → ¬ e'.blk k
  blk k := ∃ e ∈ G, e.blk k
  lt := by
    rintro B w ⟨h1, _⟩ k ⟨e, he, hk⟩
    exact e.lt (h1 e he) k hk
  mono := fun h hB => ⟨fun e he => e.mono (h.1 e he) hB, h.2⟩
  keep := by
    rintro B w d w' ⟨h1, h2⟩ hk hd
    exact ⟨fun e he => e.keep (h1 e he) hk (fun k hk' => hd k ⟨e, he, hk'⟩), h2⟩
section
variable {B : Nat} {w0 w : World} {G X Y : List Ent}
theorem Mem.unpackAt (X : List Ent) (h : Mem B w0 w (X ++ packE G :: Y)) : Mem B w0 w (X ++ (G ++ Y)) := by
  have hp : packE G ∈ X ++ packE G :: Y := by simp
  obtain ⟨h1, h2⟩ := h.ents _ hp
  obtain ⟨a1, a2, a3⟩ := List.pairwise_append.1 h.apart
  obtain ⟨a4, a5⟩ := List.pairwise_cons.1 a2
  refine ⟨h.below, h.size, fun e he => ?_, ?_⟩
  · rcases List.mem_append.1 he with he | he
    · exact h.ents e (by simp [he])
    · rcases List.mem_append.1 he with he | he
      · exact h1 e he
      · exact h.ents e (by simp [he])
  · refine List.pairwise_append.2 ⟨a1, List.pairwise_append.2 ⟨h2, a5, fun e he e' he' k hk hk' => a4 e' he' k ⟨e, he, hk⟩ hk'⟩, fun e he e' he' k hk hk' => ?_⟩
    rcases List.mem_append.1 he' with he' | he'
    · exact a3 e he (packE G) (by simp) k hk ⟨e', he', hk'⟩
    · exact a3 e he e' (by simp [he']) k hk hk'
theorem Mem.packAt (X : List Ent) (h : Mem B w0 w (X ++ (G ++ Y))) : Mem B w0 w (X ++ packE G :: Y) := by
  obtain ⟨a1, a2, a3⟩ := List.pairwise_append.1 h.apart
  obtain ⟨a4, a5, a6⟩ := List.pairwise_append.1 a2
  refine ⟨h.below, h.size, fun e he => ?_, ?_⟩
  · rcases List.mem_append.1 he with he | he
    · exact h.ents e (by simp [he])
    · rcases List.mem_cons.1 he with rfl | he
      · exact ⟨fun e' he' => h.ents e' (by simp [he']), a4⟩
      · exact h.ents e (by simp [he])
  · refine List.pairwise_append.2 ⟨a1, List.pairwise_cons.2 ⟨fun e' he' k hk hk' => ?_, a5⟩, fun e he e' he' k hk hk' => ?_⟩
    · obtain ⟨e, he, hk⟩ := hk
      exact a6 e he e' he' k hk hk'
    · rcases List.mem_cons.1 he' with rfl | he'
      · obtain ⟨e2, he2, hk2⟩ := hk'
        exact a3 e he e2 (by simp [he2]) k hk hk2
      · exact a3 e he e' (by simp [he']) k hk hk'
/-- what stands at the end of a list, in front, as one -/
theorem Mem.packEnd (X : List Ent) (h : Mem B w0 w (X ++ G)) : Mem B w0 w (packE G :: X) := by
  have h1 : Mem B w0 w (G ++ X) := h.perm List.perm_append_comm
  exact Mem.packAt (X := []) h1
theorem Mem.unpackEnd (X : List Ent) (h : Mem B w0 w (packE G :: X)) : Mem B w0 w (X ++ G) := by
  have h1 : Mem B w0 w (G ++ X) := Mem.unpackAt (X := []) h
  exact h1.perm List.perm_append_comm
theorem At.app {e : Ent} {F : Ent → List Ent} (h : At G e F) (X Y : List Ent) : At (X ++ (G ++ Y)) e (fun e' => X ++ (F e' ++ Y)) := by
  obtain ⟨G1, G2, rfl, h2⟩ := h
  exact ⟨X ++ G1, G2 ++ Y, by simp, fun e' => by show X ++ (F e' ++ Y) = _; rw [h2]; simp⟩
end
end Go.Proofs.Ytbgegmignhghnaa

/-
  Matrices in memory: a slice of rows, each its own array.
-/
namespace Go.Proofs.Ytbgegmignhghnaa
set_option linter.unusedSimpArgs false
set_option linter.unusedVariables false
open Go.RowKit

structure SlI where
  a : Option Addr
  n : Nat
  c : Nat
def FSl : Fl SlI where
  sz := 1
  enc x := [.slice x.a x.n x.c]
  z := ⟨none, 0, 0⟩
  wf _ := True
  pos := by decide
  len _ := rfl
  one := by
    intro x v hv
    obtain rfl := List.mem_singleton.1 hv
    rfl
theorem Try.info24 : (Try.prog.info? 24).map (fun i => (i.zero, i.size, i.bytes)) = some (some (.slice none 0 0), 1, 24) := by kernel_rfl
/-- the row of a matrix as a list -/
def rowM (N : Nat) (f : Nat → Int) : List Int := (List.range N).map f
theorem rowM_get {N : Nat} {f : Nat → Int} {j : Nat} (h : j < N) : (rowM N f).getD j 0 = f j := by simp [rowM, List.getD, h]
theorem rowM_set {N : Nat} {f g : Nat → Int} {j : Nat} {v : Int} (h : ∀ k, g k = if k = j then v else f k) : (rowM N f).set j v = rowM N g := by
  apply List.ext_getElem?
  intro k
  rw [List.getElem?_set]
  by_cases hk : k < N
  · by_cases e : j = k
    · subst e; simp [rowM, hk, h]
    · have e2 : ¬ k = j := fun x => e x.symm
      simp [rowM, hk, h, e, e2]
  · by_cases e : j = k
    · subst e; simp [rowM, hk]
    · simp [rowM, hk, e]
structure MatH (E : TypeId) (B : Nat) (w : World) (a : Option Addr) (n c N : Nat) (bs : Nat → Nat) (M : Nat → Nat → Int) : Prop where
  out : Ow FSl E B w a n c ((List.range n).map fun i => (⟨some ⟨bs i, 0, none⟩, N, N⟩ : SlI))
  row : ∀ i, i < n → Own B w (some ⟨bs i, 0, none⟩) N N (rowM N (M i))
  far : ∀ i, i < n → ¬ blockOf a (bs i)
  inj : ∀ i j, i < n → j < n → bs i = bs j → i = j
def matE (E : TypeId) (a : Option Addr) (n c N : Nat) (bs : Nat → Nat) (M : Nat → Nat → Int) : Ent where
  hold B w := MatH E B w a n c N bs M
  blk k := blockOf a k ∨ ∃ i, i < n ∧ k = bs i
  lt := by
    rintro B w h k (hk | ⟨i, hi, rfl⟩)
    · exact ⟨h.out.from k hk, h.out.till k hk⟩
    · exact ⟨(h.row i hi).from _ ⟨_, rfl, rfl⟩, (h.row i hi).till _ ⟨_, rfl, rfl⟩⟩
  mono := fun h hB => ⟨h.out.mono hB, fun i hi => (h.row i hi).mono hB, h.far, h.inj⟩
  keep := by
    rintro B w d w' h hk hd
    refine ⟨h.out.keeps hk (fun k hk => hd k (.inl hk)), fun i hi => (h.row i hi).keeps hk (fun k hk => ?_), h.far, h.inj⟩
    obtain ⟨ad, e, rfl⟩ := hk
    injection e with e
    subst e
    exact hd _ (.inr ⟨i, hi, rfl⟩)
section
variable {E : TypeId} {B : Nat} {w0 w : World} {G G' : List Ent} {a : Option Addr} {n c N : Nat} {bs : Nat → Nat} {M M' : Nat → Nat → Int}
theorem Mem.mat (h : Mem B w0 w G) (i : In G (matE E a n c N bs M)) : MatH E B w a n c N bs M := h.ents _ i.mem
theorem MatH.head (h : MatH E B w a n c N bs M) (hn : 0 < n) : ∃ b, a = some ⟨b, 0, none⟩ ∧ B ≤ b ∧ b < w.heap.size := h.out.head hn
/-- the slice of a row -/
theorem MatH.sl {b : Nat} (h : MatH E B w (some ⟨b, 0, none⟩) n c N bs M) {i : Nat} (hi : i < n) : w.cell? ⟨b, i, none⟩ = some (.slice (some ⟨bs i, 0, none⟩) N N) := by
  have h1 := h.out.cell (i := i) hi (j := 0) (by decide)
  have e : ((List.range n).map fun i => (⟨some ⟨bs i, 0, none⟩, N, N⟩ : SlI)).getD i FSl.z = ⟨some ⟨bs i, 0, none⟩, N, N⟩ := by simp [List.getD, hi]
  rw [e] at h1
  have e2 : i * FSl.sz + 0 = i := by show i * 1 + 0 = i; omega
  rw [e2] at h1
  exact h1
theorem MatH.at (h : MatH E B w a n c N bs M) {i j : Nat} (hi : i < n) (hj : j < N) : w.cell? ⟨bs i, j, none⟩ = some (.int .i64 (M i j)) := by
  have h1 := (h.row i hi).cellAt hj
  rw [rowM_get hj] at h1
  exact h1
theorem MatH.free (h : MatH E B w a n c N bs M) {i : Nat} (hi : i < n) (j : Nat) : w.frozen? ⟨bs i, j, none⟩ = false := (h.row i hi).freeAt j
theorem MatH.lt (h : MatH E B w a n c N bs M) {i : Nat} (hi : i < n) : bs i < w.heap.size := (h.row i hi).till _ ⟨_, rfl, rfl⟩
theorem MatH.ltb {b : Nat} (h : MatH E B w (some ⟨b, 0, none⟩) n c N bs M) : b < w.heap.size := h.out.till _ ⟨_, rfl, rfl⟩
theorem MatH.cap (h : MatH E B w a n c N bs M) : n ≤ c := h.out.rd.cap
/-- a store into a matrix -/
theorem Mem.matSet {i j : Nat} {v : Int} (h : Mem B w0 w G) (p : Put G (matE E a n c N bs M) (matE E a n c N bs M') G') (hi : i < n) (hv : I64 v) (hM : ∀ x y, M' x y = if x = i ∧ y = j then v else M x y) : Mem B w0 (w.setCell ⟨bs i, j, none⟩ (.int .i64 v)) G' := by
  have hm : MatH E B w a n c N bs M := h.ents _ p.mem
  have hk : Keeps (fun k => k = bs i) w (w.setCell ⟨bs i, j, none⟩ (.int .i64 v)) := Keeps.setCell (d := fun k => k = bs i) (Keeps.refl _ _) ⟨bs i, j, none⟩ rfl _
  refine h.put p (Keeps.setCell (Keeps.refl _ _) _ (.inr ⟨i, hi, rfl⟩) _) ⟨hm.out.keeps hk (fun k h1 h2 => hm.far i hi (h2 ▸ h1)), fun x hx => ?_, hm.far, hm.inj⟩ (fun k hk => .inl hk)
  by_cases e : x = i
  · subst e
    have h1 := (hm.row x hx).set j v hv
    rw [rowM_set (g := M' x) (fun k => by rw [hM]; simp)] at h1
    exact h1
  · have h1 := (hm.row x hx).keeps hk (fun k h1 h2 => by
      obtain ⟨ad, e2, rfl⟩ := h1
      injection e2 with e2
      subst e2
      exact e (hm.inj x i hx hi h2))
    have e2 : M' x = M x := funext fun y => by rw [hM, if_neg (fun h => e h.1)]
    rw [e2]
    exact h1
theorem Mem.matTo (h : Mem B w0 w G) (p : Put G (matE E a n c N bs M) (matE E a n c N bs M') G') (hM : ∀ x y, x < n → y < N → M' x y = M x y) : Mem B w0 w G' := by
  have hm : MatH E B w a n c N bs M := h.ents _ p.mem
  refine h.put p (Keeps.refl _ _) ⟨hm.out, fun x hx => ?_, hm.far, hm.inj⟩ (fun k hk => .inl hk)
  have e : rowM N (M' x) = rowM N (M x) := List.map_congr_left (fun y hy => hM x y hx (List.mem_range.1 hy))
  rw [e]
  exact hm.row x hx
/-- rows that were made one by one -/
theorem Mem.toMat {gs : List Nat} (h : Mem B w0 w (owE FSl E a gs.length c (gs.map fun g => (⟨some ⟨g, 0, none⟩, N, N⟩ : SlI)) :: packE (gs.map fun g => intE (some ⟨g, 0, none⟩) N N (rowM N fun _ => 0)) :: G)) : Mem B w0 w (matE E a gs.length c N (fun i => gs.getD i 0) (fun _ _ => 0) :: G) := by
  obtain ⟨a1, a2⟩ := List.pairwise_cons.1 h.apart
  obtain ⟨a3, a4⟩ := List.pairwise_cons.1 a2
  have ho : Ow FSl E B w a gs.length c (gs.map fun g => (⟨some ⟨g, 0, none⟩, N, N⟩ : SlI)) := h.ents _ List.mem_cons_self
  obtain ⟨h1, h2⟩ := h.ents (packE (gs.map fun g => intE (some ⟨g, 0, none⟩) N N (rowM N fun _ => 0))) (by simp)
  have hgm : ∀ i, i < gs.length → gs.getD i 0 ∈ gs := fun i hi => by simp [List.getD, hi]
  have hpk : ∀ g ∈ gs, (packE (gs.map fun g => intE (some ⟨g, 0, none⟩) N N (rowM N fun _ => 0))).blk g := fun g hg => ⟨_, List.mem_map.2 ⟨g, hg, rfl⟩, ⟨_, rfl, rfl⟩⟩
  have e : (List.range gs.length).map (fun i => (⟨some ⟨gs.getD i 0, 0, none⟩, N, N⟩ : SlI)) = gs.map fun g => (⟨some ⟨g, 0, none⟩, N, N⟩ : SlI) := by
    apply List.ext_getElem
    · simp
    · intro k h1 h2
      simp at h1 h2
      simp [List.getD, h2]
  refine ⟨h.below, h.size, fun x hx => ?_, List.pairwise_cons.2 ⟨fun x hx k hk hk' => ?_, a4⟩⟩
  · rcases List.mem_cons.1 hx with rfl | hx
    · refine ⟨by rw [e]; exact ho, fun i hi => ?_, fun i hi hb => ?_, fun i j hi hj hij => ?_⟩
      · exact h1 _ (List.mem_map.2 ⟨_, hgm i hi, rfl⟩)
      · exact a1 (packE _) (by simp) _ hb (hpk _ (hgm i hi))
      · rw [List.pairwise_map] at h2
        have hnd := List.pairwise_iff_getElem.1 h2
        simp only [List.getD, List.getElem?_eq_getElem hi, List.getElem?_eq_getElem hj, Option.getD_some] at hij
        rcases Nat.lt_trichotomy i j with hlt | hlt | hlt
        · exact absurd (show blockOf (some ⟨gs[j], 0, none⟩) gs[i] from ⟨_, rfl, hij⟩) (hnd i j hi hj hlt gs[i] ⟨_, rfl, rfl⟩)
        · exact hlt
        · exact absurd (show blockOf (some ⟨gs[i], 0, none⟩) gs[j] from ⟨_, rfl, hij.symm⟩) (hnd j i hj hi hlt gs[j] ⟨_, rfl, rfl⟩)
    · exact h.ents x (by simp [hx])
  · rcases hk with hk | ⟨i, hi, rfl⟩
    · exact a1 x (by simp [hx]) k hk hk'
    · exact a3 x hx _ (hpk _ (hgm i hi)) hk'
/-- one more row into the pack -/
theorem Mem.packRow {R : List Ent} {e o : Ent} (h : Mem B w0 w (o :: e :: packE R :: G)) : Mem B w0 w (o :: packE (R ++ [e]) :: G) := by
  have h1 : Mem B w0 w ([o, e] ++ (R ++ G)) := Mem.unpackAt [o, e] h
  refine Mem.packAt [o] (h1.perm ?_)
  show (o :: e :: (R ++ G)).Perm (o :: ((R ++ [e]) ++ G))
  refine List.Perm.cons o ?_
  rw [List.append_assoc]
  exact (List.perm_middle (a := e) (l₁ := R) (l₂ := G)).symm
end
end Go.Proofs.Ytbgegmignhghnaa
