/- Lemmas. -/
import Derived.Test.YtojfbcgfeojdfaaGreatCFlPhase
import Derived.Test.YtojfbcgfeojdfaaGreatCPack
import Derived.Test.YtojfbcgfeojdfaaGreatCQueue
/-
  Records that hold a slice: scenarios. Read, owned; the laws' sz, to, eq over slices of them.
-/
namespace Go.Proofs.YtojfbcgfeojdfaaGreat
set_option linter.unusedSimpArgs false
set_option linter.unusedVariables false
open Go.RowKit

/-- records with inner slices: one entry for the outer slice and the inner ones -/
def nestE {α : Type} (F : Fl α) (E : TypeId) (inner : α → Ent) (a : Option Addr) (n c : Nat) (xs : List α) : Ent := packE (owE F E a n c xs :: xs.map inner)
section
variable {α : Type} {F : Fl α} {E : TypeId} {inner : α → Ent} {B : Nat} {w0 w : World} {G : List Ent} {a : Option Addr} {n c : Nat} {xs : List α}
theorem Mem.nestOpen (h : Mem B w0 w (nestE F E inner a n c xs :: G)) : Mem B w0 w (owE F E a n c xs :: (xs.map inner ++ G)) := Mem.unpackAt (X := []) h
theorem Mem.nestClose (h : Mem B w0 w (owE F E a n c xs :: (xs.map inner ++ G))) : Mem B w0 w (nestE F E inner a n c xs :: G) := Mem.packAt (X := []) (G := owE F E a n c xs :: xs.map inner) h
theorem Mem.nestOw (h : Mem B w0 w G) (i : In G (nestE F E inner a n c xs)) : Ow F E B w a n c xs := (h.ents _ i.mem).1 _ (List.mem_cons_self ..)
theorem Mem.nestIn (h : Mem B w0 w G) (i : In G (nestE F E inner a n c xs)) {x : α} (hx : x ∈ xs) : (inner x).hold B w := (h.ents _ i.mem).1 _ (List.mem_cons_of_mem _ (List.mem_map_of_mem hx))
/-- a record put in place of another one, its slice an entry -/
theorem Mem.nestPut {w' : World} {g k : Nat} {y : α} (h : Mem B w0 w (inner y :: nestE F E inner (some ⟨g, 0, none⟩) n c xs :: G)) (hk : k < n) (hw : F.wf y) (hs : w' = setRec w g (k * F.sz) (F.enc y)) : Mem B w0 w' (nestE F E inner (some ⟨g, 0, none⟩) n c (xs.set k y) :: G) := by
  subst hs
  have h1 : Mem B w0 w (owE F E (some ⟨g, 0, none⟩) n c xs :: (inner y :: (xs.map inner ++ G))) := (h.swap.nestOpen).perm (List.Perm.cons _ (List.perm_middle))
  have h2 : Mem B w0 (setRec w g (k * F.sz) (F.enc y)) (owE F E (some ⟨g, 0, none⟩) n c (xs.set k y) :: (inner y :: (xs.map inner ++ G))) :=
    h1.put .here (setRec_keeps (d := blockOf (some ⟨g, 0, none⟩)) g ⟨_, rfl, rfl⟩ (F.enc y) (k * F.sz) w) ((h1.ow .here).putRec hk y hw) (fun k hk => .inl hk)
  refine Mem.nestClose ?_
  have hkx : k < xs.length := by rw [(h1.ow .here).len]; exact hk
  have e1 : xs.map inner = (xs.take k).map inner ++ inner (xs[k]) :: (xs.drop (k + 1)).map inner := by
    rw [← List.map_cons, ← List.map_append, List.getElem_cons_drop, List.take_append_drop]
  have e2 : (xs.set k y).map inner = (xs.take k).map inner ++ inner y :: (xs.drop (k + 1)).map inner := by
    rw [List.set_eq_take_append_cons_drop, if_pos hkx, List.map_append, List.map_cons]
  rw [e1] at h2
  rw [e2]
  have h3 : Mem B w0 (setRec w g (k * F.sz) (F.enc y)) (owE F E (some ⟨g, 0, none⟩) n c (xs.set k y) :: ((xs.take k).map inner ++ (inner y :: (inner xs[k] :: ((xs.drop (k + 1)).map inner ++ G))))) :=
    h2.perm (List.Perm.cons _ (by rw [List.append_assoc]; exact List.perm_middle.symm))
  refine h3.sub (List.Sublist.cons_cons _ ?_)
  rw [List.append_assoc]
  exact List.Sublist.append (List.Sublist.refl _) (List.Sublist.cons_cons _ (List.Sublist.cons _ (List.Sublist.refl _)))
end

structure ScenarioI where
  ad : Option Addr
  n : Nat
  c : Nat
  ph : List PhaseI
  wt : Int
def ScenarioI.zero : ScenarioI := ⟨none, 0, 0, [], 0⟩
/-- what a scenario says -/
def ScenarioI.core (x : ScenarioI) : List PhaseI × Int := (x.ph, x.wt)
def FScenario : Fl ScenarioI where
  sz := 2
  enc x := [.slice x.ad x.n x.c, .int .i64 x.wt]
  z := ScenarioI.zero
  wf x := I64 x.wt
  pos := by decide
  len _ := rfl
  one := by intro x v hv; simp at hv; rcases hv with rfl | rfl <;> rfl
abbrev ScenarioI.val (x : ScenarioI) : Value := .agg #[.slice x.ad x.n x.c, .int .i64 x.wt]
theorem Rd.cellScenario {w : World} {b off n c : Nat} {xs : List ScenarioI} (h : Rd FScenario w (some ⟨b, off, none⟩) n c xs) {k : Nat} (hk : k < n) : b < w.heap.size ∧ w.cell? ⟨b, off + k * 2, none⟩ = some (.slice (xs.getD k ScenarioI.zero).ad (xs.getD k ScenarioI.zero).n (xs.getD k ScenarioI.zero).c) ∧ w.cell? ⟨b, off + k * 2 + 1, none⟩ = some (.int .i64 (xs.getD k ScenarioI.zero).wt) := by
  obtain ⟨b', off', e, hl, hc⟩ := h.at' k hk
  simp only [Option.some.injEq, Addr.mk.injEq] at e
  obtain ⟨rfl, rfl, _⟩ := e
  exact ⟨hl, by rw [show off + k * 2 = off + (k * FScenario.sz + 0) by show _ = off + (k * 2 + 0); omega]; exact hc k hk 0 (by decide), by rw [show off + k * 2 + 1 = off + (k * FScenario.sz + 1) by show _ = off + (k * 2 + 1); omega]; exact hc k hk 1 (by decide)⟩
theorem Ow.cellScenario {E : TypeId} {B : Nat} {w : World} {g n c : Nat} {xs : List ScenarioI} (h : Ow FScenario E B w (some ⟨g, 0, none⟩) n c xs) {k : Nat} (hk : k < n) : w.cell? ⟨g, k * 2, none⟩ = some (.slice (xs.getD k ScenarioI.zero).ad (xs.getD k ScenarioI.zero).n (xs.getD k ScenarioI.zero).c) ∧ w.cell? ⟨g, k * 2 + 1, none⟩ = some (.int .i64 (xs.getD k ScenarioI.zero).wt) :=
  ⟨h.cell hk (j := 0) (by decide), h.cell hk (j := 1) (by decide)⟩
/-- scenarios that are read: the slice, and their phases -/
structure RdS (w : World) (a : Option Addr) (n c : Nat) (xs : List ScenarioI) : Prop where
  rd : Rd FScenario w a n c xs
  ph : ∀ x ∈ xs, Rd FPhase w x.ad x.n x.c x.ph
theorem RdS.ext {w w' : World} {a : Option Addr} {n c : Nat} {xs : List ScenarioI} (h : RdS w a n c xs) (hb : Below w.heap.size w w') : RdS w' a n c xs := ⟨h.rd.ext hb, fun x hx => (h.ph x hx).ext hb⟩
abbrev scenIn (x : ScenarioI) : Ent := owE FPhase 128 x.ad x.n x.c x.ph
abbrev scenE (a : Option Addr) (n c : Nat) (xs : List ScenarioI) : Ent := nestE FScenario 49 scenIn a n c xs
theorem Mem.scens {B : Nat} {w0 w : World} {G : List Ent} {a : Option Addr} {n c : Nat} {xs : List ScenarioI} (h : Mem B w0 w G) (i : In G (scenE a n c xs)) : RdS w a n c xs :=
  ⟨(h.nestOw i).rd, fun _ hx => Ow.rd (h.nestIn i hx)⟩
theorem core_eq {xs ys : List ScenarioI} (h : xs.map ScenarioI.core = ys.map ScenarioI.core) : xs.length = ys.length ∧ ∀ k, k < xs.length → (xs.getD k ScenarioI.zero).core = (ys.getD k ScenarioI.zero).core := by
  have hl : xs.length = ys.length := by simpa using congrArg List.length h
  refine ⟨hl, fun k hk => ?_⟩
  have := congrArg (·[k]?) h
  simp only [List.getElem?_map] at this
  rw [List.getElem?_eq_getElem hk, List.getElem?_eq_getElem (by omega)] at this
  simpa [List.getD, hk, show k < ys.length by omega] using this
end Go.Proofs.YtojfbcgfeojdfaaGreat

namespace Go.Proofs.YtojfbcgfeojdfaaGreat
set_option linter.unusedSimpArgs false
set_option linter.unusedVariables false
open Go.RowKit

/-- what a function value answers on the records of a list -/
def AnswersScenario (f : FuncId) (caps : Array Value) (p : ScenarioI → Bool) (xs : List ScenarioI) (w : World) : Prop :=
  ∀ v ∈ xs, ∀ w', Below w.heap.size w w' → Calls Tryz.prog f (#[v.val] ++ caps) w' fun o w'' => o = .returned (.bool (p v)) ∧ Below w'.heap.size w' w''
theorem AnswersScenario.ext {f : FuncId} {caps : Array Value} {p : ScenarioI → Bool} {xs : List ScenarioI} {w w1 : World} (h : AnswersScenario f caps p xs w) (hb : Below w.heap.size w w1) : AnswersScenario f caps p xs w1 :=
  fun v hv w' hb' => h v hv w' (hb.trans (hb'.mono hb.size))

set_option maxRecDepth 100000 in
set_option maxHeartbeats 400000 in
theorem indexScenario_any (f : FuncId) (caps : Array Value) (p : ScenarioI → Bool) (a : Option Addr) (n c : Nat) (xs : List ScenarioI) (w : World) (h : Rd FScenario w a n c xs) (hcf : ∀ args w, (callFunc f args).run Tryz.prog w = .ok (.enter f args) w) (hf : AnswersScenario f caps p xs w) :
    Calls Tryz.prog 164 #[.slice a n c, .func (.func f) #[] caps] w fun o w' => o = .returned (.int .i64 (idxR p xs)) ∧ Below w.heap.size w w' := by
  have hn := h.cap
  have hc := h.nroom
  have HL := Lib.hid h.len
  have HF := Lib.hid hf
  clear hf
  go_enter Tryz.func164, Tryz.ntmps164
  go_wp2
  go_loopw [8] (fun i wr => ∃ k : Nat, k ≤ n ∧ i = .int .i64 k ∧ (xs.take k).any p = false ∧ Below w.heap.size w wr) (fun i _ => n - (intOf i).toNat)
  case atStart => exact ⟨0, Nat.zero_le _, rfl, by simp, Below.refl _ _⟩
  case round =>
    obtain ⟨k, hk, rfl, hall, hbr⟩ := hrel
    have HA := Lib.hid hall; clear hall
    by_cases hlt : k < n
    · obtain ⟨b, off, rfl, _⟩ := (h.ext hbr).at' _ hlt
      obtain ⟨hb, hc0, hc1⟩ := (h.ext hbr).cellScenario hlt
      have hkl : k < xs.length := by rw [HL.out]; exact hlt
      have hmem : xs.getD k ScenarioI.zero ∈ xs := by rw [List.getD_eq_getElem?_getD, List.getElem?_eq_getElem hkl]; exact List.getElem_mem _
      have htk : xs.take (k + 1) = xs.take k ++ [xs.getD k ScenarioI.zero] := take_succV hkl
      have hfi : ((xs.take k).any p = false → p (xs.getD k ScenarioI.zero) = true → xs.findIdx p = k) := by
        intro h1 h2
        have hx : xs[k] = xs.getD k ScenarioI.zero := by simp [List.getD, hkl]
        rw [List.findIdx_eq hkl]
        refine ⟨by rw [hx]; exact h2, fun j hj => ?_⟩
        rw [List.any_eq_false] at h1
        have := h1 (xs[j]'(by omega)) (by
          rw [List.mem_take_iff_getElem]
          exact ⟨j, by omega, rfl⟩)
        simpa using this
      have hfi2 := hfi HA.out
      clear hfi
      obtain ⟨v, hv⟩ : ∃ v, xs.getD k ScenarioI.zero = v := ⟨_, rfl⟩
      rw [hv] at hc0 hc1 hmem htk hfi2
      have HT := Lib.hid htk
      have HFI := Lib.hid hfi2
      clear hv htk hkl hfi2
      go_wp2_with fail
      refine (HF.out v hmem _ hbr).mono ?_
      rintro o w1 ⟨rfl, hb1⟩
      have hb2 : Below w.heap.size w w1 := hbr.trans (hb1.mono hbr.size)
      cases hp : p v
      · go_wp2
        go_roundw
        case rel => exact ⟨k + 1, by omega, by go_num, by rw [HT.out, List.any_append, HA.out]; simp [hp], hb2⟩
        case measure => simp [intOf]; omega
      · go_wp2
        go_ret
        exact ⟨ri (by rw [idxR_pos (List.any_eq_true.2 ⟨v, hmem, hp⟩), HFI.out hp]), hb2⟩
    · go_wp2
      go_ret
      obtain rfl : k = n := by omega
      have hA := HA.out
      rw [List.take_of_length_le (by rw [HL.out]; exact Nat.le_refl _)] at hA
      exact ⟨ri (by rw [idxR_neg hA]), hbr⟩

set_option maxRecDepth 100000 in
set_option maxHeartbeats 400000 in
theorem containsScenario_any (f : FuncId) (caps : Array Value) (p : ScenarioI → Bool) (a : Option Addr) (n c : Nat) (xs : List ScenarioI) (w : World) (h : Rd FScenario w a n c xs) (hcf : ∀ args w, (callFunc f args).run Tryz.prog w = .ok (.enter f args) w) (hf : AnswersScenario f caps p xs w) :
    Calls Tryz.prog 155 #[.slice a n c, .func (.func f) #[] caps] w fun o w' => o = .returned (.bool (xs.any p)) ∧ Below w.heap.size w w' := by
  have HF := Lib.hid hf
  clear hf
  go_enter Tryz.func155, Tryz.ntmps155
  go_wp2_with fail
  refine (indexScenario_any f caps p a n c xs _ h hcf HF.out).mono ?_
  obtain ⟨i, hi, hi2⟩ : ∃ i : Int, idxR p xs = i ∧ decide (0 ≤ i) = xs.any p := ⟨_, rfl, idxR_sign p xs⟩
  rw [hi]
  clear hi
  rintro o w1 ⟨rfl, hb1⟩
  cases hp : xs.any p
  all_goals
    have hd : decide (0 ≤ i) = _ := hi2.trans hp
    clear hi2
    go_wp2
    go_ret
    exact ⟨rb hp.symm, hb1⟩

set_option maxRecDepth 100000 in
set_option maxHeartbeats 400000 in
theorem allScenario1_any (f : FuncId) (caps : Array Value) (y : Bool) (v : ScenarioI) (b : Nat) (w : World) (hlt : b < w.heap.size) (hc : w.cell? ⟨b, 0, none⟩ = some (.func (.func f) #[] caps)) (hcf : ∀ args w, (callFunc f args).run Tryz.prog w = .ok (.enter f args) w)
    (hf : ∀ w', Below w.heap.size w w' → Calls Tryz.prog f (#[v.val] ++ caps) w' fun o w'' => o = .returned (.bool y) ∧ Below w'.heap.size w' w'') :
    Calls Tryz.prog 156 #[v.val, .pointer (some ⟨b, 0, none⟩)] w fun o w' => o = .returned (.bool (!y)) ∧ Below w.heap.size w w' := by
  have HF := Lib.hid hf
  clear hf
  go_enter Tryz.func156, Tryz.ntmps156
  go_wp2_with fail
  refine (HF.out _ (by (repeat' (first | exact Below.refl _ _ | with_reducible refine Below.setCell ?_ (by first | omega | (simp; done) | (simp; omega)) _ | with_reducible refine Below.alloc ?_ (by first | omega | (simp; done) | (simp; omega)) _ | with_reducible refine Below.drew ?_ | with_reducible refine bdrewN ?_ _)))).mono ?_
  rintro o w1 ⟨rfl, hb1⟩
  cases y
  all_goals
    go_wp2
    go_ret
    exact ⟨rfl, by (repeat' (first | exact Below.refl _ _ | with_reducible refine Below.setCell ?_ (by first | omega | (simp; done) | (simp; omega)) _ | with_reducible refine Below.alloc ?_ (by first | omega | (simp; done) | (simp; omega)) _ | with_reducible refine Below.drew ?_ | with_reducible refine bdrewN ?_ _ | with_reducible refine Below.trans ?_ (Below.mono hb1 (by first | omega | (simp; done) | (simp; omega)))))⟩

set_option maxRecDepth 100000 in
set_option maxHeartbeats 400000 in
theorem allScenario_any (f : FuncId) (caps : Array Value) (p : ScenarioI → Bool) (a : Option Addr) (n c : Nat) (xs : List ScenarioI) (w : World) (h : Rd FScenario w a n c xs) (hcf : ∀ args w, (callFunc f args).run Tryz.prog w = .ok (.enter f args) w) (hf : AnswersScenario f caps p xs w) :
    Calls Tryz.prog 137 #[.slice a n c, .func (.func f) #[] caps] w fun o w' => o = .returned (.bool (xs.all p)) ∧ Below w.heap.size w w' := by
  have HF := Lib.hid hf
  clear hf
  have hA : AnswersScenario 156 #[.pointer (some ⟨w.heap.size, 0, none⟩)] (fun v => !p v) xs (w.alloc (.cells #[.func (.func f) #[] caps] 91)) := by
    intro v hv w' hb
    exact allScenario1_any f caps (p v) v w.heap.size w' (by have := hb.size; simp at this; omega) (by
      have := hb.cell (p := ⟨w.heap.size, 0, none⟩) (by simp)
      rw [this]; exact newRow w _ rfl _ _ 0) hcf (fun w'' hb2 => HF.out v hv w'' (by
        have h1 : Below w.heap.size w w' := Below.trans ((Below.refl _ _).alloc (Nat.le_refl _) _) (hb.mono (by simp))
        exact h1.trans (hb2.mono h1.size)))
  have HA := Lib.hid hA
  clear hA
  have HN : Hid ((xs.any fun v => !p v) = !xs.all p) := by
    show _ = _
    clear HF HA h
    induction xs with
    | nil => rfl
    | cons v r ih => simp only [List.any_cons, List.all_cons, ih]; cases p v <;> simp
  have hmf : ∀ (fn : Fn) (first cap : Array Value) (w : World), (Instr.makeFunc fn first cap).run Tryz.prog w = .ok (.func fn first cap) w := fun _ _ _ _ => rfl
  go_enter Tryz.func137, Tryz.ntmps137
  go_wp2_with fail
  refine (containsScenario_any _ _ _ a n c xs _ (h.ext ((Below.refl _ _).alloc (Nat.le_refl _) _)) (enters Tryz.func156 (by kernel_rfl) rfl) HA.out).mono ?_
  rintro o w1 ⟨rfl, hb1⟩
  rw [HN.out]
  cases hp : xs.all p
  all_goals
    go_wp2
    go_ret
    exact ⟨rb hp.symm, ((Below.refl _ _).alloc (Nat.le_refl _) _).trans (hb1.mono (by simp))⟩
end Go.Proofs.YtojfbcgfeojdfaaGreat
