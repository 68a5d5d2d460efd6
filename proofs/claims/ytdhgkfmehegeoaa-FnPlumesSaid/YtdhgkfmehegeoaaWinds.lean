import Derived.Test.YtdhgkfmehegeoaaBlow5
namespace Go.Proofs.Ytdhgkfmehegeoaa
set_option linter.unusedSimpArgs false
set_option linter.unusedVariables false
open Go.RowKit

structure WindI where
  e : Int
  s : Int
  q : Int
instance : DecidableEq WindI := fun a b => decidable_of_iff (a.e = b.e ∧ a.s = b.s ∧ a.q = b.q) (by cases a; cases b; simp [and_assoc])
instance : Inhabited WindI := ⟨⟨0, 0, 0⟩⟩
def WindI.ok (v : WindI) : Bool := windB v.e v.s v.q
def zW : WindI := ⟨0, 0, 0⟩

/-- the slice value (a, n, c) reads as the winds ws -/
structure Winds (w : World) (a : Option Addr) (n c : Nat) (ws : List WindI) : Prop where
  len : ws.length = n
  cap : n ≤ c
  capm : c ≤ maxLen
  nil : a = none → c = 0
  room : n ≤ 17592186044416
  wf : ∀ v ∈ ws, I64 v.e ∧ I64 v.s ∧ I64 v.q
  at' : ∀ k, k < n → ∃ b off, a = some ⟨b, off, none⟩ ∧ b < w.heap.size ∧ ∀ i, i < n → w.cell? ⟨b, off + i * 3, none⟩ = some (.int .i64 (ws.getD i zW).e) ∧ w.cell? ⟨b, off + i * 3 + 1, none⟩ = some (.int .i64 (ws.getD i zW).s) ∧ w.cell? ⟨b, off + i * 3 + 2, none⟩ = some (.int .i64 (ws.getD i zW).q)

theorem Winds.below {w w' : World} {a : Option Addr} {n c : Nat} {ws : List WindI} (h : Winds w a n c ws) (hb : Below w.heap.size w w') : Winds w' a n c ws :=
  ⟨h.len, h.cap, h.capm, h.nil, h.room, h.wf, fun k hk => by
    obtain ⟨b, off, ha, hlt, hc⟩ := h.at' k hk
    refine ⟨b, off, ha, Nat.lt_of_lt_of_le hlt hb.size, fun i hi => ?_⟩
    rw [hb.cell (p := ⟨b, off + i * 3, none⟩) hlt, hb.cell (p := ⟨b, off + i * 3 + 1, none⟩) hlt, hb.cell (p := ⟨b, off + i * 3 + 2, none⟩) hlt]
    exact hc i hi⟩
theorem Winds.alloc {w : World} {a : Option Addr} {n c : Nat} {ws : List WindI} (h : Winds w a n c ws) (ob : Obj) : Winds (w.alloc ob) a n c ws := h.below ((Below.refl _ _).alloc (Nat.le_refl _) ob)

set_option maxRecDepth 100000 in
set_option maxHeartbeats 400000 in
theorem indexWind_any (f : FuncId) (caps : Array Value) (p : WindI → Bool) (a : Option Addr) (n c : Nat) (ws : List WindI) (w : World) (h : Winds w a n c ws) (hcf : ∀ args w, (callFunc f args).run Try.prog w = .ok (.enter f args) w)
    (hf : ∀ v ∈ ws, ∀ w', Below w.heap.size w w' → Calls Try.prog f (#[.agg #[.int .i64 v.e, .int .i64 v.s, .int .i64 v.q]] ++ caps) w' fun o w'' => o = .returned (.bool (p v)) ∧ Below w'.heap.size w' w'') :
    Calls Try.prog 117 #[.slice a n c, .func (.func f) #[] caps] w fun o w' => (∃ i : Int, o = .returned (.int .i64 i) ∧ decide (0 ≤ i) = ws.any p) ∧ Below w.heap.size w w' := by
  have hn := h.cap
  have hc := h.room
  have HL := Lib.hid h.len
  have HF := Lib.hid hf
  clear hf
  go_enter Try.func117, Try.ntmps117
  go_wp2
  go_loopw [8] (fun i wr => ∃ k : Nat, k ≤ n ∧ i = .int .i64 k ∧ (ws.take k).any p = false ∧ Below w.heap.size w wr) (fun i _ => n - (intOf i).toNat)
  case atStart => exact ⟨0, Nat.zero_le _, rfl, by simp, Below.refl _ _⟩
  case round =>
    obtain ⟨k, hk, rfl, hall, hbr⟩ := hrel
    have HA := Lib.hid hall; clear hall
    by_cases hlt : k < n
    · obtain ⟨b, off, rfl, hb, hcell⟩ := (h.below hbr).at' _ hlt
      obtain ⟨c0, c1, c2⟩ := hcell k hlt
      clear hcell
      have hkl : k < ws.length := by rw [HL.out]; exact hlt
      have hmem : ws.getD k zW ∈ ws := by rw [List.getD_eq_getElem?_getD, List.getElem?_eq_getElem hkl]; exact List.getElem_mem _
      have htk : ws.take (k + 1) = ws.take k ++ [ws.getD k zW] := by rw [List.take_add_one, List.getD_eq_getElem?_getD, List.getElem?_eq_getElem hkl]; rfl
      obtain ⟨v, hv⟩ : ∃ v, ws.getD k zW = v := ⟨_, rfl⟩
      rw [hv] at c0 c1 c2 hmem htk
      have HT := Lib.hid htk
      clear hv htk hkl
      go_wp2_with fail
      refine (HF.out v hmem _ hbr).mono ?_
      rintro o w1 ⟨rfl, hb1⟩
      have hb2 : Below w.heap.size w w1 := hbr.trans (hb1.mono hbr.size)
      cases hp : p v
      · go_wp2
        go_roundw
        case rel => exact ⟨k + 1, by omega, by go_num, by rw [HT.out, List.any_append, HA.out]; simp [hp], hb2⟩
        case measure => simp [intOf]; omega
      · go_wp2
        go_ret
        exact ⟨⟨k, rfl, by rw [List.any_eq_true.2 ⟨v, hmem, hp⟩]; simp⟩, hb2⟩
    · go_wp2
      go_ret
      obtain rfl : k = n := by omega
      have hA := HA.out
      rw [List.take_of_length_le (by rw [HL.out]; exact Nat.le_refl _)] at hA
      exact ⟨⟨-1, rfl, by rw [hA]; rfl⟩, hbr⟩

set_option maxRecDepth 100000 in
set_option maxHeartbeats 400000 in
theorem containsWind_any (f : FuncId) (caps : Array Value) (p : WindI → Bool) (a : Option Addr) (n c : Nat) (ws : List WindI) (w : World) (h : Winds w a n c ws) (hcf : ∀ args w, (callFunc f args).run Try.prog w = .ok (.enter f args) w)
    (hf : ∀ v ∈ ws, ∀ w', Below w.heap.size w w' → Calls Try.prog f (#[.agg #[.int .i64 v.e, .int .i64 v.s, .int .i64 v.q]] ++ caps) w' fun o w'' => o = .returned (.bool (p v)) ∧ Below w'.heap.size w' w'') :
    Calls Try.prog 103 #[.slice a n c, .func (.func f) #[] caps] w fun o w' => o = .returned (.bool (ws.any p)) ∧ Below w.heap.size w w' := by
  have HF := Lib.hid hf
  clear hf
  go_enter Try.func103, Try.ntmps103
  go_wp2_with fail
  refine (indexWind_any f caps p a n c ws _ h hcf HF.out).mono ?_
  rintro o w1 ⟨⟨i, rfl, hi⟩, hb1⟩
  cases hp : ws.any p
  all_goals
    have hd : decide (0 ≤ i) = _ := hi.trans hp
    clear hi
    go_wp2
    go_ret
    exact ⟨rb hp.symm, hb1⟩

set_option maxRecDepth 100000 in
set_option maxHeartbeats 400000 in
theorem allW1_any (f : FuncId) (y : Bool) (v : WindI) (b : Nat) (w : World) (hlt : b < w.heap.size) (hc : w.cell? ⟨b, 0, none⟩ = some (.func (.func f) #[] #[])) (hcf : ∀ args w, (callFunc f args).run Try.prog w = .ok (.enter f args) w)
    (hf : ∀ w', Below w.heap.size w w' → Calls Try.prog f #[.agg #[.int .i64 v.e, .int .i64 v.s, .int .i64 v.q]] w' fun o w'' => o = .returned (.bool y) ∧ Below w'.heap.size w' w'') :
    Calls Try.prog 104 #[.agg #[.int .i64 v.e, .int .i64 v.s, .int .i64 v.q], .pointer (some ⟨b, 0, none⟩)] w fun o w' => o = .returned (.bool (!y)) ∧ Below w.heap.size w w' := by
  have HF := Lib.hid hf
  clear hf
  go_enter Try.func104, Try.ntmps104
  go_wp2_with fail
  refine (HF.out _ (by (repeat' (first | exact Below.refl _ _ | with_reducible refine Below.setCell ?_ (by first | omega | (simp; done) | (simp; omega)) _ | with_reducible refine Below.alloc ?_ (by first | omega | (simp; done) | (simp; omega)) _ | with_reducible refine Below.drew ?_ | with_reducible refine bdrewN ?_ _)))).mono ?_
  rintro o w1 ⟨rfl, hb1⟩
  cases y
  all_goals
    go_wp2
    go_ret
    exact ⟨rfl, by (repeat' (first | exact Below.refl _ _ | with_reducible refine Below.setCell ?_ (by first | omega | (simp; done) | (simp; omega)) _ | with_reducible refine Below.alloc ?_ (by first | omega | (simp; done) | (simp; omega)) _ | with_reducible refine Below.drew ?_ | with_reducible refine bdrewN ?_ _ | with_reducible refine Below.trans ?_ (Below.mono hb1 (by first | omega | (simp; done) | (simp; omega)))))⟩

set_option maxRecDepth 100000 in
set_option maxHeartbeats 400000 in
theorem allWind_any (f : FuncId) (p : WindI → Bool) (a : Option Addr) (n c : Nat) (ws : List WindI) (w : World) (h : Winds w a n c ws) (hcf : ∀ args w, (callFunc f args).run Try.prog w = .ok (.enter f args) w)
    (hf : ∀ v w', Calls Try.prog f #[.agg #[.int .i64 v.e, .int .i64 v.s, .int .i64 v.q]] w' fun o w'' => o = .returned (.bool (p v)) ∧ Below w'.heap.size w' w'') :
    Calls Try.prog 64 #[.slice a n c, .func (.func f) #[] #[]] w fun o w' => o = .returned (.bool (ws.all p)) ∧ Below w.heap.size w w' := by
  have HF := Lib.hid hf
  clear hf
  have hA : ∀ v ∈ ws, ∀ w', Below (w.alloc (.cells #[.func (.func f) #[] #[]] 84)).heap.size (w.alloc (.cells #[.func (.func f) #[] #[]] 84)) w' → Calls Try.prog 104 (#[.agg #[.int .i64 v.e, .int .i64 v.s, .int .i64 v.q]] ++ #[.pointer (some ⟨w.heap.size, 0, none⟩)]) w' fun o w'' => o = .returned (.bool (!p v)) ∧ Below w'.heap.size w' w'' := by
    intro v hv w' hb
    exact allW1_any f (p v) v w.heap.size w' (by have := hb.size; simp at this; omega) (by
      have := hb.cell (p := ⟨w.heap.size, 0, none⟩) (by simp)
      rw [this]; exact newRow w _ rfl _ _ 0) hcf (fun w'' _ => HF.out v w'')
  have HA := Lib.hid hA
  clear hA
  have HN : Hid ((ws.any fun v => !p v) = !ws.all p) := by
    show _ = _
    clear HF HA h
    induction ws with
    | nil => rfl
    | cons v r ih => simp only [List.any_cons, List.all_cons, ih]; cases p v <;> simp
  have hmf : ∀ (fn : Fn) (first cap : Array Value) (w : World), (Instr.makeFunc fn first cap).run Try.prog w = .ok (.func fn first cap) w := fun _ _ _ _ => rfl
  go_enter Try.func64, Try.ntmps64
  go_wp2_with fail
  refine (containsWind_any _ _ _ a n c ws _ (h.alloc _) (enters Try.func104 (by kernel_rfl) rfl) HA.out).mono ?_
  rintro o w1 ⟨rfl, hb1⟩
  rw [HN.out]
  cases hp : ws.all p
  all_goals
    go_wp2
    go_ret
    exact ⟨rb hp.symm, ((Below.refl _ _).alloc (Nat.le_refl _) _).trans (hb1.mono (by simp))⟩

end Go.Proofs.Ytdhgkfmehegeoaa
