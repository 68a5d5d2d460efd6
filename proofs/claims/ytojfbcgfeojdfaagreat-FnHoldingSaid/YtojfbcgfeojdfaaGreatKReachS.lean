/-
  spec.l2Reach.
-/
import Derived.Test.YtojfbcgfeojdfaaGreatKNear4
import Derived.Test.YtojfbcgfeojdfaaGreatKPutV
import Derived.Deep.LoopGhost
import Derived.Test.YtojfbcgfeojdfaaGreatKFlood
import Derived.Deep.DeepCutAuto
/-
  spec.l1Put of a number that is not there; spec.l2Reach.
-/
namespace Go.Proofs.YtojfbcgfeojdfaaGreat
set_option linter.unusedSimpArgs false
set_option linter.unusedVariables false
open Go.RowKit

set_option maxRecDepth 100000 in
set_option maxHeartbeats 4000000 in
theorem l1Put_any (g off n c : Nat) (xs : List Int) (x : Int) (w : World) (h : Ints w (some ⟨g, off, none⟩) n c xs) (hx : x ∉ xs) (hxi : I64 x) (hn : n ≤ 1000) :
    Calls Tryz.prog 112 #[.slice (some ⟨g, off, none⟩) n c, .int .i64 x] w fun e w' => ∃ g' c', e = .returned (.slice (some ⟨g', 0, none⟩) (n + 1) c') ∧ Mem w.heap.size w w' [intE (some ⟨g', 0, none⟩) (n + 1) c' (putL xs x)] := by
  refine (l1PutV_any g off n c xs x w h hxi hn).mono ?_
  rintro e w' (⟨h1, -⟩ | h2)
  · exact absurd h1 hx
  · exact h2
end Go.Proofs.YtojfbcgfeojdfaaGreat

/-
  spec.l2Reach.
-/
namespace Go.Proofs.YtojfbcgfeojdfaaGreat
set_option linter.unusedSimpArgs false
set_option linter.unusedVariables false
open Go.RowKit

theorem unseen_add {n x : Nat} {f g : Nat → Bool} (hx : x < n) (hf : f x = false) (hg : ∀ c, g c = (f c || c == x)) : unseen n g + 1 = unseen n f := by
  unfold unseen
  induction n with
  | zero => omega
  | succ n ih =>
    rw [List.range_succ, List.filter_append, List.filter_append, List.length_append, List.length_append]
    by_cases e : x = n
    · subst e
      have h1 : (List.range x).filter (fun c => !g c) = (List.range x).filter (fun c => !f c) := List.filter_congr fun c hc => by
        have : c < x := List.mem_range.1 hc
        have h2 : (c == x) = false := by simp; omega
        rw [hg, h2, Bool.or_false]
      rw [h1]
      have h3 : g x = true := by rw [hg]; simp
      simp [h3, hf]
    · have h4 := ih (by omega)
      have h2 : (n == x) = false := by simp; omega
      have h5 : g n = f n := by rw [hg, h2, Bool.or_false]
      simp only [List.filter_cons, List.filter_nil, h5]
      cases f n <;> simp <;> omega

/-- where the reference's search stands -/
structure SI (n : Nat) (near : Nat → Nat → Bool) (burn src : Nat → Bool) (out : List Int) (q : List Nat) : Prop where
  asc : out.Pairwise (· < ·)
  only : ∀ x ∈ out, ∃ c : Nat, x = c ∧ Reach n near burn src c
  que : ∀ c ∈ q, c < n ∧ (burn c = true → Reach n near burn src c)
  seed : ∀ c, c < n → src c = true → burn c = true → (c : Int) ∈ out ∨ c ∈ q
  shut : ∀ d : Nat, (d : Int) ∈ out → ∀ c, c < n → near d c = true → burn c = true → (c : Int) ∈ out ∨ c ∈ q
  size : out.length + unseen n (fun c => hasI out c) ≤ n
section
variable {n : Nat} {near : Nat → Nat → Bool} {burn src : Nat → Bool} {out : List Int} {q : List Nat} {x : Nat}
theorem SI.start (h : ∀ c ∈ q, c < n ∧ src c = true) (h2 : ∀ c, c < n → src c = true → c ∈ q) : SI n near burn src [] q :=
  ⟨List.Pairwise.nil, by simp, fun c hc => ⟨(h c hc).1, fun hb => Reach.base (h c hc).1 (h c hc).2 hb⟩, fun c hc hs _ => .inr (h2 c hc hs), by simp, by have := unseen_le n (fun c => hasI [] (c : Int)); simpa using this⟩
theorem SI.skip (h : SI n near burn src out (x :: q)) (hx : burn x = false ∨ (x : Int) ∈ out) : SI n near burn src out q := by
  have key : ∀ c, burn c = true → ((c : Int) ∈ out ∨ c ∈ x :: q) → (c : Int) ∈ out ∨ c ∈ q := by
    intro c hb h1
    rcases h1 with h1 | h1
    · exact .inl h1
    · rcases List.mem_cons.1 h1 with rfl | h1
      · rcases hx with hx | hx
        · rw [hx] at hb; cases hb
        · exact .inl hx
      · exact .inr h1
  exact ⟨h.asc, h.only, fun c hc => h.que c (by simp [hc]), fun c hc hs hb => key c hb (h.seed c hc hs hb), fun d hd c hc hn hb => key c hb (h.shut d hd c hc hn hb), h.size⟩
theorem hasI_put {x : Int} {out : List Int} (c : Nat) (y : Nat) (e : x = y) : hasI (putL out x) c = (hasI out c || c == y) := by
  rw [Bool.eq_iff_iff, hasI_iff, putL_mem, Bool.or_eq_true, hasI_iff, beq_iff_eq, e]
  constructor
  · rintro (h | h)
    · exact .inr (by omega)
    · exact .inl h
  · rintro (h | h)
    · exact .inr h
    · exact .inl (by omega)
theorem SI.add (h : SI n near burn src out (x :: q)) (hb : burn x = true) (hx : (x : Int) ∉ out) : SI n near burn src (putL out x) (q ++ (List.range n).filter (near x)) := by
  obtain ⟨hxn, hxr⟩ := h.que x (by simp)
  have hr := hxr hb
  refine ⟨putL_asc h.asc hx, fun y hy => ?_, fun c hc => ?_, fun c hc hs hbc => ?_, fun d hd c hc hn hbc => ?_, ?_⟩
  · rcases putL_mem.1 hy with rfl | hy
    · exact ⟨x, rfl, hr⟩
    · exact h.only y hy
  · rcases List.mem_append.1 hc with hc | hc
    · exact h.que c (by simp [hc])
    · obtain ⟨h1, h2⟩ := List.mem_filter.1 hc
      exact ⟨List.mem_range.1 h1, fun hbc => Reach.step hr (List.mem_range.1 h1) hbc h2⟩
  · rcases h.seed c hc hs hbc with h1 | h1
    · exact .inl (putL_mem.2 (.inr h1))
    · rcases List.mem_cons.1 h1 with rfl | h1
      · exact .inl (putL_mem.2 (.inl rfl))
      · exact .inr (List.mem_append_left _ h1)
  · rcases putL_mem.1 hd with e | hd
    · obtain rfl : d = x := by omega
      exact .inr (List.mem_append_right _ (List.mem_filter.2 ⟨List.mem_range.2 hc, hn⟩))
    · rcases h.shut d hd c hc hn hbc with h1 | h1
      · exact .inl (putL_mem.2 (.inr h1))
      · rcases List.mem_cons.1 h1 with rfl | h1
        · exact .inl (putL_mem.2 (.inl rfl))
        · exact .inr (List.mem_append_left _ h1)
  · have h1 := unseen_add (n := n) (x := x) (f := fun c => hasI out c) (g := fun c => hasI (putL out x) c) hxn (by
      cases e : hasI out (x : Int)
      · rfl
      · exact absurd (hasI_iff.1 e) hx) (fun c => hasI_put c x rfl)
    have h2 := h.size
    rw [putL_length]
    omega
theorem SI.measure (h : SI n near burn src out (x :: q)) (hx : (x : Int) ∉ out) : unseen n (fun c => hasI (putL out x) c) + 1 = unseen n (fun c => hasI out c) :=
  unseen_add (h.que x (by simp)).1 (by
    cases e : hasI out (x : Int)
    · rfl
    · exact absurd (hasI_iff.1 e) hx) (fun c => hasI_put c x rfl)
theorem SI.done (h : SI n near burn src out []) : out = cellsN n (reachB n near burn src) := by
  refine asc_ext h.asc (cellsN_asc _ _) fun y => ?_
  rw [cellsN_mem]
  constructor
  · intro hy
    obtain ⟨c, rfl, hr⟩ := h.only y hy
    exact ⟨c, rfl, hr.lt.1, reachB_iff.2 hr⟩
  · rintro ⟨c, rfl, hc, hr⟩
    have := (reachB_iff.1 hr).least (T := fun c => (c : Int) ∈ out) (fun c hc hs hb => ?_) (fun d c hd hc hb hn => ?_)
    · exact this
    · rcases h.seed c hc hs hb with h1 | h1
      · exact h1
      · simp at h1
    · rcases h.shut d hd c hc hn hb with h1 | h1
      · exact h1
      · simp at h1
end

set_option maxRecDepth 100000 in
set_option maxHeartbeats 4000000 in
theorem l2Reach_any (W : Nat) (H : Int) (a : Option Addr) (n c : Nat) (xs : List Int) (a' : Option Addr) (n' c' : Nat) (cs : List Int) (w : World) (h : Ints w a n c xs) (h' : Ints w a' n' c' cs) (hn25 : n ≤ 25) (hW : 1 ≤ W ∧ W ≤ 5) (hs : setB n cs = true) (hxs : ∀ x ∈ xs, 0 ≤ x) :
    Calls Tryz.prog 124 #[.agg #[.int .i64 W, .int .i64 H, .slice a n c], .slice a' n' c'] w fun e w' => ∃ a2 m c2, e = .returned (.slice a2 m c2) ∧ Mem w.heap.size w w' [intE a2 m c2 (cellsN n (reachB n (nearN W) (brn xs) (fun c => hasI cs c)))] := by
  obtain ⟨hsl, hsm⟩ := setB_true hs
  have hlen := h'.len
  have HL := Lib.hid h.len
  have HXS := Lib.hid hxs
  have hnat : natsI (cs.map Int.toNat) = cs := natsI_of (fun x hx => (hsm x hx).1)
  obtain ⟨qs, hqs⟩ : ∃ qs, cs.map Int.toNat = qs := ⟨_, rfl⟩
  have hql : qs.length ≤ 25 := by rw [← hqs, List.length_map]; omega
  have hst : SI n (nearN W) (brn xs) (fun c => hasI cs c) [] qs := by
    rw [← hqs]
    refine SI.start (fun c hc => ?_) (fun c hc hs => ?_)
    · obtain ⟨x, hx, rfl⟩ := List.mem_map.1 hc
      have := hsm x hx
      exact ⟨by omega, hasI_iff.2 (by rw [Int.toNat_of_nonneg this.1]; exact hx)⟩
    · exact List.mem_map.2 ⟨_, hasI_iff.1 hs, by simp⟩
  rw [hqs] at hnat
  have HNAT := Lib.hid hnat
  have HST := Lib.hid hst
  have hun := unseen_le n (fun c => hasI [] (c : Int))
  clear hs hsm hqs hst hnat hlen hxs
  have hM := Mem.start w
  go_enter Tryz.func124, Tryz.ntmps124
  go_wp2_with fail
  apply Mem.at
  · exact memA
  clear hM
  intro hM
  (try simp only [World.size_alloc, World.size_setCell, World.heap_drewN, heapDrew, Nat.add_assoc, Nat.reduceAdd, sA, List.cons_append, List.nil_append] at hM)
  refine (l1Own_any a' n' c' cs _ (h'.ext hM.below)).mono ?_
  rintro e w2 ⟨a2, c2, rfl, hO, hb⟩
  replace hM := hM.own hb hO
  clear hb hO
  rw [← HNAT.out] at hM
  replace hM := (hM.toQu .here).toInts (xs := []) (.there .here) rfl (by simp) (by simp)
  go_wp2_with fail
  go_loopg [5, 6] 1000 (fun gh s5 s6 wr => ∃ (out : List Int) (q : List Nat) (g5 m5 c5 : Nat) (a6 : Option Addr) (m6 c6 : Nat), unseen n (fun c => hasI out c) * 27 + q.length ≤ gh ∧ gh ≤ 1000 ∧ SI n (nearN W) (brn xs) (fun c => hasI cs c) out q ∧ s5 = .slice (some ⟨g5, 0, none⟩) m5 c5 ∧ s6 = .slice a6 m6 c6 ∧
      Mem w.heap.size w wr [quE a6 m6 c6 (natsI q), intE (some ⟨g5, 0, none⟩) m5 c5 out, rowE w.heap.size 26 #[.int .i64 W, .int .i64 H, .slice a n c]])
  case atStart =>
    exact ⟨[], qs, _, 0, _, a2, n', c2, by omega, by omega, HST.out, rfl, rfl, hM⟩
  case round =>
    clear hM
    obtain ⟨out, q, g5, m5, c5, a6, m6, c6, hgh, hg1, hSI, rfl, rfl, hM⟩ := hrel
    cases q with
    | nil =>
      obtain rfl : m6 = 0 := by have := (hM.qu .here).len; simpa [natsI] using this.symm
      have HD := Lib.hid hSI.done
      clear hSI
      go_wp2
      go_ret
      exact ⟨_, m5, c5, rfl, by rw [← HD.out]; exact hM.tail.first⟩
    | cons x r =>
      obtain rfl : m6 = r.length + 1 := by have := (hM.qu .here).len; simpa [natsI] using this.symm
      have hcq := (hM.qu .here).cap
      have hcm := (hM.qu .here).capm
      unfold maxLen at hcm
      obtain ⟨g8, off, rfl, -, -⟩ := (hM.qu .here).ints.at' 0 (by omega)
      have hc0 := (hM.qu .here).ints.get (k := 0) (by omega)
      rw [show (natsI (x :: r)).getD 0 0 = (x : Int) from rfl, Nat.add_zero] at hc0
      obtain ⟨hxn, -⟩ := hSI.que x (by simp)
      simp only [List.length_cons] at hgh
      go_upto_region 4 with fail
      go_cut [6] (fun s6 wx => ∃ (a8 : Option Addr) (c8 : Nat), s6 = .slice a8 r.length c8 ∧ Mem w.heap.size w wx [quE a8 r.length c8 (natsI r), intE (some ⟨g5, 0, none⟩) m5 c5 out, rowE w.heap.size 26 #[.int .i64 W, .int .i64 H, .slice a n c]])
      case first =>
        by_cases hc1 : c6 = 1
        · subst hc1
          obtain rfl : r = [] := List.eq_nil_of_length_eq_zero (by omega)
          go_wp2_with fail
          go_meet
          exact ⟨_, _, rfl, hM.popQu1 .here⟩
        · obtain ⟨cr, rfl⟩ : ∃ cr, c6 = cr + 1 := ⟨c6 - 1, by omega⟩
          have hcr : ¬ cr = 0 := by omega
          go_wp2_with fail
          go_meet
          exact ⟨_, _, rfl, hM.popQu .here⟩
      case rest =>
        clear hM hc0 hcq hcm
        obtain ⟨a8, c8, rfl, hM⟩ := hcut
        obtain ⟨bx, offx, rfl, -, -⟩ := h.at' _ hxn
        have hcx := (h.ext hM.below).get hxn
        have hx0 := HXS.out _ (getD_mem (xs := xs) (k := x) (by rw [HL.out]; exact hxn))
        obtain ⟨v, hv⟩ : ∃ v, xs.getD x 0 = v := ⟨_, rfl⟩
        rw [hv] at hcx hx0
        have HB := Lib.hid (show brn xs x = decide (0 < v) by unfold brn; rw [hv])
        clear hv
        have hml := (hM.ints (.there .here)).len
        have hsz := hSI.size
        have hm5 : m5 ≤ 25 := by omega
        clear hml hsz
        have x0 : (0 : Int) ≤ (x : Int) := by omega
        have x1 : (x : Int) < (n : Int) := by omega
        obtain ⟨k3, f3, l3⟩ := hM.row (.there (.there .here))
        by_cases hz : v = 0
        · have hze : (v == 0) = true := by simpa using hz
          have HSK := Lib.hid (hSI.skip (.inl (by rw [HB.out, hz]; rfl)))
          clear hSI
          go_wp2
          go_roundg (gk - 1)
          case measure => omega
          case rel => exact ⟨out, r, g5, m5, c5, a8, r.length, c8, by omega, by omega, HSK.out, rfl, rfl, hM⟩
        · have hze : (v == 0) = false := by simpa using hz
          have hbx : brn xs x = true := by rw [HB.out]; simp; omega
          have HBX := Lib.hid hbx; clear hbx
          have HSI := Lib.hid hSI; clear hSI
          go_wp2_with fail
          apply Mem.at
          · exact memA
          clear hM k3 f3 l3 hcx
          intro hM
          refine (l1Has_any _ _ _ _ (x : Int) _ (hM.ints (.there .here)).ints).mono ?_
          rintro e w3 ⟨rfl, rfl⟩
          cases hh : hasI out (x : Int)
          · have hni : (x : Int) ∉ out := fun e => by rw [hasI_iff.2 e] at hh; cases hh
            have HAD := Lib.hid (HSI.out.add HBX.out hni)
            have hms := HSI.out.measure hni
            have HNI := Lib.hid hni
            clear hni
            go_wp2_with fail
            apply Mem.at
            · exact memA
            clear hM
            intro hM
            refine (l1Put_any _ _ _ _ out (x : Int) _ (hM.ints (.there .here)).ints HNI.out (i64_nat (by omega)) (by omega)).mono ?_
            rintro e w4 ⟨g9, c9, rfl, hm⟩
            replace hM := hM.join hm
            clear hm
            obtain ⟨k3, f3, l3⟩ := hM.row (.there (.there (.there .here)))
            go_wp2_with fail
            clear k3 f3 l3
            apply Mem.at
            · exact memA
            clear hM
            intro hM
            (try simp only [World.size_alloc, World.size_setCell, World.heap_drewN, heapDrew, Nat.add_assoc, Nat.reduceAdd, sA, List.cons_append, List.nil_append] at hM)
            refine (l2Near_any W H _ n c xs x _ (h.ext hM.below) hn25 hW (by omega)).mono ?_
            rintro e w5 ⟨a10, m10, c10, rfl, hm⟩
            replace hM := hM.join hm
            clear hm
            (try simp only [World.size_alloc, World.size_setCell, World.heap_drewN, heapDrew, Nat.add_assoc, Nat.reduceAdd, sA, List.cons_append, List.nil_append] at hM)
            have hnl := (hM.ints .here).len
            have hnl2 := cellsN_length n (nearN W x)
            have hmt : m10 ≤ 25 := by omega
            have HNL := Lib.hid hnl; clear hnl hnl2
            go_wp2_with (at_builtin; apply Mem.atL; (focus ((exact memA); done)); clear hM; intro hM; refine wpList_appQ hM (fun _ => .there (.there .here)) (hM.ints .here).ints (by omega) rfl _ _ _ Tryz.underlying24 rfl rfl rfl ?_)
            intro a11 c11 w6 hM
            go_wp2
            go_roundg (gk - 1)
            case measure => omega
            case rel =>
              refine ⟨_, _, g9, m5 + 1, c9, a11, r.length + m10, c11, ?_, by omega, HAD.out, rfl, rfl, ?_⟩
              · rw [List.length_append]
                have := HNL.out
                have e2 : ((List.range n).filter (nearN W x)).length = (cellsN n (nearN W x)).length := by simp [cellsN]
                omega
              · rw [natsI_append]
                apply Mem.pick (is := [2, 1, 4])
                · exact hM
                · decide
                · rfl
          · have HSK := Lib.hid (HSI.out.skip (.inr (hasI_iff.1 hh)))
            go_wp2
            go_roundg (gk - 1)
            case measure => omega
            case rel => exact ⟨out, r, g5, m5, c5, a8, r.length, c8, by omega, by omega, HSK.out, rfl, rfl, hM⟩
end Go.Proofs.YtojfbcgfeojdfaaGreat
