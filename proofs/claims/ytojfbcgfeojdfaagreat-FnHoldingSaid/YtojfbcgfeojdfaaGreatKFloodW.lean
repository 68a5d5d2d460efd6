/-
  Terrain.flood, Terrain.reachable.
-/
import Derived.Test.YtojfbcgfeojdfaaGreatKFlood
import Derived.Test.YtojfbcgfeojdfaaGreatKNear4
import Derived.Deep.LoopGhost
import Derived.Deep.DeepCutAuto
/-
  Terrain.flood, Terrain.reachable.
-/
namespace Go.Proofs.YtojfbcgfeojdfaaGreat
set_option linter.unusedSimpArgs false
set_option linter.unusedVariables false
open Go.RowKit

theorem Tryz.info4 : (Tryz.prog.info? 4).map (fun i => (i.zero, i.size, i.bytes)) = some (some (.bool false), 1, 1) := by kernel_rfl

theorem wpList_makeB {B : Nat} {w0 w : World} {G : List Ent} {ops : Array Oper} {rest : List Oper} {o : Oper} {a : Act} {Q : Exit → Act → World → Prop} (hM : Mem B w0 w G) (hgd : o.guard = none) (l c : Operand) (t : TypeId) (hop : o.op = Op.makeSlice t l c)
    (h1 : Tryz.prog.underlying t = some (.slice 4)) (n : Nat) (hl : a.eval l = .int .i64 n) (hc : a.eval c = .int .i64 n) (hn : n ≤ 1000000)
    (hK : ∀ b w', Mem B w0 w' (rowE b 4 (bitsA n fun _ => false) :: G) → wpList Tryz.prog ops Q rest (a.put o.dst (.slice (some ⟨b, 0, none⟩) n n)) w') : wpList Tryz.prog ops Q (o :: rest) a w := by
  obtain ⟨i0, h2, hz0, hz1, hz2⟩ := info_parts Tryz.info4
  refine wpList_plain hgd fun K hK' => ?_
  obtain ⟨w', hrun, r1, r2⟩ := run_make_full (P := Tryz.prog) w w.heap.size t 4 i0 (.bool false) 1 h1 h2 hz0 hz1 .i64 .i64 n (by rw [hz2]; omega) (by unfold maxLen; omega) (Nat.le_refl _)
  unfold Oper.wp
  simp [execOp, hop, hl, hc, hrun, Result.andThen]
  refine hK' _ _ (hK _ w' ?_)
  rcases r1.2 with ⟨e, _⟩ | ⟨g, cap, cur, e, hb, hh, hle, hm, hs, ht⟩
  · cases e
  · cases e
    have ec : cur = bitsA n fun _ => false := by
      have e2 : cur.toList = (madeCells #[Value.bool false] n).toList := by
        rw [← List.take_of_length_le (l := cur.toList) (i := n * 1) (by simp; omega), ht]
        simp [Value.cells]
      rw [← made_bits]
      exact Array.toList_inj.1 e2
    rw [ec] at hh
    exact hM.new ((Below.refl _ _).grown r2 (Nat.le_refl _) (by intro k hk; cases hk)) (rowE _ _ _) ⟨Nat.le_refl _, hh⟩ ⟨hM.size, hh⟩

/-- what a function value answers on two numbers below n -/
def AnsS (f : FuncId) (fi caps : Array Value) (st : Nat → Nat → Bool) (n : Nat) (w : World) : Prop :=
  ∀ x y, x < n → y < n → ∀ w', Below w.heap.size w w' → Calls Tryz.prog f (fi ++ (#[.int .i64 (x : Int), .int .i64 (y : Int)] ++ caps)) w' fun e w'' => e = .returned (.bool (st x y)) ∧ Below w'.heap.size w' w''

set_option maxRecDepth 100000 in
set_option maxHeartbeats 400000 in
theorem flood1_any (n k g b : Nat) (f : Nat → Bool) (w : World) (hn : n ≤ 25) (hk : k < n) (h1 : Row w b #[.slice (some ⟨g, 0, none⟩) n n]) (h2 : Row w g (bitsA n f)) :
    Calls Tryz.prog 163 #[.int .i64 k, .pointer (some ⟨b, 0, none⟩)] w fun e w' => e = .returned (.bool (f k)) ∧ Below w.heap.size w w' := by
  have k1 := h1.cell
  have k2 := h2.cell k
  rw [bitsA_get hk] at k2
  have i0 : (0 : Int) ≤ (k : Int) := by omega
  have i1 : (k : Int) < (n : Int) := by omega
  go_enter Tryz.func163, Tryz.ntmps163
  go_wp2
  go_ret
  exact ⟨rfl, Below.refl _ _⟩

set_option maxRecDepth 100000 in
set_option maxHeartbeats 4000000 in
theorem flood_any (fv : FuncId) (fi caps : Array Value) (st : Nat → Nat → Bool) (W H : Int) (a : Option Addr) (n c : Nat) (xs : List Int) (a' : Option Addr) (n' c' : Nat) (qs : List Nat) (w : World) (h : Ints w a n c xs) (h' : Ints w a' n' c' (natsI qs)) (hn25 : n ≤ 25) (hq25 : qs.length ≤ 25) (hqn : ∀ x ∈ qs, x < n)
    (hcf : ∀ args w, (callFunc fv args).run Tryz.prog w = .ok (.enter fv args) w) (hf : AnsS fv fi caps st n w) :
    Calls Tryz.prog 152 #[.agg #[.int .i64 W, .int .i64 H, .slice a n c], .slice a' n' c', .func (.func fv) fi caps] w fun e w' => ∃ a2 m c2, e = .returned (.slice a2 m c2) ∧ Mem w.heap.size w w' [intE a2 m c2 (cellsN n (reachB n st (fun _ => true) (fun c => qs.contains c)))] := by
  have HF := Lib.hid hf
  have HQN := Lib.hid hqn
  have hl' := h'.len
  rw [natsI_length] at hl'
  have HL' := Lib.hid hl'
  have hn' := h'.cap
  have hc' := h'.room
  clear hf hqn hl'
  have hM := Mem.start w
  have hmf : ∀ (fn : Fn) (first cap : Array Value) (w : World), (Instr.makeFunc fn first cap).run Tryz.prog w = .ok (.func fn first cap) w := fun _ _ _ _ => rfl
  go_enter Tryz.func152, Tryz.ntmps152
  go_wp2_with (at_make; apply Mem.atL; (focus ((exact memA); done)); clear hM; intro hM; refine wpList_makeB hM rfl _ _ 120 rfl Tryz.underlying120 n rfl rfl (by omega) ?_)
  intro g w1 hM
  obtain ⟨k1, f1, l1⟩ := hM.row (.there .here)
  go_wp2_with fail
  clear k1 f1 l1
  apply Mem.at
  · exact memA
  clear hM
  intro hM
  (try simp only [World.size_alloc, World.size_setCell, World.heap_drewN, heapDrew, Nat.add_assoc, Nat.reduceAdd, sA, List.cons_append, List.nil_append] at hM)
  refine (copyOf_any a' n' c' _ _ (h'.ext hM.below)).mono ?_
  rintro e w2 ⟨a2, c2, rfl, hO, hb⟩
  replace hM := hM.own hb hO
  clear hb hO
  obtain ⟨b7, hb7⟩ : ∃ b, b = w1.heap.size := ⟨_, rfl⟩
  rw [← hb7] at hM ⊢
  clear hb7
  go_wp2_with fail
  go_loopw [21] (fun i wr => ∃ k : Nat, k ≤ n' ∧ i = .int .i64 k ∧ Mem w.heap.size w wr [intE a2 n' c2 (natsI qs), rowE b7 120 #[.slice (some ⟨g, 0, none⟩) n n], rowE g 4 (bitsA n fun c => (qs.take k).contains c), rowE w.heap.size 26 #[.int .i64 W, .int .i64 H, .slice a n c]]) (fun i _ => n' - (intOf i).toNat)
  case atStart =>
    refine ⟨0, Nat.zero_le _, rfl, ?_⟩
    rw [bitsA_congr (g := fun _ => false) (fun k _ => by simp)]
    exact hM
  case round =>
    clear hM
    obtain ⟨k, hk, rfl, hM⟩ := hrel
    by_cases hlt : k < n'
    · obtain ⟨b, off, rfl, _⟩ := h'.at' _ hlt
      have hkq : k < qs.length := by rw [HL'.out]; exact hlt
      have hck := (h'.ext hM.below).get hlt
      have hqk := HQN.out (qs[k]) (List.getElem_mem hkq)
      have hgx : (natsI qs).getD k 0 = (qs[k] : Int) := by simp [natsI, List.getD, hkq]
      have htk : qs.take (k + 1) = qs.take k ++ [qs[k]] := by rw [List.take_succ_eq_append_getElem hkq]
      rw [hgx] at hck
      obtain ⟨m, hm⟩ : ∃ m, qs[k] = m := ⟨_, rfl⟩
      rw [hm] at hck hqk htk
      have hset := bitsA_set (f := fun c => (qs.take k).contains c) hqk
      have hget := bitsA_get (f := fun c => (qs.take k).contains c) hqk
      replace hset := hset.trans (bitsA_congr (g := fun c => (qs.take (k + 1)).contains c) (fun i _ => by rw [htk]; simp [List.contains_eq_mem]; by_cases e : i = m <;> simp [e]))
      clear hm hgx hkq htk
      obtain ⟨k1, f1, l1⟩ := hM.row (.there .here)
      obtain ⟨k2, f2, l2⟩ := hM.row (.there (.there .here))
      have k2m := k2 m
      rw [hget] at k2m
      have f2m := f2 m
      have HS := Lib.hid hset
      clear hset hget k2 f2
      have i0 : (0 : Int) ≤ (k : Int) := by omega
      have i1 : (k : Int) < (n' : Int) := by omega
      have m0 : (0 : Int) ≤ (m : Int) := by omega
      have m1 : (m : Int) < (n : Int) := by omega
      go_wp2
      go_roundw
      case rel =>
        refine ⟨k + 1, by omega, by go_num, ?_⟩
        rw [← HS.out]
        (exact memA)
      case measure => simp [intOf]; omega
    · obtain rfl : k = n' := by omega
      rw [List.take_of_length_le (by rw [HL'.out]; exact Nat.le_refl _)] at hM
      replace hM := hM.toQu .here
      go_wp2_with fail
      go_loopg [8] 50 (fun gh s8 wr => ∃ (f : Nat → Bool) (q : List Nat) (aq : Option Addr) (m cq : Nat), unseen n f + q.length ≤ gh ∧ gh ≤ 50 ∧ FI n st (fun c => qs.contains c) f q ∧ s8 = .slice aq m cq ∧ Mem w.heap.size w wr [quE aq m cq (natsI q), rowE b7 120 #[.slice (some ⟨g, 0, none⟩) n n], rowE g 4 (bitsA n f), rowE w.heap.size 26 #[.int .i64 W, .int .i64 H, .slice a n c]])
      case atStart =>
        have hu := unseen_le n (fun c => qs.contains c)
        refine ⟨_, qs, _, _, _, by omega, by omega, FI.start (fun c hc => ⟨HQN.out c hc, by simpa using hc⟩) (fun c _ hs => by simpa using hs), rfl, hM⟩
      case round =>
        clear hM
        obtain ⟨f, q, aq, m, cq, hgh, hg50, hFI, rfl, hM⟩ := hrel
        cases q with
        | nil =>
          obtain rfl : m = 0 := by have := (hM.qu .here).len; simpa [natsI] using this.symm
          have HCN := Lib.hid (cellsN_congr (n := n) (p := f) (q := reachB n st (fun _ => true) (fun c => qs.contains c)) (fun c hc => hFI.done hc))
          clear hFI
          obtain ⟨k1, f1, l1⟩ := hM.row (.there .here)
          obtain ⟨k3, f3, l3⟩ := hM.row (.there (.there (.there .here)))
          go_wp2_with fail
          clear k1 f1 l1 k3 f3 l3
          apply Mem.at
          · exact memA
          clear hM
          intro hM
          (try simp only [World.size_alloc, World.size_setCell, World.heap_drewN, heapDrew, Nat.add_assoc, Nat.reduceAdd, sA, List.cons_append, List.nil_append] at hM)
          refine (cellsThat_any _ _ _ f _ _ a n c xs _ (h.ext hM.below) hn25 (enters Tryz.func163 (by kernel_rfl) rfl) (fun k hk w' hb => by
            have hM' := hM.ext hb
            exact flood1_any n k g b7 f w' hn25 hk (hM'.row (.there .here)) (hM'.row (.there (.there .here))))).mono ?_
          rw [HCN.out]
          rintro e w3 ⟨a3, m3, c3, rfl, hm⟩
          replace hM := hM.join hm
          clear hm
          go_wp2
          go_ret
          exact ⟨a3, m3, c3, rfl, hM.first⟩
        | cons x r =>
          obtain rfl : m = r.length + 1 := by have := (hM.qu .here).len; simpa [natsI] using this.symm
          have hcq := (hM.qu .here).cap
          have hcm := (hM.qu .here).capm
          unfold maxLen at hcm
          obtain ⟨g8, off, rfl, -, -⟩ := (hM.qu .here).ints.at' 0 (by omega)
          have hc0 := (hM.qu .here).ints.get (k := 0) (by omega)
          rw [show (natsI (x :: r)).getD 0 0 = (x : Int) from rfl, Nat.add_zero] at hc0
          obtain ⟨hxn, hfx⟩ := hFI.que x (by simp)
          have HST := Lib.hid hFI.step
          have HUN := Lib.hid (unseen_step n st x f)
          have HNL := Lib.hid (newF_length st x f)
          clear hFI hfx
          simp only [List.length_cons] at hgh
          obtain ⟨k3, f3, l3⟩ := hM.row (.there (.there (.there .here)))
          go_upto_region 10 with fail
          go_cut [8] (fun s8 wx => ∃ (a8 : Option Addr) (c8 : Nat), s8 = .slice a8 r.length c8 ∧ Mem w.heap.size w wx [quE a8 r.length c8 (natsI r), rowE b7 120 #[.slice (some ⟨g, 0, none⟩) n n], rowE g 4 (bitsA n f), rowE w.heap.size 26 #[.int .i64 W, .int .i64 H, .slice a n c]])
          case first =>
            by_cases hc1 : cq = 1
            · subst hc1
              obtain rfl : r = [] := List.eq_nil_of_length_eq_zero (by omega)
              go_wp2_with fail
              go_meet
              exact ⟨_, _, rfl, hM.popQu1 .here⟩
            · obtain ⟨cr, rfl⟩ : ∃ cr, cq = cr + 1 := ⟨cq - 1, by omega⟩
              have hcr : ¬ cr = 0 := by omega
              go_wp2_with fail
              go_meet
              exact ⟨_, _, rfl, hM.popQu .here⟩
          case rest =>
            clear hM k3 f3 l3 hc0
            obtain ⟨a8, c8, rfl, hM⟩ := hcut
            obtain ⟨k3, f3, l3⟩ := hM.row (.there (.there (.there .here)))
            go_wp2_with fail
            clear k3 f3 l3
            go_loopw [8, 40] (fun s8 s40 wq => ∃ (k : Nat) (a8 : Option Addr) (m c8 : Nat), k ≤ n ∧ s40 = .int .i64 k ∧ s8 = .slice a8 m c8 ∧ Mem w.heap.size w wq [quE a8 m c8 (natsI (r ++ newF st x f k)), rowE b7 120 #[.slice (some ⟨g, 0, none⟩) n n], rowE g 4 (bitsA n (stepF st x f k)), rowE w.heap.size 26 #[.int .i64 W, .int .i64 H, .slice a n c]]) (fun _ s40 _ => n - (intOf s40).toNat)
            case atStart =>
              refine ⟨0, a8, r.length, c8, Nat.zero_le _, rfl, rfl, ?_⟩
              rw [stepF_zero, show newF st x f 0 = [] from rfl, List.append_nil]
              exact hM
            case round =>
              clear hM
              obtain ⟨k, a8, m, c8, hk, rfl, rfl, hM⟩ := hrel
              have hml := (hM.qu .here).len
              rw [natsI_length, List.length_append] at hml
              have hnl := newF_length st x f k
              have hmb : m ≤ 75 := by omega
              have HML := Lib.hid hml; clear hml hnl
              by_cases hlt : k < n
              · have HNS := Lib.hid (newF_succ st x f k)
                obtain ⟨k1, f1, l1⟩ := hM.row (.there .here)
                obtain ⟨k2, f2, l2⟩ := hM.row (.there (.there .here))
                have k2k := k2 k
                rw [bitsA_get hlt, stepF_at] at k2k
                clear k2 f2
                have i0 : (0 : Int) ≤ (k : Int) := by omega
                have i1 : (k : Int) < (n : Int) := by omega
                cases hfk : f k
                · rw [hfk] at k2k
                  go_wp2_with fail
                  clear k1 f1 l1 l2 k2k
                  apply Mem.at
                  · exact memA
                  clear hM
                  intro hM
                  refine (HF.out x k hxn hlt _ hM.below).mono ?_
                  rintro e w3 ⟨rfl, hb⟩
                  replace hM := hM.ext hb
                  clear hb
                  cases hst : st x k
                  · have hno : (!f k && st x k) = false := by rw [hst, Bool.and_false]
                    have HE := Lib.hid (bitsA_congr (n := n) (fun i _ => stepF_no hno i))
                    clear hno
                    go_wp2
                    go_roundw
                    case rel =>
                      refine ⟨k + 1, a8, m, c8, by omega, by go_num, rfl, ?_⟩
                      rw [HNS.out, hst, Bool.and_false, ← HE.out]
                      simpa using hM
                    case measure => simp [intOf]; omega
                  · have HE := Lib.hid ((bitsA_set (f := stepF st x f k) hlt).trans (bitsA_congr (fun i _ => stepF_yes hst i)))
                    obtain ⟨k1, f1, l1⟩ := hM.row (.there .here)
                    obtain ⟨k2, f2, l2⟩ := hM.row (.there (.there .here))
                    have k2k := k2 k
                    rw [bitsA_get hlt] at k2k
                    have f2k := f2 k
                    clear k2 f2
                    go_wp2_with (at_builtin; apply Mem.atL; (focus ((exact memA); done)); clear hM k1 f1 l1 l2 k2k f2k; intro hM; (try simp only [World.size_alloc, World.size_setCell, World.heap_drewN, heapDrew, Nat.add_assoc, Nat.reduceAdd, sA, List.cons_append, List.nil_append] at hM); refine wpList_pushQ hM (fun _ => .here) (i64_nat (by omega)) (by omega) rfl _ _ _ Tryz.underlying24 rfl rfl rfl ?_)
                    intro a9 c9 w4 hM
                    go_wp2
                    go_roundw
                    case rel =>
                      refine ⟨k + 1, a9, m + 1, c9, by omega, by go_num, rfl, ?_⟩
                      rw [HE.out] at hM
                      rw [HNS.out, hst, hfk]
                      simpa [natsI] using hM
                    case measure => simp [intOf]; omega
                · rw [hfk] at k2k
                  have hno : (!f k && st x k) = false := by rw [hfk]; rfl
                  have HE := Lib.hid (bitsA_congr (n := n) (fun i _ => stepF_no hno i))
                  have HNO := Lib.hid hno; clear hno
                  go_wp2
                  go_roundw
                  case rel =>
                    refine ⟨k + 1, a8, m, c8, by omega, by go_num, rfl, ?_⟩
                    rw [HNS.out, HNO.out, ← HE.out]
                    simpa using hM
                  case measure => simp [intOf]; omega
              · obtain rfl : k = n := by omega
                go_wp2
                go_roundg (gk - 1)
                case measure => omega
                case rel =>
                  have hu := HUN.out
                  exact ⟨_, _, a8, m, c8, by rw [List.length_append]; omega, by omega, HST.out, rfl, hM⟩

/-- which cells below n are reached from sources, over cells that burn -/
noncomputable def reachL (W n : Nat) (xs : List Int) (src : Nat → Bool) : List Int := cellsN n (reachB n (nearN W) (brn xs) src)

set_option maxRecDepth 100000 in
set_option maxHeartbeats 1000000 in
theorem reachable1_any (W : Nat) (H : Int) (a : Option Addr) (n c : Nat) (xs : List Int) (x y b : Nat) (w : World) (h : Ints w a n c xs) (hn25 : n ≤ 25) (hW : 1 ≤ W ∧ W ≤ 5) (hx : x < n) (hy : y < n) (h1 : Row w b #[.int .i64 W, .int .i64 H, .slice a n c]) :
    Calls Tryz.prog 153 #[.int .i64 x, .int .i64 y, .pointer (some ⟨b, 0, none⟩)] w fun e w' => e = .returned (.bool (nearN W x y && brn xs y)) ∧ Below w.heap.size w w' := by
  have k1 := h1.cell
  obtain ⟨r, hr⟩ : ∃ r, apI W x y = r := ⟨_, rfl⟩
  have HF := Lib.hid (show nearN W x y = (r == 1) by unfold nearN; rw [hr])
  have HR := Lib.hid hr
  clear hr
  go_enter Tryz.func153, Tryz.ntmps153
  go_wp2_with fail
  refine (apart_any W H _ x y _ hW (by omega) (by omega)).mono ?_
  rw [HR.out]
  rintro e w1 ⟨rfl, hb⟩
  have k1' := (h1.ext hb).cell
  clear k1
  cases hp : (r == 1)
  · go_wp2
    go_ret
    exact ⟨rb (by rw [HF.out, hp]; rfl), hb⟩
  · go_wp2_with fail
    refine (burns_any _ _ a n c xs y _ (h.ext hb) hy).mono ?_
    rintro e w2 ⟨rfl, hb2⟩
    go_wp2
    go_ret
    exact ⟨rb (by rw [HF.out, hp]; rfl), hb.trans (hb2.mono hb.size)⟩

set_option maxRecDepth 100000 in
set_option maxHeartbeats 2000000 in
theorem reachable_any (W : Nat) (H : Int) (a : Option Addr) (n c : Nat) (xs : List Int) (a' : Option Addr) (n' c' : Nat) (cs : List Int) (w : World) (h : Ints w a n c xs) (h' : Ints w a' n' c' cs) (hn25 : n ≤ 25) (hW : 1 ≤ W ∧ W ≤ 5) (hs : setB n cs = true) :
    Calls Tryz.prog 129 #[.agg #[.int .i64 W, .int .i64 H, .slice a n c], .slice a' n' c'] w fun e w' => ∃ a2 m c2, e = .returned (.slice a2 m c2) ∧ Mem w.heap.size w w' [intE a2 m c2 (reachL W n xs (fun c => hasI cs c))] := by
  have hmf : ∀ (fn : Fn) (first cap : Array Value) (w : World), (Instr.makeFunc fn first cap).run Tryz.prog w = .ok (.func fn first cap) w := fun _ _ _ _ => rfl
  obtain ⟨hsl, hsm⟩ := setB_true hs
  have HSM := Lib.hid hsm
  have hlen := h'.len
  have hmf2 : ∀ x ∈ cs, ∃ m : Nat, x = m ∧ m < n := fun x hx => ⟨x.toNat, by have := hsm x hx; omega, by have := hsm x hx; omega⟩
  have HMF := Lib.hid hmf2
  have hfl : (cs.filter fun x => brn xs x.toNat).length ≤ 25 := Nat.le_trans (List.length_filter_le _ _) (by omega)
  have hfn : ∀ x ∈ (cs.filter fun x => brn xs x.toNat).map Int.toNat, x < n := by
    intro x hx
    obtain ⟨y, hy, rfl⟩ := List.mem_map.1 hx
    have := hsm y (List.mem_filter.1 hy).1
    omega
  have hnat : natsI ((cs.filter fun x => brn xs x.toNat).map Int.toNat) = cs.filter fun x => brn xs x.toNat := natsI_of (fun x hx => (hsm x (List.mem_filter.1 hx).1).1)
  have hres : cellsN n (reachB n (fun x y => nearN W x y && brn xs y) (fun _ => true) (fun c => ((cs.filter fun x => brn xs x.toNat).map Int.toNat).contains c)) = reachL W n xs (fun c => hasI cs c) := by
    refine cellsN_congr fun c hc => ?_
    rw [← reachB_flood (near := nearN W) (burn := brn xs) (src := fun c => hasI cs c)]
    congr 1
    funext k
    rw [Bool.eq_iff_iff, List.contains_iff_mem, List.mem_map, Bool.and_eq_true, hasI_iff]
    constructor
    · rintro ⟨y, hy, rfl⟩
      obtain ⟨h1, h2⟩ := List.mem_filter.1 hy
      have := hsm y h1
      exact ⟨by rw [Int.toNat_of_nonneg this.1]; exact h1, h2⟩
    · rintro ⟨h1, h2⟩
      exact ⟨k, List.mem_filter.2 ⟨h1, by simpa using h2⟩, by simp⟩
  have HRES := Lib.hid hres
  obtain ⟨qs, hqs⟩ : ∃ qs, (cs.filter fun x => brn xs x.toNat).map Int.toNat = qs := ⟨_, rfl⟩
  have hql : qs.length ≤ 25 := by rw [← hqs, List.length_map]; exact hfl
  rw [hqs] at hfn hnat
  have HQS := Lib.hid hqs
  have HFN := Lib.hid hfn
  have HNAT := Lib.hid hnat
  clear hs hsm hmf2 hfl hfn hnat hres hqs hlen
  have hM := Mem.start w
  go_enter Tryz.func129, Tryz.ntmps129
  go_wp2_with fail
  apply Mem.atWp
  · exact memA
  clear hM
  intro hM
  refine AtT.startA hM hM 7 (by kernel_rfl) ?_
  clear hM
  intro wd hM
  have hS := hM
  refine AtT.tk 0 ?_ 5 ?_ hS ?_
  rotate_left
  · (intro wS hSw; (try dsimp only at hSw); have kr0 := (Mem.row hSw .here).cell; go_simp; (try rw [if_neg (by omega)]); try with_reducible rfl)
  simp only [Act.put, sA]
  refine AtT.tk 1 ?_ 6 ?_ hS ?_
  rotate_left
  · (intro wS hSw; (try dsimp only at hSw); go_simp; (try rw [if_neg (by omega)]); try with_reducible rfl)
  simp only [Act.put, sA]
  refine AtT.tk 2 ?_ 7 ?_ hS ?_
  rotate_left
  · (intro wS hSw; (try dsimp only at hSw); have kr0 := (Mem.row hSw .here).cell; go_simp; (try rw [if_neg (by omega)]); try with_reducible rfl)
  simp only [Act.put, sA]
  refine AtT.tk 3 ?_ 8 ?_ hS ?_
  rotate_left
  · (intro wS hSw; (try dsimp only at hSw); go_simp; (try rw [if_neg (by omega)]); try with_reducible rfl)
  simp only [Act.put, sA]
  refine AtT.tk 5 ?_ 10 ?_ hS ?_
  rotate_left
  · (intro wS hSw; (try dsimp only at hSw); go_simp; (try rw [if_neg (by omega)]); try with_reducible rfl)
  simp only [Act.put, sA]
  refine AtT.only (i := 4) (by kernel_rfl) rfl rfl ?_
  intro K hK
  go_simp
  refine (filterI_any _ _ _ (fun x => brn xs x.toNat) a' n' c' cs _ (h'.ext hM.below) (enters Tryz.func40 (by kernel_rfl) rfl) (fun x hx w' hb => by
  obtain ⟨m, rfl, hm⟩ := HMF.out x hx
  exact burns_any _ _ a n c xs m _ ((h.ext hM.below).ext hb) hm)).mono ?_
  rintro e w1 ⟨a2, m2, c2, rfl, hm⟩
  replace hM := hM.join hm
  clear hm
  try dsimp only
  refine hK.out _ _ (hM.tail) ?_
  clear hK K hS
  have hS := hM.tail
  refine AtT.only (i := 6) (by kernel_rfl) rfl rfl ?_
  intro K hK
  go_simp
  refine (flood_any _ _ _ (fun x y => nearN W x y && brn xs y) _ _ a n c xs _ _ _ qs _ (h.ext hM.below) (by rw [HNAT.out]; exact (hM.ints .here).ints) hn25 hql HFN.out (enters Tryz.func153 (by kernel_rfl) rfl) (fun x y hx hy w' hb => by
  have hM' := hM.ext hb
  exact reachable1_any W H a n c xs x y _ w' (h.ext hM'.below) hn25 hW hx hy (hM'.row (.there .here)))).mono ?_
  rw [← HQS.out, HRES.out]
  rintro e w1 ⟨a3, m3, c3, rfl, hm⟩
  replace hM := hM.join hm
  clear hm
  try dsimp only
  refine hK.out _ _ (hM.tail.tail) ?_
  clear hK K hS
  have hS := hM.tail.tail
  refine AtT.last (by kernel_rfl) rfl (by kernel_rfl) ?_
  intro K hK
  clear hS
  go_simp
  refine hK.out _ _ ?_
  clear hK K
  go_wp2
  go_ret
  exact ⟨a3, m3, c3, rfl, hM.first⟩
end Go.Proofs.YtojfbcgfeojdfaaGreat
