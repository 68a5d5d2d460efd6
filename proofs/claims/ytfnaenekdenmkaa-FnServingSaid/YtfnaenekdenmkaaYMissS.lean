/-
  Library and program: sorting and testing stores.
-/
import Derived.Test.YtfnaenekdenmkaaYSortStock
import Derived.Test.YtfnaenekdenmkaaYCmpS
import Derived.Test.YtfnaenekdenmkaaYMissQ
import Derived.Test.YtfnaenekdenmkaaYStoI
import Derived.RegionTactic
/-
  Library and program: sorting and testing stores.
-/
namespace Go.Proofs.Ytfnaenekdenmkaa
set_option linter.unusedSimpArgs false
set_option linter.unusedVariables false
open Go.RowKit

set_option maxRecDepth 100000 in
set_option maxHeartbeats 400000 in
theorem containsStock_any (f : FuncId) (caps : Array Value) (p : StockI → Bool) (a : Option Addr) (n c : Nat) (xs : List StockI) (w : World) (h : Rd FStock w a n c xs) (hcf : ∀ args w, (callFunc f args).run Try.prog w = .ok (.enter f args) w) (hf : AnswersStock f caps p xs w) :
    Calls Try.prog 125 #[.slice a n c, .func (.func f) #[] caps] w fun o w' => o = .returned (.bool (xs.any p)) ∧ Below w.heap.size w w' := by
  have HF := Lib.hid hf
  clear hf
  go_enter Try.func125, Try.ntmps125
  go_wp2_with fail
  refine (indexStock_any f caps p a n c xs _ h hcf HF.out).mono ?_
  obtain ⟨i, hi, hi2⟩ : ∃ i : Int, idxR p xs = i ∧ decide (0 ≤ i) = xs.any p := ⟨_, rfl, idxR_sign p xs⟩
  rw [hi]
  clear hi
  rintro o w1 ⟨rfl, hb1⟩
  cases hp : xs.any p
  all_goals
    have hd : decide (0 ≤ i) = _ := hi2.trans hp
    clear hi2
    go_wp2
    go_ret
    exact ⟨rb hp.symm, hb1⟩

set_option maxRecDepth 100000 in
set_option maxHeartbeats 400000 in
theorem allStock1_any (f : FuncId) (caps : Array Value) (y : Bool) (v : StockI) (b : Nat) (w : World) (hlt : b < w.heap.size) (hc : w.cell? ⟨b, 0, none⟩ = some (.func (.func f) #[] caps)) (hcf : ∀ args w, (callFunc f args).run Try.prog w = .ok (.enter f args) w)
    (hf : ∀ w', Below w.heap.size w w' → Calls Try.prog f (#[v.val] ++ caps) w' fun o w'' => o = .returned (.bool y) ∧ Below w'.heap.size w' w'') :
    Calls Try.prog 126 #[v.val, .pointer (some ⟨b, 0, none⟩)] w fun o w' => o = .returned (.bool (!y)) ∧ Below w.heap.size w w' := by
  have HF := Lib.hid hf
  clear hf
  go_enter Try.func126, Try.ntmps126
  go_wp2_with fail
  refine (HF.out _ (by (repeat' (first | exact Below.refl _ _ | with_reducible refine Below.setCell ?_ (by first | omega | (simp; done) | (simp; omega)) _ | with_reducible refine Below.alloc ?_ (by first | omega | (simp; done) | (simp; omega)) _ | with_reducible refine Below.drew ?_ | with_reducible refine bdrewN ?_ _)))).mono ?_
  rintro o w1 ⟨rfl, hb1⟩
  cases y
  all_goals
    go_wp2
    go_ret
    exact ⟨rfl, by (repeat' (first | exact Below.refl _ _ | with_reducible refine Below.setCell ?_ (by first | omega | (simp; done) | (simp; omega)) _ | with_reducible refine Below.alloc ?_ (by first | omega | (simp; done) | (simp; omega)) _ | with_reducible refine Below.drew ?_ | with_reducible refine bdrewN ?_ _ | with_reducible refine Below.trans ?_ (Below.mono hb1 (by first | omega | (simp; done) | (simp; omega)))))⟩

set_option maxRecDepth 100000 in
set_option maxHeartbeats 400000 in
theorem allStock_any (f : FuncId) (caps : Array Value) (p : StockI → Bool) (a : Option Addr) (n c : Nat) (xs : List StockI) (w : World) (h : Rd FStock w a n c xs) (hcf : ∀ args w, (callFunc f args).run Try.prog w = .ok (.enter f args) w) (hf : AnswersStock f caps p xs w) :
    Calls Try.prog 79 #[.slice a n c, .func (.func f) #[] caps] w fun o w' => o = .returned (.bool (xs.all p)) ∧ Below w.heap.size w w' := by
  have HF := Lib.hid hf
  clear hf
  have hA : AnswersStock 126 #[.pointer (some ⟨w.heap.size, 0, none⟩)] (fun v => !p v) xs (w.alloc (.cells #[.func (.func f) #[] caps] 104)) := by
    intro v hv w' hb
    exact allStock1_any f caps (p v) v w.heap.size w' (by have := hb.size; simp at this; omega) (by
      have := hb.cell (p := ⟨w.heap.size, 0, none⟩) (by simp)
      rw [this]; exact newRow w _ rfl _ _ 0) hcf (fun w'' hb2 => HF.out v hv w'' (by
        have h1 : Below w.heap.size w w' := Below.trans ((Below.refl _ _).alloc (Nat.le_refl _) _) (hb.mono (by simp))
        exact h1.trans (hb2.mono h1.size)))
  have HA := Lib.hid hA
  clear hA
  have HN : Hid ((xs.any fun v => !p v) = !xs.all p) := by
    show _ = _
    clear HF HA h
    induction xs with
    | nil => rfl
    | cons v r ih => simp only [List.any_cons, List.all_cons, ih]; cases p v <;> simp
  have hmf : ∀ (fn : Fn) (first cap : Array Value) (w : World), (Instr.makeFunc fn first cap).run Try.prog w = .ok (.func fn first cap) w := fun _ _ _ _ => rfl
  go_enter Try.func79, Try.ntmps79
  go_wp2_with fail
  refine (containsStock_any _ _ _ a n c xs _ (h.ext ((Below.refl _ _).alloc (Nat.le_refl _) _)) (enters Try.func126 (by kernel_rfl) rfl) HA.out).mono ?_
  rintro o w1 ⟨rfl, hb1⟩
  rw [HN.out]
  cases hp : xs.all p
  all_goals
    go_wp2
    go_ret
    exact ⟨rb hp.symm, ((Below.refl _ _).alloc (Nat.le_refl _) _).trans (hb1.mono (by simp))⟩

theorem bitsLen_any (n : Nat) (hn : n ≤ 12) (w : World) : Calls Try.prog 123 #[.int .u64 n] w fun e w' => (∃ r : Int, e = .returned (.int .i64 r)) ∧ w = w' := by
  go_enter Try.func123, Try.ntmps123
  go_wp2_with fail
  refine (len64_any n hn _).mono ?_
  rintro e w1 ⟨⟨r, rfl⟩, rfl⟩
  go_wp2
  go_ret
  exact ⟨⟨_, rfl⟩, rfl⟩
set_option maxHeartbeats 2000000 in
theorem pdqStock_any (B : Nat) (w0 : World) (G : List Ent) (g n c : Nat) (l : Int) (xs : List StockI) (f : FuncId) (caps : Array Value) (lt : StockI → StockI → Bool) (w : World) (hM : Mem B w0 w (owE FStock 46 (some ⟨g, 0, none⟩) n c xs :: G)) (hn : n ≤ 12)
    (hcf : ∀ args w, (callFunc f args).run Try.prog w = .ok (.enter f args) w) (hc : ComparesStock f caps lt B w0 G xs) :
    Calls Try.prog 122 #[.slice (some ⟨g, 0, none⟩) n c, .int .i64 0, .int .i64 n, .int .i64 l, .func (.func f) #[] caps] w fun e w' => e = .returned (.tuple #[]) ∧ Mem B w0 w' (owE FStock 46 (some ⟨g, 0, none⟩) n c (isortG StockI.zero lt xs) :: G) := by
  have HC := Lib.hid hc; clear hc
  go_enter Try.func122, Try.ntmps122
  go_wp2
  refine wp_loop_rounds 1 ?_
  rw [rounds_succ]
  go_wp2_with fail
  refine (insertionStock_any B w0 G g n c xs f caps lt _ hM (by omega) hcf HC.out).mono ?_
  rintro e w2 ⟨rfl, hM2⟩
  go_wp2
  (try simp only [Exit.inBlock, Exit.then]); refine bodyPost_ret (results_none rfl _ _ _) rfl ?_
  exact ⟨rfl, hM2⟩
set_option maxHeartbeats 2000000 in
theorem sortStock_any (B : Nat) (w0 : World) (G : List Ent) (g n c : Nat) (xs : List StockI) (f : FuncId) (caps : Array Value) (lt : StockI → StockI → Bool) (w : World) (hM : Mem B w0 w (owE FStock 46 (some ⟨g, 0, none⟩) n c xs :: G)) (hn : n ≤ 12)
    (hcf : ∀ args w, (callFunc f args).run Try.prog w = .ok (.enter f args) w) (hc : ComparesStock f caps lt B w0 G xs) :
    Calls Try.prog 76 #[.slice (some ⟨g, 0, none⟩) n c, .func (.func f) #[] caps] w fun e w' => e = .returned (.tuple #[]) ∧ Mem B w0 w' (owE FStock 46 (some ⟨g, 0, none⟩) n c (isortG StockI.zero lt xs) :: G) := by
  have HC := Lib.hid hc; clear hc
  go_enter Try.func76, Try.ntmps76
  go_wp2_with fail
  refine (bitsLen_any n hn _).mono ?_
  rintro e w1 ⟨⟨l, rfl⟩, rfl⟩
  go_wp2_with fail
  refine (pdqStock_any B w0 G g n c l xs f caps lt _ hM hn hcf HC.out).mono ?_
  rintro e w2 ⟨rfl, hM2⟩
  go_wp2
  go_end0
  exact ⟨rfl, hM2⟩
end Go.Proofs.Ytfnaenekdenmkaa
