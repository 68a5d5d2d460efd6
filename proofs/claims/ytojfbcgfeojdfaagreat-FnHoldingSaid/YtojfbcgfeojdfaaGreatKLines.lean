/-
  Lines of the program: free, holds, isLine, IsLine.
-/
import Derived.Test.YtojfbcgfeojdfaaGreatKFlood
import Derived.Test.YtojfbcgfeojdfaaGreatKFloodW
import Derived.Test.YtojfbcgfeojdfaaGreatKReachS
/-
  Cases of lines: isRegion, isCase, free, holds, isLine; the reference's l9Asked, l9Line.
-/
namespace Go.Proofs.YtojfbcgfeojdfaaGreat
set_option linter.unusedSimpArgs false
set_option linter.unusedVariables false
open Go.RowKit

def caseB (W H : Int) (xs : List Int) (n : Nat) (ss ts : List Int) : Bool := goodB 20 W H xs && (setB n ss && setB n ts) && ss.all (fun c => !hasI ts c)
theorem caseB_true {W H : Int} {xs ss ts : List Int} {n : Nat} (h : caseB W H xs n ss ts = true) : goodB 20 W H xs = true ∧ setB n ss = true ∧ setB n ts = true ∧ ∀ c ∈ ss, hasI ts c = false := by
  unfold caseB at h
  simp only [Bool.and_eq_true, List.all_eq_true, Bool.not_eq_true'] at h
  exact ⟨h.1.1, h.1.2.1, h.1.2.2, h.2⟩
/-- may a line have the cell -/
def freeN (xs ss ts : List Int) (c : Nat) : Bool := brn xs c && !hasI ss c && !hasI ts c
/-- does the line hold -/
noncomputable def holdB (W n : Nat) (xs ss ts line : List Int) : Bool := ts.all fun c => !hasI (reachL W n (clrL xs line) (fun k => hasI ss k)) c
noncomputable def lineB (W n : Nat) (xs ss ts line : List Int) : Bool := line.all (fun c => hasI (cellsN n (freeN xs ss ts)) c) && holdB W n xs ss ts line

set_option maxRecDepth 100000 in
set_option maxHeartbeats 1000000 in
theorem isRegion2_any (W H : Int) (a : Option Addr) (n c : Nat) (xs : List Int) (a1 : Option Addr) (n1 c1 : Nat) (s1 : List Int) (a2 : Option Addr) (n2 c2 : Nat) (s2 : List Int) (b : Nat) (w : World) (h : Ints w a n c xs) (h1 : Ints w a1 n1 c1 s1) (h2 : Ints w a2 n2 c2 s2) (hr : Row w b #[.slice a1 n1 c1, .slice a2 n2 c2]) :
    Calls Tryz.prog 72 #[.agg #[.int .i64 W, .int .i64 H, .slice a n c], .slice (some ⟨b, 0, none⟩) 2 2] w fun e w' => e = .returned (.bool (goodB 20 W H xs && (setB n s1 && setB n s2))) ∧ Below w.heap.size w w' := by
  have hM := Mem.start w
  have hmf : ∀ (fn : Fn) (first cap : Array Value) (w : World), (Instr.makeFunc fn first cap).run Tryz.prog w = .ok (.func fn first cap) w := fun _ _ _ _ => rfl
  have HL := Lib.hid h.len
  cases hg : goodB 20 W H xs
  · skip
    go_enter Tryz.func72, Tryz.ntmps72
    go_wp2_with fail
    apply Mem.at
    · exact memA
    clear hM
    intro hM
    (try simp only [World.size_alloc, World.size_setCell, World.heap_drewN, heapDrew, Nat.add_assoc, Nat.reduceAdd, sA, List.cons_append, List.nil_append] at hM)
    refine (IsTerrain_any W H a n c xs _ (h.ext hM.below)).mono ?_
    rw [hg]
    rintro e w1 ⟨rfl, hb⟩
    replace hM := hM.ext hb
    clear hb
    go_wp2
    go_ret
    exact ⟨rb rfl, (by apply Mem.below; (exact memA))⟩
  · obtain ⟨Wn, Hn, rfl, rfl, p1, p2, p3, p4, hlen, h25, hall⟩ := goodB_true hg
    have hn25 : n ≤ 25 := by rw [← HL.out]; exact h25
    clear h25 hlen hall
    have HG := Lib.hid hg; clear hg
    go_enter Tryz.func72, Tryz.ntmps72
    go_wp2_with fail
    apply Mem.at
    · exact memA
    clear hM
    intro hM
    (try simp only [World.size_alloc, World.size_setCell, World.heap_drewN, heapDrew, Nat.add_assoc, Nat.reduceAdd, sA, List.cons_append, List.nil_append] at hM)
    refine (IsTerrain_any _ _ a n c xs _ (h.ext hM.below)).mono ?_
    rw [HG.out]
    rintro e w1 ⟨rfl, hb⟩
    replace hM := hM.ext hb
    clear hb
    obtain ⟨k0, f0, l0⟩ := hM.row .here
    go_wp2_with fail
    clear k0 f0 l0
    apply Mem.at
    · exact memA
    clear hM
    intro hM
    (try simp only [World.size_alloc, World.size_setCell, World.heap_drewN, heapDrew, Nat.add_assoc, Nat.reduceAdd, sA, List.cons_append, List.nil_append] at hM)
    refine (allV_any _ _ _ (fun k => if k = 0 then setB n s1 else setB n s2) b 2 _ _ (by omega) rfl (hr.ext hM.below) (fun k v hv => by
      match k, hv with
      | 0, hv => exact ⟨a1, n1, c1, (Option.some.inj hv).symm⟩
      | 1, hv => exact ⟨a2, n2, c2, (Option.some.inj hv).symm⟩
      | k + 2, hv => simp at hv) (enters Tryz.func46 (by kernel_rfl) rfl) (fun k v hv w' hb => by
      have hM' := hM.ext hb
      match k, hv with
      | 0, hv =>
        obtain rfl := Option.some.inj hv
        exact isSet_any _ _ a n c a1 n1 c1 s1 _ (h1.ext hM'.below) hn25
      | 1, hv =>
        obtain rfl := Option.some.inj hv
        exact isSet_any _ _ a n c a2 n2 c2 s2 _ (h2.ext hM'.below) hn25
      | k + 2, hv => simp at hv)).mono ?_
    rw [show (List.range 2).all (fun k => if k = 0 then setB n s1 else setB n s2) = (setB n s1 && setB n s2) by simp [List.range_succ]]
    rintro e w2 ⟨rfl, hb⟩
    replace hM := hM.ext hb
    clear hb
    go_wp2
    go_ret
    exact ⟨rb rfl, (by apply Mem.below; (exact memA))⟩

set_option maxRecDepth 100000 in
set_option maxHeartbeats 400000 in
theorem isCase1_any (a : Option Addr) (n c : Nat) (ts : List Int) (x : Int) (b : Nat) (w : World) (h : Ints w a n c ts) (hr : Row w b #[.slice a n c]) :
    Calls Tryz.prog 74 #[.int .i64 x, .pointer (some ⟨b, 0, none⟩)] w fun e w' => e = .returned (.bool (!hasI ts x)) ∧ Below w.heap.size w w' := by
  have k1 := hr.cell
  go_enter Tryz.func74, Tryz.ntmps74
  go_wp2_with fail
  refine (has_any a n c ts x _ h).mono ?_
  rintro e w1 ⟨rfl, rfl⟩
  go_wp2
  go_ret
  exact ⟨rfl, Below.refl _ _⟩

set_option maxRecDepth 100000 in
set_option maxHeartbeats 1000000 in
theorem isCase_any (W H : Int) (a : Option Addr) (n c : Nat) (xs : List Int) (a1 : Option Addr) (n1 c1 : Nat) (ss : List Int) (a2 : Option Addr) (n2 c2 : Nat) (ts : List Int) (w : World) (h : Ints w a n c xs) (h1 : Ints w a1 n1 c1 ss) (h2 : Ints w a2 n2 c2 ts) :
    Calls Tryz.prog 32 #[.agg #[.int .i64 W, .int .i64 H, .slice a n c], .slice a1 n1 c1, .slice a2 n2 c2] w fun e w' => e = .returned (.bool (caseB W H xs n ss ts)) ∧ Below w.heap.size w w' := by
  have hM := Mem.start w
  have hmf : ∀ (fn : Fn) (first cap : Array Value) (w : World), (Instr.makeFunc fn first cap).run Tryz.prog w = .ok (.func fn first cap) w := fun _ _ _ _ => rfl
  obtain ⟨r, hr⟩ : ∃ r, (goodB 20 W H xs && (setB n ss && setB n ts)) = r := ⟨_, rfl⟩
  have HF := Lib.hid (show caseB W H xs n ss ts = (r && ss.all (fun c => !hasI ts c)) by rw [caseB, hr])
  have HR := Lib.hid hr
  clear hr
  go_enter Tryz.func32, Tryz.ntmps32
  go_wp2_with fail
  apply Mem.at
  · exact memA
  clear hM
  intro hM
  (try simp only [World.size_alloc, World.size_setCell, World.heap_drewN, heapDrew, Nat.add_assoc, Nat.reduceAdd, sA, List.cons_append, List.nil_append] at hM)
  refine (isRegion2_any W H a n c xs a1 n1 c1 ss a2 n2 c2 ts _ _ (h.ext hM.below) (h1.ext hM.below) (h2.ext hM.below) (hM.row .here)).mono ?_
  rw [HR.out]
  rintro e w1 ⟨rfl, hb⟩
  replace hM := hM.ext hb
  clear hb
  cases r
  · go_wp2
    go_ret
    exact ⟨rb (by rw [HF.out]; rfl), (by apply Mem.below; (exact memA))⟩
  go_wp2_with fail
  apply Mem.at
  · exact memA
  clear hM
  intro hM
  (try simp only [World.size_alloc, World.size_setCell, World.heap_drewN, heapDrew, Nat.add_assoc, Nat.reduceAdd, sA, List.cons_append, List.nil_append] at hM)
  refine (all_any _ _ (fun c => !hasI ts c) a1 n1 c1 ss _ (h1.ext hM.below) (enters Tryz.func74 (by kernel_rfl) rfl) (fun x hx w' hb => by
    have hM' := hM.ext hb
    exact isCase1_any a2 n2 c2 ts x _ w' (h2.ext hM'.below) (hM'.row (.there .here)))).mono ?_
  rintro e w2 ⟨rfl, hb⟩
  replace hM := hM.ext hb
  clear hb
  go_wp2
  go_ret
  exact ⟨rb (by rw [HF.out]; rfl), (by apply Mem.below; (exact memA))⟩
end Go.Proofs.YtojfbcgfeojdfaaGreat

/-
  Lines of the program: free, holds, isLine, IsLine.
-/
namespace Go.Proofs.YtojfbcgfeojdfaaGreat
set_option linter.unusedSimpArgs false
set_option linter.unusedVariables false
open Go.RowKit

set_option maxRecDepth 100000 in
set_option maxHeartbeats 1000000 in
theorem free1_any (W H : Int) (a : Option Addr) (n c : Nat) (xs : List Int) (a1 : Option Addr) (n1 c1 : Nat) (ss : List Int) (a2 : Option Addr) (n2 c2 : Nat) (ts : List Int) (k b0 b1 b2 : Nat) (w : World) (h : Ints w a n c xs) (h1 : Ints w a1 n1 c1 ss) (h2 : Ints w a2 n2 c2 ts) (hk : k < n)
    (r0 : Row w b0 #[.int .i64 W, .int .i64 H, .slice a n c]) (r1 : Row w b1 #[.slice a1 n1 c1]) (r2 : Row w b2 #[.slice a2 n2 c2]) :
    Calls Tryz.prog 127 #[.int .i64 k, .pointer (some ⟨b0, 0, none⟩), .pointer (some ⟨b1, 0, none⟩), .pointer (some ⟨b2, 0, none⟩)] w fun e w' => e = .returned (.bool (freeN xs ss ts k)) ∧ Below w.heap.size w w' := by
  obtain ⟨x, hx⟩ : ∃ x, brn xs k = x := ⟨_, rfl⟩
  obtain ⟨y, hy⟩ : ∃ y, hasI ss (k : Int) = y := ⟨_, rfl⟩
  have HF := Lib.hid (show freeN xs ss ts k = (x && !y && !hasI ts k) by rw [freeN, hx, hy])
  have HX := Lib.hid hx; have HY := Lib.hid hy
  clear hx hy
  have k0 := r0.cell
  go_enter Tryz.func127, Tryz.ntmps127
  go_wp2_with fail
  refine (burns_any _ _ a n c xs k _ h hk).mono ?_
  rw [HX.out]
  rintro e w1 ⟨rfl, hb⟩
  clear k0
  have k1 := (r1.ext hb).cell
  cases x
  · go_wp2
    go_ret
    exact ⟨rb (by rw [HF.out]; rfl), hb⟩
  go_wp2_with fail
  refine (has_any a1 n1 c1 ss k _ (h1.ext hb)).mono ?_
  rw [HY.out]
  rintro e w2 ⟨rfl, rfl⟩
  have k2 := (r2.ext hb).cell
  cases y
  · go_wp2_with fail
    refine (has_any a2 n2 c2 ts k _ (h2.ext hb)).mono ?_
    rintro e w2 ⟨rfl, rfl⟩
    go_wp2
    go_ret
    exact ⟨rb (by rw [HF.out]; rfl), hb⟩
  · go_wp2
    go_ret
    exact ⟨rb (by rw [HF.out]; rfl), hb⟩

set_option maxRecDepth 100000 in
set_option maxHeartbeats 1000000 in
theorem free_any (W H : Int) (a : Option Addr) (n c : Nat) (xs : List Int) (a1 : Option Addr) (n1 c1 : Nat) (ss : List Int) (a2 : Option Addr) (n2 c2 : Nat) (ts : List Int) (w : World) (h : Ints w a n c xs) (h1 : Ints w a1 n1 c1 ss) (h2 : Ints w a2 n2 c2 ts) (hn25 : n ≤ 25) :
    Calls Tryz.prog 90 #[.agg #[.int .i64 W, .int .i64 H, .slice a n c], .slice a1 n1 c1, .slice a2 n2 c2] w fun e w' => ∃ a3 m c3, e = .returned (.slice a3 m c3) ∧ Mem w.heap.size w w' [intE a3 m c3 (cellsN n (freeN xs ss ts))] := by
  have hM := Mem.start w
  have hmf : ∀ (fn : Fn) (first cap : Array Value) (w : World), (Instr.makeFunc fn first cap).run Tryz.prog w = .ok (.func fn first cap) w := fun _ _ _ _ => rfl
  go_enter Tryz.func90, Tryz.ntmps90
  go_wp2_with fail
  apply Mem.at
  · exact memA
  clear hM
  intro hM
  (try simp only [World.size_alloc, World.size_setCell, World.heap_drewN, heapDrew, Nat.add_assoc, Nat.reduceAdd, sA, List.cons_append, List.nil_append] at hM)
  refine (cellsThat_any _ _ _ (freeN xs ss ts) _ _ a n c xs _ (h.ext hM.below) hn25 (enters Tryz.func127 (by kernel_rfl) rfl) (fun k hk w' hb => by
    have hM' := hM.ext hb
    exact free1_any W H a n c xs a1 n1 c1 ss a2 n2 c2 ts k _ _ _ w' (h.ext hM'.below) (h1.ext hM'.below) (h2.ext hM'.below) hk (hM'.row (.there (.there .here))) (hM'.row (.there .here)) (hM'.row .here))).mono ?_
  rintro e w1 ⟨a3, m, c3, rfl, hm⟩
  replace hM := hM.join hm
  clear hm
  go_wp2
  go_ret
  exact ⟨a3, m, c3, rfl, hM.first⟩

set_option maxRecDepth 100000 in
set_option maxHeartbeats 400000 in
theorem holds1_any (a : Option Addr) (n c : Nat) (rs : List Int) (x : Int) (b : Nat) (w : World) (h : Ints w a n c rs) (hr : Row w b #[.slice a n c]) :
    Calls Tryz.prog 130 #[.int .i64 x, .pointer (some ⟨b, 0, none⟩)] w fun e w' => e = .returned (.bool (!hasI rs x)) ∧ Below w.heap.size w w' := by
  have k1 := hr.cell
  go_enter Tryz.func130, Tryz.ntmps130
  go_wp2_with fail
  refine (has_any a n c rs x _ h).mono ?_
  rintro e w1 ⟨rfl, rfl⟩
  go_wp2
  go_ret
  exact ⟨rfl, Below.refl _ _⟩

set_option maxRecDepth 100000 in
set_option maxHeartbeats 1000000 in
theorem holds_any (W Hn : Nat) (a : Option Addr) (n c : Nat) (xs : List Int) (a1 : Option Addr) (n1 c1 : Nat) (ss : List Int) (a2 : Option Addr) (n2 c2 : Nat) (ts : List Int) (a3 : Option Addr) (n3 c3 : Nat) (line : List Int) (w : World) (h : Ints w a n c xs) (h1 : Ints w a1 n1 c1 ss) (h2 : Ints w a2 n2 c2 ts) (h3 : Ints w a3 n3 c3 line)
    (hnp : 0 < n) (hn25 : n ≤ 25) (hW : 1 ≤ W ∧ W ≤ 5) (hs : setB n ss = true) (hl : setB n line = true) :
    Calls Tryz.prog 92 #[.agg #[.int .i64 W, .int .i64 Hn, .slice a n c], .slice a1 n1 c1, .slice a2 n2 c2, .slice a3 n3 c3] w fun e w' => e = .returned (.bool (holdB W n xs ss ts line)) ∧ Below w.heap.size w w' := by
  have hM := Mem.start w
  have hmf : ∀ (fn : Fn) (first cap : Array Value) (w : World), (Instr.makeFunc fn first cap).run Tryz.prog w = .ok (.func fn first cap) w := fun _ _ _ _ => rfl
  obtain ⟨rs, hrs⟩ : ∃ rs, reachL W n (clrL xs line) (fun k => hasI ss k) = rs := ⟨_, rfl⟩
  have HF := Lib.hid (show holdB W n xs ss ts line = ts.all fun c => !hasI rs c by rw [holdB, hrs])
  have HR := Lib.hid hrs
  have HS := Lib.hid hs; have HL := Lib.hid hl
  clear hrs hs hl
  go_enter Tryz.func92, Tryz.ntmps92
  go_wp2_with fail
  apply Mem.at
  · exact memA
  clear hM
  intro hM
  (try simp only [World.size_alloc, World.size_setCell, World.heap_drewN, heapDrew, Nat.add_assoc, Nat.reduceAdd, sA, List.cons_append, List.nil_append] at hM)
  refine (cleared_any W Hn a n c xs a3 n3 c3 line _ (h.ext hM.below) (h3.ext hM.below) hnp hn25 HL.out).mono ?_
  rintro e w1 ⟨a4, c4, rfl, hO, hb⟩
  replace hM := hM.own hb hO
  clear hb hO
  go_wp2_with fail
  apply Mem.at
  · exact memA
  clear hM
  intro hM
  (try simp only [World.size_alloc, World.size_setCell, World.heap_drewN, heapDrew, Nat.add_assoc, Nat.reduceAdd, sA, List.cons_append, List.nil_append] at hM)
  refine (reachable_any W Hn a4 n c4 (clrL xs line) a1 n1 c1 ss _ (hM.ints .here).ints (h1.ext hM.below) hn25 hW HS.out).mono ?_
  rw [HR.out]
  rintro e w2 ⟨a5, m5, c5, rfl, hm⟩
  replace hM := hM.join hm
  clear hm
  go_wp2_with fail
  apply Mem.at
  · exact memA
  clear hM
  intro hM
  (try simp only [World.size_alloc, World.size_setCell, World.heap_drewN, heapDrew, Nat.add_assoc, Nat.reduceAdd, sA, List.cons_append, List.nil_append] at hM)
  refine (all_any _ _ (fun c => !hasI rs c) a2 n2 c2 ts _ (h2.ext hM.below) (enters Tryz.func130 (by kernel_rfl) rfl) (fun x hx w' hb => by
    have hM' := hM.ext hb
    exact holds1_any a5 m5 c5 rs x _ w' (hM'.ints (.there .here)).ints (hM'.row .here))).mono ?_
  rintro e w3 ⟨rfl, hb⟩
  replace hM := hM.ext hb
  clear hb
  go_wp2
  go_ret
  exact ⟨rb HF.out.symm, (by apply Mem.below; (exact memA))⟩

set_option maxRecDepth 100000 in
set_option maxHeartbeats 400000 in
theorem isLine1_any (a : Option Addr) (n c : Nat) (rs : List Int) (x : Int) (b : Nat) (w : World) (h : Ints w a n c rs) (hr : Row w b #[.slice a n c]) :
    Calls Tryz.prog 91 #[.int .i64 x, .pointer (some ⟨b, 0, none⟩)] w fun e w' => e = .returned (.bool (hasI rs x)) ∧ Below w.heap.size w w' := by
  have k1 := hr.cell
  go_enter Tryz.func91, Tryz.ntmps91
  go_wp2_with fail
  refine (has_any a n c rs x _ h).mono ?_
  rintro e w1 ⟨rfl, rfl⟩
  go_wp2
  go_ret
  exact ⟨rfl, Below.refl _ _⟩

set_option maxRecDepth 100000 in
set_option maxHeartbeats 1000000 in
theorem isLine_any (W Hn : Nat) (a : Option Addr) (n c : Nat) (xs : List Int) (a1 : Option Addr) (n1 c1 : Nat) (ss : List Int) (a2 : Option Addr) (n2 c2 : Nat) (ts : List Int) (a3 : Option Addr) (n3 c3 : Nat) (line : List Int) (w : World) (h : Ints w a n c xs) (h1 : Ints w a1 n1 c1 ss) (h2 : Ints w a2 n2 c2 ts) (h3 : Ints w a3 n3 c3 line)
    (hnp : 0 < n) (hn25 : n ≤ 25) (hW : 1 ≤ W ∧ W ≤ 5) (hs : setB n ss = true) (hl : setB n line = true) :
    Calls Tryz.prog 47 #[.agg #[.int .i64 W, .int .i64 Hn, .slice a n c], .slice a1 n1 c1, .slice a2 n2 c2, .slice a3 n3 c3] w fun e w' => e = .returned (.bool (lineB W n xs ss ts line)) ∧ Below w.heap.size w w' := by
  have hM := Mem.start w
  have hmf : ∀ (fn : Fn) (first cap : Array Value) (w : World), (Instr.makeFunc fn first cap).run Tryz.prog w = .ok (.func fn first cap) w := fun _ _ _ _ => rfl
  obtain ⟨ms, hms⟩ : ∃ ms, cellsN n (freeN xs ss ts) = ms := ⟨_, rfl⟩
  obtain ⟨q, hq⟩ : ∃ q, line.all (fun c => hasI ms c) = q := ⟨_, rfl⟩
  have HF := Lib.hid (show lineB W n xs ss ts line = (q && holdB W n xs ss ts line) by rw [lineB, hms, hq])
  have HMS := Lib.hid hms
  have HQ := Lib.hid hq
  have HS := Lib.hid hs; have HL := Lib.hid hl
  clear hms hs hl hq
  go_enter Tryz.func47, Tryz.ntmps47
  go_wp2_with fail
  apply Mem.at
  · exact memA
  clear hM
  intro hM
  (try simp only [World.size_alloc, World.size_setCell, World.heap_drewN, heapDrew, Nat.add_assoc, Nat.reduceAdd, sA, List.cons_append, List.nil_append] at hM)
  refine (free_any _ _ a n c xs a1 n1 c1 ss a2 n2 c2 ts _ (h.ext hM.below) (h1.ext hM.below) (h2.ext hM.below) hn25).mono ?_
  rw [HMS.out]
  rintro e w1 ⟨a4, m4, c4, rfl, hm⟩
  replace hM := hM.join hm
  clear hm
  go_wp2_with fail
  apply Mem.at
  · exact memA
  clear hM
  intro hM
  (try simp only [World.size_alloc, World.size_setCell, World.heap_drewN, heapDrew, Nat.add_assoc, Nat.reduceAdd, sA, List.cons_append, List.nil_append] at hM)
  refine (all_any _ _ (fun c => hasI ms c) a3 n3 c3 line _ (h3.ext hM.below) (enters Tryz.func91 (by kernel_rfl) rfl) (fun x hx w' hb => by
    have hM' := hM.ext hb
    exact isLine1_any a4 m4 c4 ms x _ w' (hM'.ints (.there .here)).ints (hM'.row .here))).mono ?_
  rw [HQ.out]
  rintro e w2 ⟨rfl, hb⟩
  replace hM := hM.ext hb
  clear hb
  cases q
  · go_wp2
    go_ret
    exact ⟨rb (by rw [HF.out]; rfl), (by apply Mem.below; (exact memA))⟩
  obtain ⟨k2, f2, l2⟩ := hM.row (.there (.there .here))
  go_wp2_with fail
  clear k2 f2 l2
  apply Mem.at
  · exact memA
  clear hM
  intro hM
  (try simp only [World.size_alloc, World.size_setCell, World.heap_drewN, heapDrew, Nat.add_assoc, Nat.reduceAdd, sA, List.cons_append, List.nil_append] at hM)
  refine (holds_any W Hn a n c xs a1 n1 c1 ss a2 n2 c2 ts a3 n3 c3 line _ (h.ext hM.below) (h1.ext hM.below) (h2.ext hM.below) (h3.ext hM.below) hnp hn25 hW HS.out HL.out).mono ?_
  rintro e w3 ⟨rfl, hb⟩
  replace hM := hM.ext hb
  clear hb
  go_wp2
  go_ret
  exact ⟨rb (by rw [HF.out]; rfl), (by apply Mem.below; (exact memA))⟩
end Go.Proofs.YtojfbcgfeojdfaaGreat
