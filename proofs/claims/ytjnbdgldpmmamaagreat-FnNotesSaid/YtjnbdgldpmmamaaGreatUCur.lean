/-
  The reference's draws: a cursor over bytes. Only what is needed: a number within bounds comes, nothing panics, the cursor goes on.
-/
import Derived.Test.YtjnbdgldpmmamaaGreatURd
import Derived.Test.YtjnbdgldpmmamaaGreatULst
import Derived.Laws.Bits64b
import Derived.BigQuiet
import Derived.IntWalk
import Derived.Deep.DeepCutAuto
/-
  The reference's draws: a cursor over bytes. Only what is needed: a number within bounds comes, nothing panics, the cursor goes on.
-/
namespace Go.Proofs.YtjnbdgldpmmamaaGreat
set_option linter.unusedSimpArgs false
set_option linter.unusedVariables false
open Go.RowKit

/-- bytes as cells -/
def FByt : Fl UInt8 where
  sz := 1
  enc x := [.int .u8 (x.toNat : Int)]
  z := 0
  wf _ := True
  pos := by decide
  len _ := rfl
  one := by
    intro x v hv
    obtain rfl := List.mem_singleton.1 hv
    rfl
/-- the cursor at block g, not yet behind A -/
def curE (g : Nat) (ac : Option Addr) (nc cc : Nat) (A : Nat) : Ent where
  hold B w := B ≤ g ∧ ∃ (k : Nat) (sd : Int), k ≤ A ∧ w.heap[g]? = some (.cells #[.slice ac nc cc, .int .i64 k, .int .u64 sd] 63 (0, 0))
  blk k := k = g
  lt := by
    rintro B w ⟨h1, k, sd, _, h2⟩ k rfl
    exact ⟨h1, (Array.getElem?_eq_some_iff.1 h2).1⟩
  mono := fun h hB => ⟨Nat.le_trans hB h.1, h.2⟩
  keep := by
    rintro B w d w' ⟨h1, k, sd, h3, h2⟩ hk hd
    exact ⟨h1, k, sd, h3, by rw [hk.block g (Array.getElem?_eq_some_iff.1 h2).1 (hd g rfl)]; exact h2⟩
section
variable {B : Nat} {w0 w w' : World} {G : List Ent} {F : Ent → List Ent} {g : Nat} {ac : Option Addr} {nc cc A : Nat} {e : Ent}
theorem Mem.curOpen (h : Mem B w0 w G) (p : At G (curE g ac nc cc A) F) : ∃ (k : Nat) (sd : Int), k ≤ A ∧ Mem B w0 w (F (rowE g 63 #[.slice ac nc cc, .int .i64 k, .int .u64 sd])) := by
  rw [← p.self] at h
  obtain ⟨h1, k, sd, hk, h2⟩ := h.ents _ (p.in _).mem
  exact ⟨k, sd, hk, h.put (p.put _ _) (Keeps.refl _ _) ⟨h1, h2⟩ (fun k hk => .inl hk)⟩
theorem Mem.curClose {k : Nat} {sd : Int} (h : Mem B w0 w (F (rowE g 63 #[.slice ac nc cc, .int .i64 k, .int .u64 sd]))) (p : At G e F) (hk : k ≤ A) : Mem B w0 w (F (curE g ac nc cc A)) := by
  obtain ⟨h1, h2⟩ := h.ents _ (p.in _).mem
  exact h.put (p.put _ _) (Keeps.refl _ _) ⟨h1, k, sd, hk, h2⟩ (fun k hk => .inl hk)
theorem Mem.curMore {A' : Nat} (h : Mem B w0 w G) (p : At G (curE g ac nc cc A) F) (hA : A ≤ A') : Mem B w0 w (F (curE g ac nc cc A')) := by
  obtain ⟨k, sd, hk, h1⟩ := h.curOpen p
  exact h1.curClose p (Nat.le_trans hk hA)
/-- a new cursor -/
theorem Mem.curNew (h : Mem B w0 w (rowE g 63 #[.slice ac nc cc, .int .i64 0, .int .u64 0] :: G)) : Mem B w0 w (curE g ac nc cc 0 :: G) :=
  Mem.curClose (F := fun e => e :: G) (k := 0) h (At.here (e := rowE 0 0 #[]) (G := G)) (Nat.le_refl _)
theorem Sto.at1 {T : TypeId} {cs : Array Value} {o : Nat} {v : Value} (p : At G e F) : Sto (F (rowE g T cs)) g o v (F (rowE g T (cs.setIfInBounds o v))) := by
  obtain ⟨x, x', _, h⟩ := Sto.row (b := g) (T := T) (cs := cs) (o := o) (v := v) (G := [])
  refine ⟨rowE g T cs, rowE g T (cs.setIfInBounds o v), p.put _ _, fun k => Iff.rfl, fun k => Iff.rfl, ?_⟩
  rintro B w ⟨h1, h2⟩
  refine ⟨h1, ?_⟩
  simp only [World.setCell, Array.getElem?_modify, h2]
  simp
end
theorem Mem.curSet1 {B : Nat} {w0 w : World} {G : List Ent} {F : Ent → List Ent} {g : Nat} {T : TypeId} {e : Ent} {x y z v : Value} (h : Mem B w0 w (F (rowE g T #[x, y, z]))) (p : At G e F) : Mem B w0 (w.setCell ⟨g, 1, none⟩ v) (F (rowE g T #[x, v, z])) := h.set (Sto.at1 p)
theorem Mem.curSet2 {B : Nat} {w0 w : World} {G : List Ent} {F : Ent → List Ent} {g : Nat} {T : TypeId} {e : Ent} {x y z v : Value} (h : Mem B w0 w (F (rowE g T #[x, y, z]))) (p : At G e F) : Mem B w0 (w.setCell ⟨g, 2, none⟩ v) (F (rowE g T #[x, y, v])) := h.set (Sto.at1 p)
theorem Mem.atCur {B : Nat} {w0 w : World} {F : Ent → List Ent} {g : Nat} {x y : Value} {sd : Int} {P : Program} {c : Code} {a : Act} {Q : Exit → Act → World → Prop} (h : Mem B w0 w (F (rowE g 63 #[x, y, .int .u64 sd]))) (k : ∀ w sd, Mem B w0 w (F (rowE g 63 #[x, y, .int .u64 sd])) → c.wp P Q a w) : c.wp P Q a w := k w sd h
theorem and_255 (z : Int) : ∃ r : Nat, r ≤ 255 ∧ bits .and .u64 z 255 = (r : Int) := by
  refine ⟨(BitVec.ofInt 64 z).toNat &&& 255, Nat.and_le_right, ?_⟩
  show IntKind.u64.wrap ((BitVec.ofInt 64 z &&& BitVec.ofInt 64 255).toNat : Int) = _
  rw [BitVec.toNat_and, IntKind.wrap_u64]
  have h2 : (BitVec.ofInt 64 255).toNat = 255 := by decide
  rw [h2]
  have : (BitVec.ofInt 64 z).toNat &&& 255 ≤ 255 := Nat.and_le_right
  omega

set_option maxRecDepth 100000 in
set_option maxHeartbeats 8000000 in
theorem next_any {g : Nat} {ac : Option Addr} {nc cc : Nat} {l : List UInt8} {A : Nat} {w0 w : World} {G : List Ent} {F : Ent → List Ent} (hC : Rd FByt w0 ac nc cc l) (hM : Mem w0.heap.size w0 w G) (p : At G (curE g ac nc cc A) F) (hA : A ≤ 1000000000000) :
    Calls Tryz.prog 74 #[.pointer (some ⟨g, 0, none⟩)] w fun e w' => ∃ r : Nat, r ≤ 255 ∧ e = .returned (.int .i64 r) ∧ Mem w0.heap.size w0 w' (F (curE g ac nc cc (A + 1))) := by
  obtain ⟨k, sd, hk, hM2⟩ := hM.curOpen p
  clear hM
  have hM := hM2
  clear hM2
  have hroom := hC.nroom
  have HP := Lib.hid p
  obtain ⟨kc, fc, lc⟩ := hM.row (p.in _)
  have i0 : (0 : Int) ≤ (k : Int) := by omega
  have HAND := Lib.hid and_255
  clear p
  by_cases hlt : k < nc
  · have hC' := hC.ext hM.below
    obtain ⟨b, off, rfl, hb, hcell⟩ := hC'.at' k hlt
    have hck : w.cell? ⟨b, off + k, none⟩ = some (.int .u8 ((l.getD k 0).toNat : Int)) := by
      have := hcell k hlt 0 (by decide)
      simpa [FByt] using this
    clear hcell hC'
    have hv : (l.getD k 0).toNat < 256 := (l.getD k 0).toNat_lt
    generalize (l.getD k 0).toNat = v at hck hv
    go_enter Tryz.func74, Tryz.ntmps74
    go_wp2
    go_quiet (fail)
    go_wp2
    go_quiet (fail)
    go_upto_region 6 with fail
    apply Mem.atCur (F := F) (B := w0.heap.size) (w0 := w0) (g := g) (x := .slice (some ⟨b, off, none⟩) nc cc) (y := .int .i64 ((k + 1 : Nat) : Int))
    · exact ((hM.drewN _).curSet1 HP.out).curSet2 HP.out
    clear hM kc fc lc hck
    intro w2 sd2 hM
    obtain ⟨kc, fc, lc⟩ := hM.row (HP.out.in _)
    have hle : (k : Int) + 1 ≤ (nc : Int) := by omega
    go_quiet (fail)
    go_wp2
    go_ret
    exact ⟨v, by omega, rfl, ((hM.drewN _).curClose HP.out (by omega))⟩
  · skip
    go_enter Tryz.func74, Tryz.ntmps74
    go_wp2
    go_quiet (fail)
    go_upto_region 6 with fail
    apply Mem.atCur (F := F) (B := w0.heap.size) (w0 := w0) (g := g) (x := .slice ac nc cc) (y := .int .i64 ((k + 1 : Nat) : Int))
    · exact ((hM.drewN _).curSet1 HP.out).curSet2 HP.out
    clear hM kc fc lc
    intro w2 sd2 hM
    obtain ⟨kc, fc, lc⟩ := hM.row (HP.out.in _)
    have hle : ¬ (k : Int) + 1 ≤ (nc : Int) := by omega
    go_quiet (fail)
    go_wp2
    obtain ⟨r, hr, er⟩ := HAND.out (sd2 / 1099511627776)
    go_ret
    exact ⟨r, hr, ri (by rw [er]; exact IntWalk.wrap64_in _ (by omega)), ((hM.drewN _).curClose HP.out (by omega))⟩

/-- a number below n (0 where there is none) -/
def belowP (n : Int) (r : Nat) : Prop := (r : Int) < n ∨ r = 0
theorem belowP_zero (n : Int) : belowP n 0 := .inr rfl
theorem belowP_lt {n : Int} {r : Nat} (h : (r : Int) < n) : belowP n r := .inl h
set_option maxRecDepth 100000 in
set_option maxHeartbeats 8000000 in
theorem pick_any {g : Nat} {ac : Option Addr} {nc cc : Nat} {l : List UInt8} {A : Nat} {w0 w : World} {G : List Ent} {F : Ent → List Ent} (n : Int) (hC : Rd FByt w0 ac nc cc l) (hM : Mem w0.heap.size w0 w G) (p : At G (curE g ac nc cc A) F) (hA : A ≤ 1000000000) :
    Calls Tryz.prog 47 #[.pointer (some ⟨g, 0, none⟩), .int .i64 n] w fun e w' => ∃ r : Nat, belowP n r ∧ r ≤ 65535 ∧ e = .returned (.int .i64 r) ∧ Mem w0.heap.size w0 w' (F (curE g ac nc cc (A + 2))) := by
  have HP := Lib.hid p
  have HC := Lib.hid hC
  clear p hC
  by_cases h1 : n ≤ 1
  · skip
    go_enter Tryz.func47, Tryz.ntmps47
    go_wp2
    go_ret
    exact ⟨0, belowP_zero n, by omega, rfl, hM.curMore HP.out (by omega)⟩
  · by_cases h2 : 200 < n
    · skip
      go_enter Tryz.func47, Tryz.ntmps47
      go_wp2_with fail
      refine (next_any HC.out hM HP.out (by omega)).mono ?_
      rintro e w1 ⟨x, hx, rfl, hM1⟩
      clear hM
      go_wp2_with fail
      refine (next_any HC.out hM1 (HP.out.again _) (by omega)).mono ?_
      rintro e w2 ⟨y, hy, rfl, hM2⟩
      clear hM1
      have hr0 : Int.tmod ((x : Int) * 256 + (y : Int)) n = (((x * 256 + y) % n.toNat : Nat) : Int) := by
        rw [Int.tmod_eq_emod_of_nonneg (by omega)]
        have : n = (n.toNat : Int) := by omega
        rw [this]
        push_cast
        rfl
      have hr1 : (x * 256 + y) % n.toNat < n.toNat := Nat.mod_lt _ (by omega)
      have hr2 : (x * 256 + y) % n.toNat ≤ x * 256 + y := Nat.mod_le _ _
      have HR0 := Lib.hid hr0; clear hr0
      generalize (x * 256 + y) % n.toNat = r at HR0 hr1 hr2
      go_wp2
      go_ret
      exact ⟨r, belowP_lt (by omega), by omega, ri (by first | exact HR0.out | (rw [← HR0.out, Int.tmod_eq_emod_of_nonneg (by omega)])), hM2.curMore (HP.out.again _) (by omega)⟩
    · skip
      go_enter Tryz.func47, Tryz.ntmps47
      go_wp2_with fail
      refine (next_any HC.out hM HP.out (by omega)).mono ?_
      rintro e w1 ⟨x, hx, rfl, hM1⟩
      clear hM
      have hr0 : Int.tmod (x : Int) n = ((x % n.toNat : Nat) : Int) := by
        rw [Int.tmod_eq_emod_of_nonneg (by omega)]
        have : n = (n.toNat : Int) := by omega
        rw [this]
        push_cast
        rfl
      have hr1 : x % n.toNat < n.toNat := Nat.mod_lt _ (by omega)
      have hr2 : x % n.toNat ≤ x := Nat.mod_le _ _
      have HR0 := Lib.hid hr0; clear hr0
      generalize x % n.toNat = r at HR0 hr1 hr2
      go_wp2
      go_ret
      exact ⟨r, belowP_lt (by omega), by omega, ri (by first | exact HR0.out | (rw [← HR0.out, Int.tmod_eq_emod_of_nonneg (by omega)])), hM1.curMore (HP.out.again _) (by omega)⟩
theorem pick_lt {n : Int} {r : Nat} (h : belowP n r) (hn : 0 < n) : (r : Int) < n := by
  rcases h with h | rfl
  · exact h
  · exact hn

set_option maxRecDepth 100000 in
set_option maxHeartbeats 8000000 in
theorem one_any {g : Nat} {ac : Option Addr} {nc cc : Nat} {l : List UInt8} {A : Nat} {w0 w : World} {G : List Ent} {F : Ent → List Ent} (n : Int) (hC : Rd FByt w0 ac nc cc l) (hM : Mem w0.heap.size w0 w G) (p : At G (curE g ac nc cc A) F) (hA : A ≤ 1000000000) :
    Calls Tryz.prog 63 #[.pointer (some ⟨g, 0, none⟩), .int .i64 n] w fun e w' => ∃ b : Bool, e = .returned (.bool b) ∧ Mem w0.heap.size w0 w' (F (curE g ac nc cc (A + 2))) := by
  have HP := Lib.hid p
  clear p
  go_enter Tryz.func63, Tryz.ntmps63
  go_wp2_with fail
  refine (pick_any n hC hM HP.out hA).mono ?_
  rintro e w1 ⟨r, -, hr, rfl, hM1⟩
  clear hM
  go_wp2
  go_ret
  exact ⟨_, rfl, hM1⟩
set_option maxRecDepth 100000 in
set_option maxHeartbeats 8000000 in
theorem among_any {g : Nat} {ac : Option Addr} {nc cc : Nat} {l : List UInt8} {A : Nat} {w0 w : World} {G : List Ent} {F : Ent → List Ent} {b n m : Nat} {cs : Array Value} (xs : List Int) (hC : Rd FByt w0 ac nc cc l) (hM : Mem w0.heap.size w0 w G) (p : At G (curE g ac nc cc A) F) (hr : ∀ e, In (F e) (rowE b 3 cs)) (hs : cs.toList = cellsI xs) (hn : 0 < n) (hnl : n ≤ xs.length) (hA : A ≤ 1000000000) (hl : n ≤ 1000000) :
    Calls Tryz.prog 66 #[.pointer (some ⟨g, 0, none⟩), .slice (some ⟨b, 0, none⟩) n m] w fun e w' => ∃ x : Int, x ∈ xs ∧ e = .returned (.int .i64 x) ∧ Mem w0.heap.size w0 w' (F (curE g ac nc cc (A + 2))) := by
  have HP := Lib.hid p
  have HS := Lib.hid hs
  have HR := Lib.hid hr
  clear p hs hr
  go_enter Tryz.func66, Tryz.ntmps66
  go_wp2_with fail
  refine (pick_any n hC hM HP.out hA).mono ?_
  rintro e w1 ⟨r, hb, hr, rfl, hM1⟩
  clear hM
  have hrn := pick_lt hb (by omega)
  clear hb
  obtain ⟨k1, -, l1⟩ := hM1.row (HR.out _)
  have hrx : r < xs.length := by omega
  have hc : w1.cell? ⟨b, r, none⟩ = some (.int .i64 xs[r]) := by
    rw [k1, ← Array.getElem?_toList, HS.out]
    simp [cellsI, hrx]
  have hm := List.getElem_mem hrx
  clear k1
  generalize xs[r] = x at hc hm
  have HM := Lib.hid hm; clear hm
  have i0 : (0 : Int) ≤ (r : Int) := by omega
  go_wp2
  go_ret
  exact ⟨x, HM.out, rfl, hM1⟩
set_option maxRecDepth 100000 in
set_option maxHeartbeats 8000000 in
theorem of_any {g : Nat} {ac : Option Addr} {nc cc : Nat} {l : List UInt8} {A : Nat} {w0 w : World} {G : List Ent} {F : Ent → List Ent} {b n m : Nat} {cs : Array Value} (xs : List ByteArray) (hC : Rd FByt w0 ac nc cc l) (hM : Mem w0.heap.size w0 w G) (p : At G (curE g ac nc cc A) F) (hr : ∀ e, In (F e) (rowE b 9 cs)) (hs : cs.toList = xs.map Value.string) (hn : 0 < n) (hnl : n ≤ xs.length) (hA : A ≤ 1000000000) (hl : n ≤ 1000000) :
    Calls Tryz.prog 67 #[.pointer (some ⟨g, 0, none⟩), .slice (some ⟨b, 0, none⟩) n m] w fun e w' => ∃ x : ByteArray, x ∈ xs ∧ e = .returned (.string x) ∧ Mem w0.heap.size w0 w' (F (curE g ac nc cc (A + 2))) := by
  have HP := Lib.hid p
  have HS := Lib.hid hs
  have HR := Lib.hid hr
  clear p hs hr
  go_enter Tryz.func67, Tryz.ntmps67
  go_wp2_with fail
  refine (pick_any n hC hM HP.out hA).mono ?_
  rintro e w1 ⟨r, hb, hr, rfl, hM1⟩
  clear hM
  have hrn := pick_lt hb (by omega)
  clear hb
  obtain ⟨k1, -, l1⟩ := hM1.row (HR.out _)
  have hrx : r < xs.length := by omega
  have hc : w1.cell? ⟨b, r, none⟩ = some (.string xs[r]) := by
    rw [k1, ← Array.getElem?_toList, HS.out]
    simp [hrx]
  have hm := List.getElem_mem hrx
  clear k1
  generalize xs[r] = x at hc hm
  have HM := Lib.hid hm; clear hm
  have i0 : (0 : Int) ≤ (r : Int) := by omega
  go_wp2
  go_ret
  exact ⟨x, HM.out, rfl, hM1⟩
end Go.Proofs.YtjnbdgldpmmamaaGreat
