/-
  The reference's draws of smoke.
-/
import Derived.Test.YtojfbcgfeojdfaaGreatKNear4
import Derived.Test.YtojfbcgfeojdfaaGreatKRd
import Derived.Test.YtojfbcgfeojdfaaGreatKMir
import Derived.Laws.Bits64b
import Derived.BigQuiet
import Derived.IntWalk
import Derived.Deep.DeepCutAuto
import Derived.Test.YtojfbcgfeojdfaaGreatRows
import Derived.Test.YtojfbcgfeojdfaaGreatKVoc
import Derived.ProofKit
import Derived.OpenShut
import Derived.SizedLaws
import Derived.Lib.SmallJoins
import Derived.Test.YtojfbcgfeojdfaaGreatKRegA
/-
  Appends of one record, in terms of entries.
-/
namespace Go.Proofs.YtojfbcgfeojdfaaGreat
set_option linter.unusedSimpArgs false
set_option linter.unusedVariables false
open Go.RowKit

section
variable {B : Nat} {w0 w w' : World} {G : List Ent} {G' : Ent → List Ent} {α : Type} {F : Fl α} {E : TypeId}
theorem Mem.oneRec {b : Nat} {cs : Array Value} (y : α) (h : Mem B w0 w G) (i : In G (rowE b E cs)) (hc : cs.toList = F.enc y) (hw : F.wf y) (hs : F.sz ≤ 1000) : Rd F w (some ⟨b, 0, none⟩) 1 1 [y] := by
  have hr := h.row i
  refine ⟨rfl, Nat.le_refl _, by unfold maxLen; omega, by simp, by omega, by simpa using hw, fun k hk => ⟨b, 0, rfl, hr.lt, fun i hi j hj => ?_⟩⟩
  obtain rfl : i = 0 := by omega
  rw [hr.cell]
  simp only [Nat.zero_mul, Nat.zero_add, List.getD_cons_zero]
  rw [← hc, Array.getElem?_toList]
/-- out = append(out, x), x a record -/
theorem wpList_pushR {ops : Array Oper} {rest : List Oper} {o : Oper} {a : Act} {Q : Exit → Act → World → Prop} {b : Nat} {cs : Array Value} {va : Option Addr} {na ca : Nat} {xs : List α} (y : α) (hM : Mem B w0 w (rowE b E cs :: G)) (p : ∀ e', Put G (owE F E va na ca xs) e' (G' e')) (hc : cs.toList = F.enc y) (hx : F.wf y) (hsz : F.sz ≤ 1000) (hroom : (na + 1) * F.sz ≤ 17592186044416)
    (i0 : TypeInfo) (z : Value) (bytes : Nat) (hi : Tryz.prog.info? E = some i0) (hz0 : i0.zero = some z) (hz1 : i0.size = F.sz) (hz2 : i0.bytes = bytes) (hzs : z.cells.size = F.sz) (hby : (na + 1) * bytes ≤ 140737488355328)
    (hgd : o.guard = none) (s v : Operand) (t : TypeId) (ht : Tryz.prog.underlying t = some (.slice E)) (ho : o.op = .call { callee := .builtin .append, args := #[s, v], argTypes := #[t, t] }) (hs : a.eval s = .slice va na ca) (hv : a.eval v = .slice (some ⟨b, 0, none⟩) 1 1)
    (h : ∀ a' c' w', Mem B w0 w' (G' (owE F E a' (na + 1) c' (xs ++ [y]))) → wpList Tryz.prog ops Q rest (a.put o.dst (.slice a' (na + 1) c')) w') : wpList Tryz.prog ops Q (o :: rest) a w := by
  have hown := hM.ents _ (List.mem_cons_of_mem _ (p (rowE 0 0 #[])).mem)
  have ho1 : Ow F E B w va na ca xs := hown
  refine wpList_appendR hgd s v t ho E i0 z bytes ht hi hz0 hz1 hz2 hzs B va na ca xs hs ho1 (some ⟨b, 0, none⟩) 1 1 [y] hv (hM.oneRec y .here hc hx hsz) hroom hby hM.size ?_
  intro a' c' w' h1 h2 h3
  refine h a' c' w' ?_
  exact (hM.tail).put (p _) ((Keeps.grown h2).mono (fun k _ hk => ownBlock_blockOf hk)) (e' := owE F E a' (na + 1) c' (xs ++ [y])) h1 (fun k hk => (h3 k hk).imp id (fun e => by omega))
theorem Mem.toOwR {b : Nat} (h : Mem B w0 w (rowE b E #[] :: G)) : Mem B w0 w (owE F E (some ⟨b, 0, none⟩) 0 0 [] :: G) := by
  have h1 := h.ents _ In.here.mem
  obtain ⟨h2, h3⟩ := h1
  refine h.put .here (Keeps.refl _ _) ?_ (fun k hk => ?_)
  · refine ⟨rfl, by omega, by simp, by simp [Fl.cells], .inr ⟨b, 0, #[], rfl, h2, h3, Nat.le_refl _, Nat.zero_le _, by simp, by simp [Fl.cells]⟩⟩
  · obtain ⟨ad, e1, e2⟩ := hk
    injection e1 with e1
    subst e1
    exact .inl e2
end
end Go.Proofs.YtojfbcgfeojdfaaGreat

/-
  An entry at a place of a list.
-/
namespace Go.Proofs.YtojfbcgfeojdfaaGreat
set_option linter.unusedSimpArgs false
set_option linter.unusedVariables false
open Go.RowKit

/-- an entry at a place, and the list with another one there -/
def At (G : List Ent) (e : Ent) (F : Ent → List Ent) : Prop := ∃ G1 G2, G = G1 ++ e :: G2 ∧ ∀ e', F e' = G1 ++ e' :: G2
theorem At.here {e : Ent} {G : List Ent} : At (e :: G) e (fun e' => e' :: G) := ⟨[], G, rfl, fun _ => rfl⟩
theorem At.there {e x : Ent} {G : List Ent} {F : Ent → List Ent} (h : At G e F) : At (x :: G) e (fun e' => x :: F e') := by
  obtain ⟨G1, G2, rfl, h2⟩ := h
  exact ⟨x :: G1, G2, rfl, fun e' => by show x :: F e' = _; rw [h2]; rfl⟩
theorem At.put {e : Ent} {G : List Ent} {F : Ent → List Ent} (h : At G e F) (e1 e2 : Ent) : Put (F e1) e1 e2 (F e2) := by
  obtain ⟨G1, G2, _, h2⟩ := h
  exact ⟨G1, G2, h2 e1, h2 e2⟩
theorem At.self {e : Ent} {G : List Ent} {F : Ent → List Ent} (h : At G e F) : F e = G := by
  obtain ⟨G1, G2, rfl, h2⟩ := h
  exact h2 e
theorem At.in {e : Ent} {G : List Ent} {F : Ent → List Ent} (h : At G e F) (e1 : Ent) : In (F e1) e1 := (h.put e1 e1).mem
theorem At.again {e : Ent} {G : List Ent} {F : Ent → List Ent} (h : At G e F) (e1 : Ent) : At (F e1) e1 F := by
  obtain ⟨G1, G2, _, h2⟩ := h
  exact ⟨G1, G2, h2 e1, h2⟩

end Go.Proofs.YtojfbcgfeojdfaaGreat

/-
  The reference's draws: a cursor over bytes. Only what is needed: a number within bounds comes, nothing panics, the cursor goes on.
-/
namespace Go.Proofs.YtojfbcgfeojdfaaGreat
set_option linter.unusedSimpArgs false
set_option linter.unusedVariables false
open Go.RowKit

/-- bytes as cells -/
def FByt : Fl UInt8 where
  sz := 1
  enc x := [.int .u8 (x.toNat : Int)]
  z := 0
  wf _ := True
  pos := by decide
  len _ := rfl
  one := by
    intro x v hv
    obtain rfl := List.mem_singleton.1 hv
    rfl
/-- the cursor at block g, not yet behind A -/
def curE (g : Nat) (ac : Option Addr) (nc cc : Nat) (A : Nat) : Ent where
  hold B w := B ≤ g ∧ ∃ (k : Nat) (sd : Int), k ≤ A ∧ w.heap[g]? = some (.cells #[.slice ac nc cc, .int .i64 k, .int .u64 sd] 68 (0, 0))
  blk k := k = g
  lt := by
    rintro B w ⟨h1, k, sd, _, h2⟩ k rfl
    exact ⟨h1, (Array.getElem?_eq_some_iff.1 h2).1⟩
  mono := fun h hB => ⟨Nat.le_trans hB h.1, h.2⟩
  keep := by
    rintro B w d w' ⟨h1, k, sd, h3, h2⟩ hk hd
    exact ⟨h1, k, sd, h3, by rw [hk.block g (Array.getElem?_eq_some_iff.1 h2).1 (hd g rfl)]; exact h2⟩
section
variable {B : Nat} {w0 w w' : World} {G : List Ent} {F : Ent → List Ent} {g : Nat} {ac : Option Addr} {nc cc A : Nat} {e : Ent}
theorem Mem.curOpen (h : Mem B w0 w G) (p : At G (curE g ac nc cc A) F) : ∃ (k : Nat) (sd : Int), k ≤ A ∧ Mem B w0 w (F (rowE g 68 #[.slice ac nc cc, .int .i64 k, .int .u64 sd])) := by
  rw [← p.self] at h
  obtain ⟨h1, k, sd, hk, h2⟩ := h.ents _ (p.in _).mem
  exact ⟨k, sd, hk, h.put (p.put _ _) (Keeps.refl _ _) ⟨h1, h2⟩ (fun k hk => .inl hk)⟩
theorem Mem.curClose {k : Nat} {sd : Int} (h : Mem B w0 w (F (rowE g 68 #[.slice ac nc cc, .int .i64 k, .int .u64 sd]))) (p : At G e F) (hk : k ≤ A) : Mem B w0 w (F (curE g ac nc cc A)) := by
  obtain ⟨h1, h2⟩ := h.ents _ (p.in _).mem
  exact h.put (p.put _ _) (Keeps.refl _ _) ⟨h1, k, sd, hk, h2⟩ (fun k hk => .inl hk)
theorem Mem.curMore {A' : Nat} (h : Mem B w0 w G) (p : At G (curE g ac nc cc A) F) (hA : A ≤ A') : Mem B w0 w (F (curE g ac nc cc A')) := by
  obtain ⟨k, sd, hk, h1⟩ := h.curOpen p
  exact h1.curClose p (Nat.le_trans hk hA)
/-- a new cursor -/
theorem Mem.curNew (h : Mem B w0 w (rowE g 68 #[.slice ac nc cc, .int .i64 0, .int .u64 0] :: G)) : Mem B w0 w (curE g ac nc cc 0 :: G) :=
  Mem.curClose (F := fun e => e :: G) (k := 0) h (At.here (e := rowE 0 0 #[]) (G := G)) (Nat.le_refl _)
theorem Sto.at1 {T : TypeId} {cs : Array Value} {o : Nat} {v : Value} (p : At G e F) : Sto (F (rowE g T cs)) g o v (F (rowE g T (cs.setIfInBounds o v))) := by
  obtain ⟨x, x', _, h⟩ := Sto.row (b := g) (T := T) (cs := cs) (o := o) (v := v) (G := [])
  refine ⟨rowE g T cs, rowE g T (cs.setIfInBounds o v), p.put _ _, fun k => Iff.rfl, fun k => Iff.rfl, ?_⟩
  rintro B w ⟨h1, h2⟩
  refine ⟨h1, ?_⟩
  simp only [World.setCell, Array.getElem?_modify, h2]
  simp
end
theorem Mem.curSet1 {B : Nat} {w0 w : World} {G : List Ent} {F : Ent → List Ent} {g : Nat} {T : TypeId} {e : Ent} {x y z v : Value} (h : Mem B w0 w (F (rowE g T #[x, y, z]))) (p : At G e F) : Mem B w0 (w.setCell ⟨g, 1, none⟩ v) (F (rowE g T #[x, v, z])) := h.set (Sto.at1 p)
theorem Mem.curSet2 {B : Nat} {w0 w : World} {G : List Ent} {F : Ent → List Ent} {g : Nat} {T : TypeId} {e : Ent} {x y z v : Value} (h : Mem B w0 w (F (rowE g T #[x, y, z]))) (p : At G e F) : Mem B w0 (w.setCell ⟨g, 2, none⟩ v) (F (rowE g T #[x, y, v])) := h.set (Sto.at1 p)
theorem Mem.atCur {B : Nat} {w0 w : World} {F : Ent → List Ent} {g : Nat} {x y : Value} {sd : Int} {P : Program} {c : Code} {a : Act} {Q : Exit → Act → World → Prop} (h : Mem B w0 w (F (rowE g 68 #[x, y, .int .u64 sd]))) (k : ∀ w sd, Mem B w0 w (F (rowE g 68 #[x, y, .int .u64 sd])) → c.wp P Q a w) : c.wp P Q a w := k w sd h
theorem and_255 (z : Int) : ∃ r : Nat, r ≤ 255 ∧ bits .and .u64 z 255 = (r : Int) := by
  refine ⟨(BitVec.ofInt 64 z).toNat &&& 255, Nat.and_le_right, ?_⟩
  show IntKind.u64.wrap ((BitVec.ofInt 64 z &&& BitVec.ofInt 64 255).toNat : Int) = _
  rw [BitVec.toNat_and, IntKind.wrap_u64]
  have h2 : (BitVec.ofInt 64 255).toNat = 255 := by decide
  rw [h2]
  have : (BitVec.ofInt 64 z).toNat &&& 255 ≤ 255 := Nat.and_le_right
  omega

set_option maxRecDepth 100000 in
set_option maxHeartbeats 8000000 in
theorem next_any {g : Nat} {ac : Option Addr} {nc cc : Nat} {l : List UInt8} {A : Nat} {w0 w : World} {G : List Ent} {F : Ent → List Ent} (hC : Rd FByt w0 ac nc cc l) (hM : Mem w0.heap.size w0 w G) (p : At G (curE g ac nc cc A) F) (hA : A ≤ 1000000000000) :
    Calls Tryz.prog 101 #[.pointer (some ⟨g, 0, none⟩)] w fun e w' => ∃ r : Nat, r ≤ 255 ∧ e = .returned (.int .i64 r) ∧ Mem w0.heap.size w0 w' (F (curE g ac nc cc (A + 1))) := by
  obtain ⟨k, sd, hk, hM2⟩ := hM.curOpen p
  clear hM
  have hM := hM2
  clear hM2
  have hroom := hC.nroom
  have HP := Lib.hid p
  obtain ⟨kc, fc, lc⟩ := hM.row (p.in _)
  have i0 : (0 : Int) ≤ (k : Int) := by omega
  have HAND := Lib.hid and_255
  clear p
  by_cases hlt : k < nc
  · have hC' := hC.ext hM.below
    obtain ⟨b, off, rfl, hb, hcell⟩ := hC'.at' k hlt
    have hck : w.cell? ⟨b, off + k, none⟩ = some (.int .u8 ((l.getD k 0).toNat : Int)) := by
      have := hcell k hlt 0 (by decide)
      simpa [FByt] using this
    clear hcell hC'
    have hv : (l.getD k 0).toNat < 256 := (l.getD k 0).toNat_lt
    generalize (l.getD k 0).toNat = v at hck hv
    go_enter Tryz.func101, Tryz.ntmps101
    go_wp2
    go_quiet (fail)
    go_wp2
    go_quiet (fail)
    go_upto_region 6 with fail
    apply Mem.atCur (F := F) (B := w0.heap.size) (w0 := w0) (g := g) (x := .slice (some ⟨b, off, none⟩) nc cc) (y := .int .i64 ((k + 1 : Nat) : Int))
    · exact ((hM.drewN _).curSet1 HP.out).curSet2 HP.out
    clear hM kc fc lc hck
    intro w2 sd2 hM
    obtain ⟨kc, fc, lc⟩ := hM.row (HP.out.in _)
    have hle : (k : Int) + 1 ≤ (nc : Int) := by omega
    go_quiet (fail)
    go_wp2
    go_ret
    exact ⟨v, by omega, rfl, ((hM.drewN _).curClose HP.out (by omega))⟩
  · skip
    go_enter Tryz.func101, Tryz.ntmps101
    go_wp2
    go_quiet (fail)
    go_upto_region 6 with fail
    apply Mem.atCur (F := F) (B := w0.heap.size) (w0 := w0) (g := g) (x := .slice ac nc cc) (y := .int .i64 ((k + 1 : Nat) : Int))
    · exact ((hM.drewN _).curSet1 HP.out).curSet2 HP.out
    clear hM kc fc lc
    intro w2 sd2 hM
    obtain ⟨kc, fc, lc⟩ := hM.row (HP.out.in _)
    have hle : ¬ (k : Int) + 1 ≤ (nc : Int) := by omega
    go_quiet (fail)
    go_wp2
    obtain ⟨r, hr, er⟩ := HAND.out (sd2 / 1099511627776)
    go_ret
    exact ⟨r, hr, ri (by rw [er]; exact IntWalk.wrap64_in _ (by omega)), ((hM.drewN _).curClose HP.out (by omega))⟩

/-- a number below n (0 where there is none) -/
def belowP (n : Int) (r : Nat) : Prop := (r : Int) < n ∨ r = 0
theorem belowP_zero (n : Int) : belowP n 0 := .inr rfl
theorem belowP_lt {n : Int} {r : Nat} (h : (r : Int) < n) : belowP n r := .inl h
set_option maxRecDepth 100000 in
set_option maxHeartbeats 8000000 in
theorem pick_any {g : Nat} {ac : Option Addr} {nc cc : Nat} {l : List UInt8} {A : Nat} {w0 w : World} {G : List Ent} {F : Ent → List Ent} (n : Int) (hC : Rd FByt w0 ac nc cc l) (hM : Mem w0.heap.size w0 w G) (p : At G (curE g ac nc cc A) F) (hA : A ≤ 1000000000) :
    Calls Tryz.prog 52 #[.pointer (some ⟨g, 0, none⟩), .int .i64 n] w fun e w' => ∃ r : Nat, belowP n r ∧ r ≤ 65535 ∧ e = .returned (.int .i64 r) ∧ Mem w0.heap.size w0 w' (F (curE g ac nc cc (A + 2))) := by
  have HP := Lib.hid p
  have HC := Lib.hid hC
  clear p hC
  by_cases h1 : n ≤ 1
  · skip
    go_enter Tryz.func52, Tryz.ntmps52
    go_wp2
    go_ret
    exact ⟨0, belowP_zero n, by omega, rfl, hM.curMore HP.out (by omega)⟩
  · by_cases h2 : 200 < n
    · skip
      go_enter Tryz.func52, Tryz.ntmps52
      go_wp2_with fail
      refine (next_any HC.out hM HP.out (by omega)).mono ?_
      rintro e w1 ⟨x, hx, rfl, hM1⟩
      clear hM
      go_wp2_with fail
      refine (next_any HC.out hM1 (HP.out.again _) (by omega)).mono ?_
      rintro e w2 ⟨y, hy, rfl, hM2⟩
      clear hM1
      have hr0 : Int.tmod ((x : Int) * 256 + (y : Int)) n = (((x * 256 + y) % n.toNat : Nat) : Int) := by
        rw [Int.tmod_eq_emod_of_nonneg (by omega)]
        have : n = (n.toNat : Int) := by omega
        rw [this]
        push_cast
        rfl
      have hr1 : (x * 256 + y) % n.toNat < n.toNat := Nat.mod_lt _ (by omega)
      have hr2 : (x * 256 + y) % n.toNat ≤ x * 256 + y := Nat.mod_le _ _
      have HR0 := Lib.hid hr0; clear hr0
      generalize (x * 256 + y) % n.toNat = r at HR0 hr1 hr2
      go_wp2
      go_ret
      exact ⟨r, belowP_lt (by omega), by omega, ri (by first | exact HR0.out | (rw [← HR0.out, Int.tmod_eq_emod_of_nonneg (by omega)])), hM2.curMore (HP.out.again _) (by omega)⟩
    · skip
      go_enter Tryz.func52, Tryz.ntmps52
      go_wp2_with fail
      refine (next_any HC.out hM HP.out (by omega)).mono ?_
      rintro e w1 ⟨x, hx, rfl, hM1⟩
      clear hM
      have hr0 : Int.tmod (x : Int) n = ((x % n.toNat : Nat) : Int) := by
        rw [Int.tmod_eq_emod_of_nonneg (by omega)]
        have : n = (n.toNat : Int) := by omega
        rw [this]
        push_cast
        rfl
      have hr1 : x % n.toNat < n.toNat := Nat.mod_lt _ (by omega)
      have hr2 : x % n.toNat ≤ x := Nat.mod_le _ _
      have HR0 := Lib.hid hr0; clear hr0
      generalize x % n.toNat = r at HR0 hr1 hr2
      go_wp2
      go_ret
      exact ⟨r, belowP_lt (by omega), by omega, ri (by first | exact HR0.out | (rw [← HR0.out, Int.tmod_eq_emod_of_nonneg (by omega)])), hM1.curMore (HP.out.again _) (by omega)⟩
theorem pick_lt {n : Int} {r : Nat} (h : belowP n r) (hn : 0 < n) : (r : Int) < n := by
  rcases h with h | rfl
  · exact h
  · exact hn

set_option maxRecDepth 100000 in
set_option maxHeartbeats 8000000 in
theorem one_any {g : Nat} {ac : Option Addr} {nc cc : Nat} {l : List UInt8} {A : Nat} {w0 w : World} {G : List Ent} {F : Ent → List Ent} (n : Int) (hC : Rd FByt w0 ac nc cc l) (hM : Mem w0.heap.size w0 w G) (p : At G (curE g ac nc cc A) F) (hA : A ≤ 1000000000) :
    Calls Tryz.prog 111 #[.pointer (some ⟨g, 0, none⟩), .int .i64 n] w fun e w' => ∃ b : Bool, e = .returned (.bool b) ∧ Mem w0.heap.size w0 w' (F (curE g ac nc cc (A + 2))) := by
  have HP := Lib.hid p
  clear p
  go_enter Tryz.func111, Tryz.ntmps111
  go_wp2_with fail
  refine (pick_any n hC hM HP.out hA).mono ?_
  rintro e w1 ⟨r, -, hr, rfl, hM1⟩
  clear hM
  go_wp2
  go_ret
  exact ⟨_, rfl, hM1⟩
set_option maxRecDepth 100000 in
set_option maxHeartbeats 8000000 in
theorem among_any {g : Nat} {ac : Option Addr} {nc cc : Nat} {l : List UInt8} {A : Nat} {w0 w : World} {G : List Ent} {F : Ent → List Ent} {b n m : Nat} {cs : Array Value} (xs : List Int) (hC : Rd FByt w0 ac nc cc l) (hM : Mem w0.heap.size w0 w G) (p : At G (curE g ac nc cc A) F) (hr : ∀ e, In (F e) (rowE b 3 cs)) (hs : cs.toList = cellsI xs) (hn : 0 < n) (hnl : n ≤ xs.length) (hA : A ≤ 1000000000) (hl : n ≤ 1000000) :
    Calls Tryz.prog 102 #[.pointer (some ⟨g, 0, none⟩), .slice (some ⟨b, 0, none⟩) n m] w fun e w' => ∃ x : Int, x ∈ xs ∧ e = .returned (.int .i64 x) ∧ Mem w0.heap.size w0 w' (F (curE g ac nc cc (A + 2))) := by
  have HP := Lib.hid p
  have HS := Lib.hid hs
  have HR := Lib.hid hr
  clear p hs hr
  go_enter Tryz.func102, Tryz.ntmps102
  go_wp2_with fail
  refine (pick_any n hC hM HP.out hA).mono ?_
  rintro e w1 ⟨r, hb, hr, rfl, hM1⟩
  clear hM
  have hrn := pick_lt hb (by omega)
  clear hb
  obtain ⟨k1, -, l1⟩ := hM1.row (HR.out _)
  have hrx : r < xs.length := by omega
  have hc : w1.cell? ⟨b, r, none⟩ = some (.int .i64 xs[r]) := by
    rw [k1, ← Array.getElem?_toList, HS.out]
    simp [cellsI, hrx]
  have hm := List.getElem_mem hrx
  clear k1
  generalize xs[r] = x at hc hm
  have HM := Lib.hid hm; clear hm
  have i0 : (0 : Int) ≤ (r : Int) := by omega
  go_wp2
  go_ret
  exact ⟨x, HM.out, rfl, hM1⟩
end Go.Proofs.YtojfbcgfeojdfaaGreat

/-
  From a walk to the given statement: what is alike at every law.
-/
namespace Go.Proofs.YtojfbcgfeojdfaaGreat
set_option linter.unusedSimpArgs false
set_option linter.unusedVariables false
open Go.ChangeShapes Go.WideShapes Go.ChangeAt Go.RowKit Go.Joins

theorem Tryz.own : ownKnob Tryz.prog.godebug = none := by kernel_rfl
theorem Tryz.laidOut : laidOutB Tryz.prog = true := by kernel_rfl
theorem trodAll_below {H : Type} {enc : TypeId × Value → H} {W W' : World} (hb : Below W.heap.size W W') : ∀ {ts : List TypeId} {vs : List Value} {ds : List (DataW H)} {ps : List MemPlace},
    (∀ t ∈ ts, Tryz.prog.readableRec t = true ∧ t < Tryz.prog.types.size) → (∀ x ∈ ps, x.block < W.heap.size) →
    DataW.TrodAll enc Tryz.prog W 0 (fun _ => true) true ts vs ds ps → DataW.TrodAll enc Tryz.prog W' 0 (fun b => decide (b < W.heap.size)) true ts vs ds ps
  | [], _, _, _, _, _, h => by
    obtain ⟨rfl, rfl, rfl⟩ := trodAll_nil h
    exact trodAll_mk0
  | t :: ts, _, _, _, hr, hp, h => by
    obtain ⟨v, vs', d, ds', p, q, rfl, rfl, rfl, h1, h2⟩ := trodAll_cons h
    have ht := hr t (by simp)
    exact trodAll_cons_mk (Below.trod Tryz.laidOut ht.1 ht.2 h1 hb (fun x hx => hp x (by simp [hx]))) (trodAll_below hb (fun t' h' => hr t' (by simp [h'])) (fun x hx => hp x (by simp [hx])) h2)

/-- the law returned true and all that was there is as it was: that is the row's post -/
theorem post_law {H : Type} {enc : TypeId × Value → H} {f : Func} {s : ChangeSpec} {W W' : World} {args : Array Value} {ds gs : List (DataW H)} {before : List MemPlace}
    (hW : DataW.Whole enc Tryz.prog f.params.toList s.vars false W args.toList ds gs before) (hv : s.vars = []) (hres : f.resultTypes = #[4])
    (hs : s.fn H ds = { results := [.lit (.bool true)], args := ds }) (hr : ∀ t ∈ f.params.toList, Tryz.prog.readableRec t = true ∧ t < Tryz.prog.types.size)
    (hb : Below W.heap.size W W') : s.post enc Tryz.prog f false true false false W args (.bool true) W' := by
  have hlt : ∀ p ∈ before, p.block < W.heap.size := fun p hp => by simpa using hW.lt p hp
  have hW' := hW
  obtain ⟨p, q, hA, hV, rfl, _, _⟩ := hW
  rw [hv] at hV
  obtain ⟨rfl, rfl⟩ := trodVars_none hV
  have hs' : s.fn H (ds ++ []) = { results := [.lit (.bool true)], args := ds } := by rw [List.append_nil]; exact hs
  refine ⟨ds, [], p ++ [], [], p, [], hW', ?_, ?_, ?_, hb.frame _, fun h => by cases h⟩
  · rw [hs', hres]
    exact trodAll_mk1 (shut_bool Tryz.underlying4 true)
  · rw [hs']
    exact trodAll_below hb hr (fun x hx => hlt x (by simp [hx])) hA
  · rw [hs', hv]
    rfl

end Go.Proofs.YtojfbcgfeojdfaaGreat

/-
  The code that a law draws from, as it is read; is it too long.
-/
namespace Go.Proofs.YtojfbcgfeojdfaaGreat
set_option linter.unusedSimpArgs false
set_option linter.unusedVariables false
open Go.ChangeShapes Go.WideShapes Go.ChangeAt Go.RowKit Go.Joins

theorem Tryz.cellsC5 : Tryz.prog.cellsOf 5 = 1 := by kernel_rfl
theorem codeRd {W : World} {ad : Addr} {len cap : Nat} {zs : List Int} (hl : len ≤ cap) (hm : cap ≤ maxLen) (hz : zs.length = cap) (hcell : ∀ i, i < zs.length → W.cell? (ad.add i) = some (.int .u8 (zs.getD i 0))) (hwz : ∀ n ∈ zs, (Lit.int .u8 n).wf = true) (hs : len ≤ 65536) : Rd FByt W (some ad) len cap ((zs.take len).map fun z => UInt8.ofNat z.toNat) := by
  refine ⟨by rw [List.length_map, List.length_take]; omega, hl, hm, fun e => (by simp at e), by show len * 1 ≤ _; omega, fun _ _ => trivial, fun k hk => ?_⟩
  have h0 := hcell 0 (by omega)
  obtain ⟨b, off, spot⟩ := ad
  obtain rfl : spot = none := by
    cases spot with
    | none => rfl
    | some s =>
      simp only [Addr.add, if_true, World.cell?] at h0
      split at h0
      · simp at h0
      · cases h0
  refine ⟨b, off, rfl, World.block_lt_of_cell? W _ h0, fun i hi j hj => ?_⟩
  obtain rfl : j = 0 := by
    have : j < 1 := hj
    omega
  have hci := hcell i (by omega)
  rw [Addr.add_lit] at hci
  show W.cell? ⟨b, off + (i * 1 + 0), none⟩ = _
  rw [show off + (i * 1 + 0) = off + i by omega, hci]
  have hiz : i < zs.length := by omega
  have hg : zs.getD i 0 = zs[i] := by simp [List.getD, hiz]
  have hw := hwz zs[i] (List.getElem_mem hiz)
  have hb : 0 ≤ zs[i] ∧ zs[i] ≤ 255 := by simpa [Lit.wf, IntKind.min, IntKind.max, IntKind.signed, IntKind.bits] using hw
  rw [hg]
  have hx : (((zs.take len).map fun z => UInt8.ofNat z.toNat).getD i FByt.z) = UInt8.ofNat zs[i].toNat := by
    simp [List.getD, List.getElem?_take, hi, hiz]
  rw [hx]
  have ht : ((UInt8.ofNat zs[i].toNat).toNat : Int) = zs[i] := by
    rw [UInt8.toNat_ofNat']
    omega
  rw [show FByt.enc (UInt8.ofNat zs[i].toNat) = [.int .u8 ((UInt8.ofNat zs[i].toNat).toNat : Int)] from rfl, ht]
  rfl

set_option maxRecDepth 100000 in
theorem openCode {H : Type} {enc : TypeId × Value → H} {W : World} {base : Nat} {v : Value} {d : DataW H} {p : List MemPlace} (hval : Value.okWide Tryz.prog W .any base 22 v) (h : DataW.Trod enc Tryz.prog W 0 (fun _ => true) true 22 v d p) : ∃ a n c l, v = .slice a n c ∧ n ≤ maxLen ∧ (n ≤ 65536 → Rd FByt W a n c l) := by
  obtain ⟨f, hf⟩ := h
  obtain ⟨b0, l0, cc0, rfl⟩ := okWide_slice Tryz.underlying22 hval
  rcases open_ints Tryz.underlying22 Tryz.underlying5 Tryz.cellsC5 hf with ⟨e, -⟩ | ⟨a, len, cap, zs, e, _, hl, hm, hz, _, hcell, hwz⟩
  · obtain ⟨rfl, rfl, rfl⟩ : b0 = none ∧ l0 = 0 ∧ cc0 = 0 := by simpa [Value.cells] using e
    exact ⟨none, 0, 0, [], rfl, Nat.zero_le _, fun _ => ⟨rfl, Nat.le_refl _, Nat.zero_le _, fun _ => rfl, by omega, by simp, fun k hk => by omega⟩⟩
  · obtain ⟨rfl, rfl, rfl⟩ : b0 = some a ∧ l0 = len ∧ cc0 = cap := by simpa [Value.cells] using e
    simp only [if_true] at hz
    exact ⟨some a, l0, cc0, _, rfl, Nat.le_trans hl hm, fun hs => codeRd hl hm hz hcell hwz hs⟩
set_option maxRecDepth 100000 in
theorem vBig_any (a : Option Addr) (n c : Nat) (w : World) :
    Calls Tryz.prog 5 #[.slice a n c] w fun e w' => e = .returned (.bool (decide (65536 < n))) ∧ Below w.heap.size w w' := by
  by_cases h : 65536 < n
  all_goals
    go_enter Tryz.func5, Tryz.ntmps5
    go_wp2
    go_ret
    exact ⟨rb (by simp [h]; try omega), Below.refl _ _⟩
end Go.Proofs.YtojfbcgfeojdfaaGreat

/-
  Several entries as one, for regions that draw their order; bounds of logs that are drawn.
-/
namespace Go.Proofs.YtojfbcgfeojdfaaGreat
set_option linter.unusedSimpArgs false
set_option linter.unusedVariables false
open Go.RowKit

def packE (G : List Ent) : Ent where
  hold B w := (∀ e ∈ G, e.hold B w) ∧ G.Pairwise fun e e' : Ent => ∀ k : Nat, e.blk k → ¬ e'.blk k
  blk k := ∃ e ∈ G, e.blk k
  lt := by
    rintro B w ⟨h1, _⟩ k ⟨e, he, hk⟩
    exact e.lt (h1 e he) k hk
  mono := fun h hB => ⟨fun e he => e.mono (h.1 e he) hB, h.2⟩
  keep := by
    rintro B w d w' ⟨h1, h2⟩ hk hd
    exact ⟨fun e he => e.keep (h1 e he) hk (fun k hk' => hd k ⟨e, he, hk'⟩), h2⟩
section
variable {B : Nat} {w0 w : World} {G X Y : List Ent}
theorem Mem.unpackAt (X : List Ent) (h : Mem B w0 w (X ++ packE G :: Y)) : Mem B w0 w (X ++ (G ++ Y)) := by
  have hp : packE G ∈ X ++ packE G :: Y := by simp
  obtain ⟨h1, h2⟩ := h.ents _ hp
  obtain ⟨a1, a2, a3⟩ := List.pairwise_append.1 h.apart
  obtain ⟨a4, a5⟩ := List.pairwise_cons.1 a2
  refine ⟨h.below, h.size, fun e he => ?_, ?_⟩
  · rcases List.mem_append.1 he with he | he
    · exact h.ents e (by simp [he])
    · rcases List.mem_append.1 he with he | he
      · exact h1 e he
      · exact h.ents e (by simp [he])
  · refine List.pairwise_append.2 ⟨a1, List.pairwise_append.2 ⟨h2, a5, fun e he e' he' k hk hk' => a4 e' he' k ⟨e, he, hk⟩ hk'⟩, fun e he e' he' k hk hk' => ?_⟩
    rcases List.mem_append.1 he' with he' | he'
    · exact a3 e he (packE G) (by simp) k hk ⟨e', he', hk'⟩
    · exact a3 e he e' (by simp [he']) k hk hk'
theorem Mem.packAt (X : List Ent) (h : Mem B w0 w (X ++ (G ++ Y))) : Mem B w0 w (X ++ packE G :: Y) := by
  obtain ⟨a1, a2, a3⟩ := List.pairwise_append.1 h.apart
  obtain ⟨a4, a5, a6⟩ := List.pairwise_append.1 a2
  refine ⟨h.below, h.size, fun e he => ?_, ?_⟩
  · rcases List.mem_append.1 he with he | he
    · exact h.ents e (by simp [he])
    · rcases List.mem_cons.1 he with rfl | he
      · exact ⟨fun e' he' => h.ents e' (by simp [he']), a4⟩
      · exact h.ents e (by simp [he])
  · refine List.pairwise_append.2 ⟨a1, List.pairwise_cons.2 ⟨fun e' he' k hk hk' => ?_, a5⟩, fun e he e' he' k hk hk' => ?_⟩
    · obtain ⟨e, he, hk⟩ := hk
      exact a6 e he e' he' k hk hk'
    · rcases List.mem_cons.1 he' with rfl | he'
      · obtain ⟨e2, he2, hk2⟩ := hk'
        exact a3 e he e2 (by simp [he2]) k hk hk2
      · exact a3 e he e' (by simp [he']) k hk hk'
/-- what stands at the end of a list, in front, as one -/
theorem Mem.packEnd (X : List Ent) (h : Mem B w0 w (X ++ G)) : Mem B w0 w (packE G :: X) := by
  have h1 : Mem B w0 w (G ++ X) := h.perm List.perm_append_comm
  exact Mem.packAt (X := []) h1
theorem Mem.unpackEnd (X : List Ent) (h : Mem B w0 w (packE G :: X)) : Mem B w0 w (X ++ G) := by
  have h1 : Mem B w0 w (G ++ X) := Mem.unpackAt (X := []) h
  exact h1.perm List.perm_append_comm
theorem At.app {e : Ent} {F : Ent → List Ent} (h : At G e F) (X Y : List Ent) : At (X ++ (G ++ Y)) e (fun e' => X ++ (F e' ++ Y)) := by
  obtain ⟨G1, G2, rfl, h2⟩ := h
  exact ⟨X ++ G1, G2 ++ Y, by simp, fun e' => by show X ++ (F e' ++ Y) = _; rw [h2]; simp⟩
end
end Go.Proofs.YtojfbcgfeojdfaaGreat

/-
  A region that draws its order and has an operation t behind which the condition may fall; what only reckons need not wait for it, nor it for that.
-/
namespace Go.Proofs.YtojfbcgfeojdfaaGreat
set_option linter.unusedSimpArgs false
set_option linter.unusedVariables false
open Go.RowKit

section
variable {P : Program} {ops : Array Oper} {Q : Exit → Act → World → Prop} {md : Region.Mode} {S : World → Prop} {t : Nat}

/-- whatever order is picked; S holds behind each operation until t has come up -/
def wpAnyF (P : Program) (md : Region.Mode) (ops : Array Oper) (Q : Exit → Act → World → Prop) (S : World → Prop) (t : Nat) : Nat → Array Bool → Act → World → Prop
  | 0, l, a, w => Region.ready md ops l = [] ∧ Q .normal a w
  | f + 1, l, a, w => (Region.ready md ops l = [] → Q .normal a w) ∧ ∀ i ∈ Region.ready md ops l, wpOp P ops Q i (fun a' w' => ((i ≠ t ∧ l.getD t false = false) → S w') ∧ wpAnyF P md ops Q S t f (l.setIfInBounds i true) a' w') a w

theorem wpAny_of_F : ∀ (f : Nat) (l : Array Bool) (a : Act) (w : World), wpAnyF P md ops Q S t f l a w → wpAny P md ops Q f l a w
  | 0, _, _, _, h => h
  | f + 1, _, _, _, h => ⟨h.1, fun i hi => wpOp_mono (fun a' w' h' => wpAny_of_F f _ a' w' h'.2) (h.2 i hi)⟩

theorem not_done {i : Nat} {l : Array Bool} {fa : Nat} (hc : Closed md ops l) (ha : anc md ops i fa t = true) (hi : i ∈ Region.ready md ops l) : l.getD t false = false := by
  cases ht : l.getD t false with
  | false => rfl
  | true =>
    exfalso
    have h2 := (mem_ready.1 hi).1
    have h1 : l.getD i false = true := by
      cases ho : ops[t]? with
      | none =>
        cases fa with
        | zero => cases ha
        | succ fa =>
          unfold anc at ha
          rw [ho] at ha
          cases ha
      | some o => exact anc_listed hc fa t o ho ha (hc t o ho ht)
    by_cases hlt : i < l.size
    · simp [hlt] at h1 h2
      rw [h1] at h2
      cases h2
    · simp [hlt] at h1
theorem done_set {l : Array Bool} {j : Nat} (hj : j ∈ Region.ready md ops l) : (l.setIfInBounds j true).getD j false = true := by
  have h2 := (mem_ready.1 hj).1
  by_cases hlt : j < l.size
  · simp [hlt]
  · simp [hlt] at h2

theorem wpAnyF_first {i : Nat} {oi : Oper} {v : Value} {S' : World → Prop} (hi : ops[i]? = some oi) (hsel : ∀ (j : Nat) (o : Oper) cs b, ops[j]? = some o → o.op ≠ .select cs b)
    (hQ : ∀ c a w, Q (.panic c) (a.put oi.dst v) w → Q (.panic c) a w) (hit : i ≠ t)
    (hS' : ∀ l w, Closed md ops l → i ∈ Region.ready md ops l → (l.getD t false = false → S w) → S' w) :
    ∀ (f : Nat) (l : Array Bool) (a : Act) (w : World), Closed md ops l →
      (∀ j oj, ops[j]? = some oj → j ≠ i → l.getD j true = false → (∀ e ∈ oj.after, Region.binds md e = true → e.on ≠ i) → oi.apart ops oj = true) →
      i ∈ Region.ready md ops l → YieldsIf P ops S' oi v a → (l.getD t false = false → S w) → wpAnyF P md ops Q S t f (l.setIfInBounds i true) (a.put oi.dst v) w → wpAnyF P md ops Q S t (f + 1) l a w
  | f, l, a, w, hc, hfree, hr, hy, hS, H => by
    refine ⟨fun h => (by rw [h] at hr; cases hr), fun j hj => ?_⟩
    by_cases hji : j = i
    · subst hji
      exact hy.wpOp hi (hS' l w hc hr hS) ⟨fun h => hS h.2, H⟩
    · cases f with
      | zero =>
        have := ready_mono hj hji
        rw [H.1] at this
        cases this
      | succ f =>
        obtain ⟨hjun, oj, hoj, hall⟩ := mem_ready.1 hj
        have hun := (mem_ready.1 hr).1
        have hnot : ∀ e ∈ oj.after, Region.binds md e = true → e.on ≠ i := by
          intro e he hb heq
          have h1 := hall e he hb
          rw [heq] at h1
          by_cases hlt : i < l.size
          · simp [hlt] at hun h1
            rw [hun] at h1
            cases h1
          · simp [hlt] at hun
        have h2 := wpOp_putIf hoj (hfree j oj hoj hji hjun hnot) (fun cs b => hsel i oi cs b hi) (fun cs b => hsel j oj cs b hoj) hQ hy (H.2 j (ready_mono hj hji))
        have hgt : (l.setIfInBounds i true).getD t false = l.getD t false := getD_set_ne false hit
        refine wpOp_mono (fun a' w' h3 => ⟨fun h => h3.2.1 ⟨h.1, by rw [hgt]; exact h.2⟩, wpAnyF_first hi hsel hQ hit hS' f (l.setIfInBounds j true) a' w' (hc.set hj) ?_ (ready_mono hr (Ne.symm hji)) h3.1 (fun h => ?_) ?_⟩) h2
        · intro k ok hk hki hkun hno
          refine hfree k ok hk hki ?_ hno
          by_cases hjk : j = k
          · subst hjk; exact hjun
          · rw [getD_set_ne true hjk] at hkun; exact hkun
        · by_cases hjt : j = t
          · subst hjt
            rw [done_set hj] at h
            cases h
          · rw [getD_set_ne false hjt] at h
            exact h3.2.1 ⟨hjt, by rw [hgt]; exact h⟩
        · rw [Array.setIfInBounds_comm _ _ hji]
          exact h3.2.2

def AtF (P : Program) (md : Region.Mode) (ops : Array Oper) (Q : Exit → Act → World → Prop) (S : World → Prop) (t f : Nat) (l : Array Bool) (a : Act) (w : World) : Prop :=
  Closed md ops l → wpAnyF P md ops Q S t f l a w
theorem AtF.start {id : Nat} {a : Act} {w : World} (t : Nat) (hm : P.follows .mixedOrders = true) (h : AtF P .any ops Q S t ops.size (Array.replicate ops.size false) a w.drew) : (Code.region id ops true).wp P Q a w :=
  wp_region_any hm (wpAny_of_F _ _ _ _ (h (Closed.none _)))
theorem AtF.taked {i : Nat} {oi : Oper} {v : Value} {f : Nat} {l : Array Bool} {a : Act} {w : World} (d : Option Tmp) (hi : ops[i]? = some oi) (hd : oi.dst = d)
    (hs : Region.noSelect ops = true) (hf : Region.free md ops l i = true) (hr : (Region.ready md ops l).contains i = true) (ha : anc md ops i ops.size t = true)
    (hQ : ∀ c a w, Q (.panic c) (a.put d v) w → Q (.panic c) a w) (hy : YieldsIf P ops S oi v a) (hS : S w) (hit : (i == t) = false)
    (h : AtF P md ops Q S t f (l.setIfInBounds i true) (a.put d v) w) : AtF P md ops Q S t (f + 1) l a w := fun hc => by
  subst hd
  have hr' : i ∈ Region.ready md ops l := by simpa using hr
  exact wpAnyF_first (S' := S) hi (Region.noSelect_spec hs) hQ (by simpa using hit) (fun l w hc hi hS => hS (not_done hc ha hi)) f l a w hc (Region.free_spec hi hf) hr' hy (fun _ => hS) (h (hc.set hr'))
theorem AtF.only {i : Nat} {o : Oper} {f : Nat} {l : Array Bool} {a : Act} {w : World} (hr : Region.ready md ops l = [i]) (ho : ops[i]? = some o) (hit : (i == t) = false)
    (h : ∀ K' : Act → World → Prop, ShutT (∀ a w, S w → AtF P md ops Q S t f (l.setIfInBounds i true) a w → K' a w) → if Region.wanted o (yielded ops a.tmps) = true then Oper.wp P o a w K' Q else K' (a.put o.dst undef) w) : AtF P md ops Q S t (f + 1) l a w := fun hc => by
  have hri : i ∈ Region.ready md ops l := by rw [hr]; simp
  refine ⟨fun h0 => (by rw [h0] at hr; cases hr), fun j hj => ?_⟩
  rw [hr] at hj
  obtain rfl : j = i := by simpa using hj
  exact wpOp_step ho fun K' hK => h K' fun a w hS hA => hK a w ⟨fun _ => hS, hA (hc.set hri)⟩
theorem AtF.two {i j : Nat} {oi oj : Oper} {f : Nat} {l : Array Bool} {a : Act} {w : World} (hr : Region.ready md ops l = [i, j]) (hoi : ops[i]? = some oi) (hoj : ops[j]? = some oj) (hit : (i == t) = false) (hjt : (j == t) = false)
    (h1 : ∀ K' : Act → World → Prop, ShutT (∀ a w, S w → AtF P md ops Q S t f (l.setIfInBounds i true) a w → K' a w) → if Region.wanted oi (yielded ops a.tmps) = true then Oper.wp P oi a w K' Q else K' (a.put oi.dst undef) w)
    (h2 : ∀ K' : Act → World → Prop, ShutT (∀ a w, S w → AtF P md ops Q S t f (l.setIfInBounds j true) a w → K' a w) → if Region.wanted oj (yielded ops a.tmps) = true then Oper.wp P oj a w K' Q else K' (a.put oj.dst undef) w) : AtF P md ops Q S t (f + 1) l a w := fun hc => by
  have hri : i ∈ Region.ready md ops l := by rw [hr]; simp
  have hrj : j ∈ Region.ready md ops l := by rw [hr]; simp
  refine ⟨fun h0 => (by rw [h0] at hr; cases hr), fun k hk => ?_⟩
  rw [hr] at hk
  rcases (by simpa using hk : k = i ∨ k = j) with rfl | rfl
  · exact wpOp_step hoi fun K' hK => h1 K' fun a w hS hA => hK a w ⟨fun _ => hS, hA (hc.set hri)⟩
  · exact wpOp_step hoj fun K' hK => h2 K' fun a w hS hA => hK a w ⟨fun _ => hS, hA (hc.set hrj)⟩
theorem AtF.last {o : Oper} {f : Nat} {l : Array Bool} {a : Act} {w : World} (hr : Region.ready md ops l = [t]) (ho : ops[t]? = some o) (hd : Region.ready md ops (l.setIfInBounds t true) = [])
    (h : ∀ K' : Act → World → Prop, ShutT (∀ a w, Q .normal a w → K' a w) → if Region.wanted o (yielded ops a.tmps) = true then Oper.wp P o a w K' Q else K' (a.put o.dst undef) w) : AtF P md ops Q S t (f + 1) l a w := fun _ => by
  refine ⟨fun h0 => (by rw [h0] at hr; cases hr), fun j hj => ?_⟩
  rw [hr] at hj
  obtain rfl : j = t := by simpa using hj
  refine wpOp_step ho fun K' hK => h K' fun a w hq => hK a w ⟨fun e => absurd rfl e.1, ?_⟩
  cases f with
  | zero => exact ⟨hd, hq⟩
  | succ f => exact ⟨fun _ => hq, by rw [hd]; simp⟩
end
section
variable {P : Program} {ops : Array Oper} {Q : Exit → Act → World → Prop} {B : Nat} {w0 w : World} {G G' : List Ent}
theorem AtF.startA {id : Nat} {a : Act} (hS : Mem B w0 w G') (hM : Mem B w0 w G) (t : Nat) (hm : P.follows .mixedOrders = true) (h : ∀ wd, Mem B w0 wd G → AtF P .any ops Q (fun w1 => Mem B w0 w1 G') t ops.size (Array.replicate ops.size false) a wd) : (Code.region id ops true).wp P Q a w :=
  AtF.start t hm (h _ hM.drew)
theorem Mem.atF {md : Region.Mode} {S : World → Prop} {t f : Nat} {l : Array Bool} {a : Act} (h : Mem B w0 w G) (k : Mem B w0 w G → AtF P md ops Q S t f l a w) : AtF P md ops Q S t f l a w := k h
end
section
variable {P : Program} {ops : Array Oper} {Q : Exit → Act → World → Prop} {md : Region.Mode} {S : World → Prop} {t : Nat}
theorem AtF.tp (i : Nat) (v : Value) (d : Nat) (js : List Nat) {oi : Oper} {f : Nat} {l : Array Bool} {a : Act} {w : World} (hy : ∀ w, S w → (execOp a.eval oi).run P w = .ok (.value v) w) (hS : S w) (h : AtF P md ops Q S t f (l.setIfInBounds i true) (a.put (some d) v) w) (hi : ops[i]? = some oi := by exact rfl) (hd : oi.dst = some d := by exact rfl) (hs : Region.noSelect ops = true := by kernel_rfl) (hf : Region.free md ops l i = true := by kernel_rfl) (hr : (Region.ready md ops l).contains i = true := by kernel_rfl) (h1 : pathB md ops i js t = true := by kernel_rfl) (h2 : Nat.blt js.length ops.size = true := by kernel_rfl) (hQ : ∀ c a w, Q (.panic c) (a.put (some d) v) w → Q (.panic c) a w := by exact (fun _ _ _ h => h)) (hw : Region.wanted oi (yielded ops a.tmps) = true := by kernel_rfl) (hit : (i == t) = false := by exact rfl) : AtF P md ops Q S t (f + 1) l a w :=
  AtF.taked (some d) hi hd hs hf hr (anc_path js _ _ h1 h2) hQ (Or.inl ⟨hw, hy⟩) hS hit h
theorem AtF.tq (i : Nat) (d : Nat) (js : List Nat) {oi : Oper} {f : Nat} {l : Array Bool} {a : Act} {w : World} (hS : S w) (h : AtF P md ops Q S t f (l.setIfInBounds i true) (a.put (some d) undef) w) (hi : ops[i]? = some oi := by exact rfl) (hd : oi.dst = some d := by exact rfl) (hs : Region.noSelect ops = true := by kernel_rfl) (hf : Region.free md ops l i = true := by kernel_rfl) (hr : (Region.ready md ops l).contains i = true := by kernel_rfl) (h1 : pathB md ops i js t = true := by kernel_rfl) (h2 : Nat.blt js.length ops.size = true := by kernel_rfl) (hQ : ∀ c a w, Q (.panic c) (a.put (some d) undef) w → Q (.panic c) a w := by exact (fun _ _ _ h => h)) (hw : Region.wanted oi (yielded ops a.tmps) = false := by kernel_rfl) (hit : (i == t) = false := by exact rfl) : AtF P md ops Q S t (f + 1) l a w :=
  AtF.taked (some d) hi hd hs hf hr (anc_path js _ _ h1 h2) hQ (Or.inr ⟨hw, rfl⟩) hS hit h
end
end Go.Proofs.YtojfbcgfeojdfaaGreat

/-
  The reference's draws of smoke.
-/
namespace Go.Proofs.YtojfbcgfeojdfaaGreat
set_option linter.unusedSimpArgs false
set_option linter.unusedVariables false
open Go.RowKit

def allB (lo hi : Int) (xs : List Int) : Prop := ∀ x ∈ xs, lo ≤ x ∧ x ≤ hi
theorem allB_nil (lo hi : Int) : allB lo hi [] := by intro x hx; cases hx
theorem allB_snoc {lo hi y : Int} {xs : List Int} (h : allB lo hi xs) (hy : lo ≤ y ∧ y ≤ hi) : allB lo hi (xs ++ [y]) := by
  intro x hx
  rcases List.mem_append.1 hx with hx | hx
  · exact h x hx
  · obtain rfl := List.mem_singleton.1 hx
    exact hy
theorem allB_set {lo hi y : Int} {xs : List Int} {k : Nat} (h : allB lo hi xs) (hy : lo ≤ y ∧ y ≤ hi) : allB lo hi (xs.set k y) := by
  intro x hx
  rcases List.mem_or_eq_of_mem_set hx with hx | rfl
  · exact h x hx
  · exact hy
theorem amb {x : Int} (lo hi : Int) {xs : List Int} (h : x ∈ xs) (hb : xs.all (fun y => decide (lo ≤ y) && decide (y ≤ hi)) = true) : lo ≤ x ∧ x ≤ hi := by
  have := List.all_eq_true.1 hb x h
  simpa using this
theorem Mem.out3 {B : Nat} {w0 w : World} {G : List Ent} {e e2 e3 : Ent} (h : Mem B w0 w (e :: e2 :: e3 :: G)) : Mem B w0 w (e :: G) := h.sub (by simp)
theorem Nat.mul_le_25 {a b : Nat} (ha : a ≤ 5) (hb : b ≤ 5) : a * b ≤ 25 := Nat.mul_le_mul ha hb

end Go.Proofs.YtojfbcgfeojdfaaGreat
