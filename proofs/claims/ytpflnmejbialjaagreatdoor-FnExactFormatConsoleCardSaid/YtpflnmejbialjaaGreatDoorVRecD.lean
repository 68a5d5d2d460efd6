/-
  The parts of a text between bytes; a line as the reference reads it.
-/
import Derived.Test.YtpflnmejbialjaaGreatDoorVRecN
/-
  The parts of a text between bytes; a line as the reference reads it.
-/
namespace Go.Proofs.YtpflnmejbialjaaGreatDoor
set_option linter.unusedSimpArgs false
set_option linter.unusedVariables false
open Go.RowKit

theorem Mem.toOw0 {α : Type} {F : Fl α} {E : TypeId} {B : Nat} {w0 w : World} {G : List Ent} {b : Nat} (h : Mem B w0 w (rowE b E #[] :: G)) : Mem B w0 w (owE F E (some ⟨b, 0, none⟩) 0 0 [] :: G) := by
  have h1 := h.ents _ In.here.mem
  obtain ⟨h2, h3⟩ := h1
  refine h.put .here (Keeps.refl _ _) ?_ (fun k hk => ?_)
  · refine ⟨rfl, by omega, by simp, by simp [Fl.cells], .inr ⟨b, 0, #[], rfl, h2, h3, Nat.le_refl _, Nat.zero_le _, by simp, by simp [Fl.cells]⟩⟩
  · obtain ⟨ad, e1, e2⟩ := hk
    injection e1 with e1
    subst e1
    exact .inl e2
theorem Mem.oneR {α : Type} {F : Fl α} {E : TypeId} {B : Nat} {w0 w : World} {G : List Ent} {b : Nat} {cs : Array Value} (y : α) (h : Mem B w0 w G) (i : In G (rowE b E cs)) (hc : cs.toList = F.enc y) (hw : F.wf y) (hs : F.sz ≤ 1000) : Rd F w (some ⟨b, 0, none⟩) 1 1 [y] := by
  have hr := h.row i
  refine ⟨rfl, Nat.le_refl _, by unfold maxLen; omega, by simp, by omega, by simpa using hw, fun k hk => ⟨b, 0, rfl, hr.lt, fun i hi j hj => ?_⟩⟩
  obtain rfl : i = 0 := by omega
  rw [hr.cell]
  simp only [Nat.zero_mul, Nat.zero_add, List.getD_cons_zero]
  rw [← hc, Array.getElem?_toList]

theorem Tryz.info9 : (Tryz.prog.info? 9).map (fun i => (i.zero, i.size, i.bytes)) = some (some (.string ⟨#[]⟩), 1, 16) := by kernel_rfl

set_option maxRecDepth 100000 in
set_option maxHeartbeats 4000000 in
theorem l1Split_any (l : Bs) (b : UInt8) (m : Int) (hm : (b.toNat : Int) = m) (w : World) (hl : l.length ≤ 4194304) :
    Calls Tryz.prog 59 #[.string (bsA l), .int .u8 m] w fun e w' => ∃ a' c', e = .returned (.slice a' (splitB b l).length c') ∧ Mem w.heap.size w w' [owE FStr 9 a' (splitB b l).length c' (splitB b l)] := by
  have hM := Mem.start w
  have S1 := bsA_size
  obtain ⟨mn, hmn⟩ : ∃ mn : Nat, b.toNat = mn := ⟨_, rfl⟩
  rw [hmn] at hm
  subst hm
  have HB := Lib.hid hmn; clear hmn
  obtain ⟨i0, hi, hz0, hz1, hz2⟩ := info_parts Tryz.info9
  go_enter Tryz.func59, Tryz.ntmps59
  go_wp2
  go_loopw [5, 6, 7] (fun s5 s6 s7 wr => ∃ (k : Nat) (a' : Option Addr) (c' : Nat), k ≤ l.length ∧ s7 = .int .i64 k ∧ s6 = .int .i64 (splitTo b l k).2 ∧ s5 = .slice a' (splitTo b l k).1.length c' ∧ Mem w.heap.size w wr [owE FStr 9 a' (splitTo b l k).1.length c' (splitTo b l k).1]) (fun _ _ s7 _ => l.length - (intOf s7).toNat)
  case atStart =>
    refine ⟨0, _, _, Nat.zero_le _, rfl, rfl, rfl, ?_⟩
    apply Mem.toOw0 (G := [])
    (repeat' (first | with_reducible exact hM | with_reducible exact hMp | with_reducible apply Mem.drew | with_reducible apply Mem.drewN | with_reducible apply Mem.alloc | with_reducible apply Mem.set | with_reducible exact Sto.row | ((with_reducible refine Sto.rowEq2 ?_ ?_); omega; rfl) | ((with_reducible refine Sto.rowEq ?_); omega) | with_reducible apply Sto.int | with_reducible apply Sto.there | with_reducible assumption | (unfold I64; omega) | (with_reducible (have hMx := Mem.undrew hM; exact hMx)) | (with_reducible (have hMx := Mem.undrew hMp; exact hMx))))
  case round =>
    clear hM
    obtain ⟨k, a', c', hk, rfl, rfl, rfl, hM⟩ := hrel
    have hle := splitTo_le b l k
    by_cases hlt : k < l.length
    · have hst : splitTo b l (k + 1) = if l.getD k 0 == b then ((splitTo b l k).1 ++ [(l.drop (splitTo b l k).2).take (k - (splitTo b l k).2)], k + 1) else splitTo b l k := rfl
      have S2 := bsA_get l k
      generalize l.getD k 0 = x at hst S2
      generalize splitTo b l k = st at hst hle hM ⊢
      obtain ⟨os, f⟩ := st
      dsimp only at hst hle hM ⊢
      obtain ⟨hf, ho⟩ := hle
      obtain ⟨v, hv⟩ : ∃ v : Nat, x.toNat = v := ⟨_, rfl⟩
      rw [beq_nat hv HB.out] at hst
      have HST := Lib.hid hst; clear hst
      by_cases h2 : v = mn
      · subst h2
        have HS2 := Lib.hid (show splitTo b l (k + 1) = (os ++ [(l.drop f).take (k - f)], k + 1) by rw [HST.out]; simp)
        have g1 : (f : Int) ≤ (k : Int) := by omega
        have g2 : (k : Int) ≤ (l.length : Int) := by omega
        have g3 : (0 : Int) ≤ (f : Int) := by omega
        have E1 : (bsA l).extract f k = bsA ((l.drop f).take (k - f)) := bsA_ext l f k
        generalize (l.drop f).take (k - f) = y at HS2 E1
        go_wp2_with (at_builtin; apply Mem.atL; (focus ((repeat' (first | with_reducible exact hM | with_reducible exact hMp | with_reducible apply Mem.drew | with_reducible apply Mem.drewN | with_reducible apply Mem.alloc | with_reducible apply Mem.set | with_reducible exact Sto.row | ((with_reducible refine Sto.rowEq2 ?_ ?_); omega; rfl) | ((with_reducible refine Sto.rowEq ?_); omega) | with_reducible apply Sto.int | with_reducible apply Sto.there | with_reducible assumption | (unfold I64; omega) | (with_reducible (have hMx := Mem.undrew hM; exact hMx)) | (with_reducible (have hMx := Mem.undrew hMp; exact hMx)))); done)); clear hM; intro hM; refine wpList_appendR (F := FStr) rfl (.tmp 20) (.tmp 25) 87 rfl 9 i0 (.string ⟨#[]⟩) 16 Tryz.underlying87 hi hz0 hz1 hz2 rfl w.heap.size a' os.length c' os rfl (hM.ow (.there .here)) (some ⟨wr.heap.size, 0, none⟩) 1 1 [y] rfl ?c1 ?c2 ?c3 hM.size ?_)
        case c1 => exact hM.oneR y .here rfl trivial (by decide)
        case c2 => show (os.length + 1) * 1 ≤ _; omega
        case c3 => omega
        intro a2 c2 w2 hO hg hbl
        replace hM := hM.appendedR (.there .here) hO hg (fun k hk => by simpa using hbl k hk)
        clear hO hg hbl
        go_wp2
        go_roundw
        case rel =>
          refine ⟨k + 1, a2, c2, by omega, by go_num, by rw [HS2.out]; first | rfl | (congr 1; omega), by rw [HS2.out]; simp, ?_⟩
          rw [HS2.out]
          simpa using hM.tail
        case measure => simp [intOf]; omega
      · have hn : ((v : Int) == (mn : Int)) = false := by simp; omega
        have HS2 := Lib.hid (show splitTo b l (k + 1) = (os, f) by rw [HST.out]; simp [h2])
        go_wp2
        go_roundw
        case rel =>
          refine ⟨k + 1, a', c', by omega, by go_num, by rw [HS2.out], by rw [HS2.out], ?_⟩
          rw [HS2.out]
          exact hM
        case measure => simp [intOf]; omega
    · obtain rfl : k = l.length := by omega
      have HF := Lib.hid (show splitB b l = (splitTo b l l.length).1 ++ [l.drop (splitTo b l l.length).2] from rfl)
      generalize splitTo b l l.length = st at hle hM HF ⊢
      obtain ⟨os, f⟩ := st
      dsimp only at hle hM HF ⊢
      obtain ⟨hf, ho⟩ := hle
      have g1 : (0 : Int) ≤ (f : Int) ∧ (f : Int) ≤ (l.length : Int) := ⟨by omega, by omega⟩
      have E1 : (bsA l).extract f l.length = bsA (l.drop f) := bsA_from l f
      generalize l.drop f = y at HF E1
      go_wp2_with (at_builtin; apply Mem.atL; (focus ((repeat' (first | with_reducible exact hM | with_reducible exact hMp | with_reducible apply Mem.drew | with_reducible apply Mem.drewN | with_reducible apply Mem.alloc | with_reducible apply Mem.set | with_reducible exact Sto.row | ((with_reducible refine Sto.rowEq2 ?_ ?_); omega; rfl) | ((with_reducible refine Sto.rowEq ?_); omega) | with_reducible apply Sto.int | with_reducible apply Sto.there | with_reducible assumption | (unfold I64; omega) | (with_reducible (have hMx := Mem.undrew hM; exact hMx)) | (with_reducible (have hMx := Mem.undrew hMp; exact hMx)))); done)); clear hM; intro hM; refine wpList_appendR (F := FStr) rfl (.tmp 29) (.tmp 33) 87 rfl 9 i0 (.string ⟨#[]⟩) 16 Tryz.underlying87 hi hz0 hz1 hz2 rfl w.heap.size a' os.length c' os rfl (hM.ow (.there .here)) (some ⟨wr.heap.size, 0, none⟩) 1 1 [y] rfl ?c1 ?c2 ?c3 hM.size ?_)
      case c1 => exact hM.oneR y .here rfl trivial (by decide)
      case c2 => show (os.length + 1) * 1 ≤ _; omega
      case c3 => omega
      intro a2 c2 w2 hO hg hbl
      replace hM := hM.appendedR (.there .here) hO hg (fun k hk => by simpa using hbl k hk)
      clear hO hg hbl
      go_wp2
      go_ret
      exact ⟨a2, c2, by rw [HF.out]; simp, by rw [HF.out]; simpa using hM.tail⟩
end Go.Proofs.YtpflnmejbialjaaGreatDoor
