/-
  The picture of a console: both sides.
-/
import Derived.Test.YtpflnmejbialjaaGreatDoorVCon3
import Derived.Test.YtpflnmejbialjaaGreatDoorVSeaText
import Derived.Test.YtpflnmejbialjaaGreatDoorVNear2
import Derived.Deep.CutBlock
/-
  The picture of a console: both sides.
-/
namespace Go.Proofs.YtpflnmejbialjaaGreatDoor
set_option linter.unusedSimpArgs false
set_option linter.unusedVariables false
open Go.RowKit

/-- the letter of a cell -/
def conC (xs fs av : List Int) (k : Nat) : UInt8 := if 0 < fs.getD k 0 then 42 else if fs.getD k 0 < 0 then 120 else if hasI av k then 33 else cellC (xs.getD k 0)
def tickW : Bs := [116, 105, 99, 107, 32]
def recsW : Bs := [59, 32, 114, 101, 99, 111, 114, 100, 115, 32]
def starW : Bs := [42]
def spentW : Bs := [120]
def markW : Bs := [33]
theorem tickW_eq : (⟨#[116, 105, 99, 107, 32]⟩ : ByteArray) = bsA tickW := rfl
theorem recsW_eq : (⟨#[59, 32, 114, 101, 99, 111, 114, 100, 115, 32]⟩ : ByteArray) = bsA recsW := rfl
theorem starW_eq : (⟨#[42]⟩ : ByteArray) = bsA starW := rfl
theorem spentW_eq : (⟨#[120]⟩ : ByteArray) = bsA spentW := rfl
theorem markW_eq : (⟨#[33]⟩ : ByteArray) = bsA markW := rfl
def conT (W : Nat) (xs fs av : List Int) (n t ct : Nat) : Bs := picTo W (conC xs fs av) n ++ tickW ++ Lib.decDigits t ++ recsW ++ Lib.decDigits ct ++ newlW
def formR (W H : Int) (xs fs ws : List Int) (t : Int) (ph : List PhaseI) (av : List Int) (D P : Bs) (ct : Int) : Bs := if consB W H xs fs ws t ph av D P ct then conT W.toNat xs fs av xs.length t.toNat ct.toNat else []
structure ConFc (W : Int) (xs : List Int) (t : Int) (ct : Int) (m mf : Nat) : Prop where
  hw : ∃ Wn : Nat, W = Wn ∧ 1 ≤ Wn ∧ Wn ≤ 5
  hn : 1 ≤ m ∧ m ≤ 25
  hf : mf = m
  hx : ∀ x ∈ xs, 0 ≤ x ∧ x ≤ 20
  ht : ∃ tn : Nat, t = tn ∧ tn ≤ 9999
  hc : ∃ cn : Nat, ct = cn ∧ cn ≤ 60
theorem con_facts {W H : Int} {xs fs ws : List Int} {t : Int} {ph : List PhaseI} {av : List Int} {D P : Bs} {ct : Int} {n nf : Nat} (h : consB W H xs fs ws t ph av D P ct = true) (hn : xs.length = n) (hf : fs.length = nf) : ConFc W xs t ct n nf := by
  obtain ⟨h1, -, -, h4⟩ := consB_true h
  obtain ⟨g1, g2, -, g4, -⟩ := incB_true h1
  obtain ⟨Wn, Hn, hW, hH, p1, p2, p3, p4, hlen, h25, hall⟩ := goodB_true g1
  obtain ⟨j, -, -, -, hc⟩ := okI_parts h4
  have h60 := (open_pre (D ++ P)).2.2
  refine ⟨⟨Wn, hW, p1, p2⟩, ⟨?_, by omega⟩, by omega, hall, ⟨t.toNat, by omega, by omega⟩, ⟨(openLB (D ++ P)).length, hc, h60⟩⟩
  rw [← hn, hlen]
  exact Nat.mul_le_mul p1 p3
set_option maxRecDepth 100000 in
set_option maxHeartbeats 8000000 in
theorem conLet_any (W H : Int) (a1 : Option Addr) (n1 c1 : Nat) (xs1 : List Int) (a2 : Option Addr) (n2 c2 : Nat) (xs2 : List Int) (a3 : Option Addr) (n3 c3 : Nat) (t : Int) (a4 : Option Addr) (n4 c4 : Nat) (a5 : Option Addr) (n5 c5 : Nat) (av : List Int) (D P : Bs) (ct : Int) (k b4 b1 : Nat) (w : World)
    (h1 : Ints w a1 n1 c1 xs1) (h2 : Ints w a2 n2 c2 xs2) (h5 : Ints w a5 n5 c5 av) (hk : k < n1) (hk2 : k < n2) (hn : n1 ≤ 25 ∧ n2 ≤ 25) (hx : 0 ≤ xs1.getD k 0 ∧ xs1.getD k 0 ≤ 20)
    (hr4 : Row w b4 #[.int .i64 W, .int .i64 H, .slice a1 n1 c1, .slice a2 n2 c2, .slice a3 n3 c3, .int .i64 t]) (hr1 : Row w b1 #[.int .i64 W, .int .i64 H, .slice a1 n1 c1, .slice a2 n2 c2, .slice a3 n3 c3, .int .i64 t, .slice a4 n4 c4, .slice a5 n5 c5, .string (bsA D), .string (bsA P), .int .i64 ct]) :
    Calls Tryz.prog 22 #[.int .i64 k, .pointer (some ⟨b4, 0, none⟩), .pointer (some ⟨b1, 0, none⟩)] w fun e w' => e = .returned (.int .u8 ((conC xs1 xs2 av k).toNat : Int)) ∧ Below w.heap.size w w' := by
  have hM := Mem.start w
  obtain ⟨bb, off, rfl, -, hc⟩ := h1.at' _ hk
  have hck := hc k hk
  obtain ⟨bf, off2, rfl, -, hc2⟩ := h2.at' _ hk2
  have hcf := hc2 k hk2
  clear hc hc2
  have k4 := hr4.cell
  have k1 := hr1.cell
  have i0 : (0 : Int) ≤ (k : Int) := by omega
  have i1 : (k : Int) < (n1 : Int) := by omega
  have i2 : (k : Int) < (n2 : Int) := by omega
  obtain ⟨v, hv⟩ : ∃ v, xs1.getD k 0 = v := ⟨_, rfl⟩
  obtain ⟨f, hf⟩ : ∃ v, xs2.getD k 0 = v := ⟨_, rfl⟩
  have hcc : conC xs1 xs2 av k = if 0 < f then 42 else if f < 0 then 120 else if hasI av k then 33 else cellC v := by unfold conC; rw [hv, hf]
  rw [hv] at hck hx
  rw [hf] at hcf
  rw [hcc]
  clear hv hf hcc
  by_cases hf0 : 0 < f
  · rw [if_pos hf0]
    go_enter Tryz.func22, Tryz.ntmps22
    go_wp2
    go_ret
    exact ⟨rfl, (by apply Mem.below; (repeat' (first | with_reducible exact hM | with_reducible exact hMp | with_reducible apply Mem.drew | with_reducible apply Mem.drewN | with_reducible apply Mem.alloc | with_reducible apply Mem.set | with_reducible exact Sto.row | ((with_reducible refine Sto.rowEq2 ?_ ?_); omega; rfl) | ((with_reducible refine Sto.rowEq ?_); omega) | with_reducible apply Sto.int | with_reducible apply Sto.there | with_reducible assumption | (unfold I64; omega) | (with_reducible (have hMx := Mem.undrew hM; exact hMx)) | (with_reducible (have hMx := Mem.undrew hMp; exact hMx)))))⟩
  rw [if_neg hf0]
  by_cases hf1 : f < 0
  · rw [if_pos hf1]
    go_enter Tryz.func22, Tryz.ntmps22
    go_wp2
    go_ret
    exact ⟨rfl, (by apply Mem.below; (repeat' (first | with_reducible exact hM | with_reducible exact hMp | with_reducible apply Mem.drew | with_reducible apply Mem.drewN | with_reducible apply Mem.alloc | with_reducible apply Mem.set | with_reducible exact Sto.row | ((with_reducible refine Sto.rowEq2 ?_ ?_); omega; rfl) | ((with_reducible refine Sto.rowEq ?_); omega) | with_reducible apply Sto.int | with_reducible apply Sto.there | with_reducible assumption | (unfold I64; omega) | (with_reducible (have hMx := Mem.undrew hM; exact hMx)) | (with_reducible (have hMx := Mem.undrew hMp; exact hMx)))))⟩
  rw [if_neg hf1]
  have HA := Lib.hid (fun w' => has_any a5 n5 c5 av (k : Int) w')
  cases hh : hasI av k
  · rw [hh] at HA
    simp only [Bool.false_eq_true, if_false]
    clear hh
    by_cases hv0 : v = 0
    · subst hv0
      have e0 : ((0 : Int) == 0) = true := rfl
      go_enter Tryz.func22, Tryz.ntmps22
      go_wp2_with fail
      refine (HA.out _ h5).mono ?_
      rintro e w1 ⟨rfl, rfl⟩
      go_wp2
      go_ret
      exact ⟨rfl, (by apply Mem.below; (repeat' (first | with_reducible exact hM | with_reducible exact hMp | with_reducible apply Mem.drew | with_reducible apply Mem.drewN | with_reducible apply Mem.alloc | with_reducible apply Mem.set | with_reducible exact Sto.row | ((with_reducible refine Sto.rowEq2 ?_ ?_); omega; rfl) | ((with_reducible refine Sto.rowEq ?_); omega) | with_reducible apply Sto.int | with_reducible apply Sto.there | with_reducible assumption | (unfold I64; omega) | (with_reducible (have hMx := Mem.undrew hM; exact hMx)) | (with_reducible (have hMx := Mem.undrew hMp; exact hMx)))))⟩
    · have e0 : (v == 0) = false := by simpa using hv0
      have HV := Lib.hid (cellC_pos hv0 hx)
      clear hv0
      have hw1 : IntKind.i64.wrap (97 + v) = 97 + v := wrap_in (by omega)
      have hw2 : IntKind.i64.wrap (97 + v - 1) = 97 + v - 1 := wrap_in (by omega)
      have hw3 : IntKind.u8.wrap (97 + v - 1) = 97 + v - 1 := u8_wrap (by omega) (by omega)
      go_enter Tryz.func22, Tryz.ntmps22
      go_wp2_with fail
      refine (HA.out _ h5).mono ?_
      rintro e w1 ⟨rfl, rfl⟩
      go_wp2
      go_ret
      exact ⟨by rw [HV.out]; rfl, (by apply Mem.below; (repeat' (first | with_reducible exact hM | with_reducible exact hMp | with_reducible apply Mem.drew | with_reducible apply Mem.drewN | with_reducible apply Mem.alloc | with_reducible apply Mem.set | with_reducible exact Sto.row | ((with_reducible refine Sto.rowEq2 ?_ ?_); omega; rfl) | ((with_reducible refine Sto.rowEq ?_); omega) | with_reducible apply Sto.int | with_reducible apply Sto.there | with_reducible assumption | (unfold I64; omega) | (with_reducible (have hMx := Mem.undrew hM; exact hMx)) | (with_reducible (have hMx := Mem.undrew hMp; exact hMx)))))⟩
  · rw [hh] at HA
    simp only [if_true]
    clear hh
    go_enter Tryz.func22, Tryz.ntmps22
    go_wp2_with fail
    refine (HA.out _ h5).mono ?_
    rintro e w1 ⟨rfl, rfl⟩
    go_wp2
    go_ret
    exact ⟨rfl, (by apply Mem.below; (repeat' (first | with_reducible exact hM | with_reducible exact hMp | with_reducible apply Mem.drew | with_reducible apply Mem.drewN | with_reducible apply Mem.alloc | with_reducible apply Mem.set | with_reducible exact Sto.row | ((with_reducible refine Sto.rowEq2 ?_ ?_); omega; rfl) | ((with_reducible refine Sto.rowEq ?_); omega) | with_reducible apply Sto.int | with_reducible apply Sto.there | with_reducible assumption | (unfold I64; omega) | (with_reducible (have hMx := Mem.undrew hM; exact hMx)) | (with_reducible (have hMx := Mem.undrew hMp; exact hMx)))))⟩
set_option maxRecDepth 100000 in
set_option maxHeartbeats 8000000 in
theorem implForm_any (W H : Int) (a1 : Option Addr) (n1 c1 : Nat) (xs1 : List Int) (a2 : Option Addr) (n2 c2 : Nat) (xs2 : List Int) (a3 : Option Addr) (n3 c3 : Nat) (xs3 : List Int) (t : Int) (a4 : Option Addr) (n4 c4 : Nat) (ph : List PhaseI) (a5 : Option Addr) (n5 c5 : Nat) (av : List Int) (D P : Bs) (ct : Int) (w : World)
    (h1 : Ints w a1 n1 c1 xs1) (h2 : Ints w a2 n2 c2 xs2) (h3 : Ints w a3 n3 c3 xs3) (h4 : Rd FPhase w a4 n4 c4 ph) (h5 : Ints w a5 n5 c5 av) (ht : Tab w) (hl : D.length + P.length ≤ 4194304) :
    Calls Tryz.prog 7 #[conV W H a1 n1 c1 a2 n2 c2 a3 n3 c3 t a4 n4 c4 a5 n5 c5 (bsA D) (bsA P) ct] w fun e w' => e = .returned (.tuple #[.string (bsA (formR W H xs1 xs2 xs3 t ph av D P ct)), .bool (consB W H xs1 xs2 xs3 t ph av D P ct)]) ∧ Below w.heap.size w w' := by
  have hM := Mem.start w
  have HT := Lib.hid ht; clear ht
  have hmf : ∀ (fn : Fn) (first cap : Array Value) (w : World), (Instr.makeFunc fn first cap).run Tryz.prog w = .ok (.func fn first cap) w := fun _ _ _ _ => rfl
  have HIS := Lib.hid (fun (w' : World) (hb : Below w.heap.size w w') => implIsCon_any W H a1 n1 c1 xs1 a2 n2 c2 xs2 a3 n3 c3 xs3 t a4 n4 c4 ph a5 n5 c5 av D P ct w' (h1.ext hb) (h2.ext hb) (h3.ext hb) (h4.ext hb) (h5.ext hb) (HT.out.ext hb) hl)
  cases hq : consB W H xs1 xs2 xs3 t ph av D P ct
  · rw [hq] at HIS
    have HF := Lib.hid (show formR W H xs1 xs2 xs3 t ph av D P ct = [] by rw [formR, hq]; rfl)
    clear hq
    go_enter Tryz.func7, Tryz.ntmps7
    go_upto_region 1 with fail
    apply Mem.atWpA
    · (repeat' (first | with_reducible exact hM | with_reducible exact hMp | with_reducible apply Mem.drew | with_reducible apply Mem.drewN | with_reducible apply Mem.alloc | with_reducible apply Mem.set | with_reducible exact Sto.row | ((with_reducible refine Sto.rowEq2 ?_ ?_); omega; rfl) | ((with_reducible refine Sto.rowEq ?_); omega) | with_reducible apply Sto.int | with_reducible apply Sto.there | with_reducible assumption | (unfold I64; omega) | (with_reducible (have hMx := Mem.undrew hM; exact hMx)) | (with_reducible (have hMx := Mem.undrew hMp; exact hMx))))
    clear hM
    intro wst hM
    (try simp only [World.size_alloc, World.size_setCell, World.heap_drewN, heapDrew, Nat.add_assoc, Nat.reduceAdd, List.setIfInBounds_toArray, List.set_cons_zero, List.set_cons_succ, List.cons_append, List.nil_append] at hM)
    obtain ⟨k0, f0, l0⟩ := hM.row .here
    go_wp2_with fail
    clear k0 f0 l0
    apply Mem.atA
    · (repeat' (first | with_reducible exact hM | with_reducible exact hMp | with_reducible apply Mem.drew | with_reducible apply Mem.drewN | with_reducible apply Mem.alloc | with_reducible apply Mem.set | with_reducible exact Sto.row | ((with_reducible refine Sto.rowEq2 ?_ ?_); omega; rfl) | ((with_reducible refine Sto.rowEq ?_); omega) | with_reducible apply Sto.int | with_reducible apply Sto.there | with_reducible assumption | (unfold I64; omega) | (with_reducible (have hMx := Mem.undrew hM; exact hMx)) | (with_reducible (have hMx := Mem.undrew hMp; exact hMx))))
    clear hM
    intro wst hM
    (try simp only [World.size_alloc, World.size_setCell, World.heap_drewN, heapDrew, Nat.add_assoc, Nat.reduceAdd, List.setIfInBounds_toArray, List.set_cons_zero, List.set_cons_succ, List.cons_append, List.nil_append] at hM)
    (first | refine (HIS.out _ hM.below).mono ?_)
    rintro e wc1 ⟨rfl, hb⟩
    replace hM := hM.ext hb
    clear hb
    go_wp2
    go_ret2
    exact ⟨by rw [HF.out]; rfl, (by apply Mem.below; (repeat' (first | with_reducible exact hM | with_reducible exact hMp | with_reducible apply Mem.drew | with_reducible apply Mem.drewN | with_reducible apply Mem.alloc | with_reducible apply Mem.set | with_reducible exact Sto.row | ((with_reducible refine Sto.rowEq2 ?_ ?_); omega; rfl) | ((with_reducible refine Sto.rowEq ?_); omega) | with_reducible apply Sto.int | with_reducible apply Sto.there | with_reducible assumption | (unfold I64; omega) | (with_reducible (have hMx := Mem.undrew hM; exact hMx)) | (with_reducible (have hMx := Mem.undrew hMp; exact hMx)))))⟩
  rw [hq] at HIS
  have hfc := con_facts hq h1.len h2.len
  have hfr : formR W H xs1 xs2 xs3 t ph av D P ct = conT W.toNat xs1 xs2 av n1 t.toNat ct.toNat := by rw [formR, hq, if_pos rfl, h1.len]
  rw [hfr]
  clear hq hfr
  obtain ⟨⟨Wn, rfl, W1, W2⟩, ⟨n1p, n25⟩, hn2, hx, ⟨tn, rfl, ht9⟩, ⟨cn, rfl, hc60⟩⟩ := hfc
  subst hn2
  rw [Int.toNat_natCast, Int.toNat_natCast, Int.toNat_natCast]
  have HX := Lib.hid hx; clear hx
  have HL := Lib.hid h1.len
  have S1 := bsA_size
  have S2 := bsA_app
  have C1 := tickW_eq
  have C2 := recsW_eq
  have C3 := newlW_eq
  have L1 : tickW.length = 5 := rfl
  have L2 : recsW.length = 10 := rfl
  have L3 : newlW.length = 1 := rfl
  have hpl := pic_len (by omega : 0 < Wn) (conC xs1 xs2 av) n2
  have hdw : n2 / Wn ≤ n2 := Nat.div_le_self _ _
  have hp50 : (picTo Wn (conC xs1 xs2 av) n2).length ≤ 50 := by omega
  have d1 := digits_len (n := tn) (by omega)
  have d2 := digits_len (n := cn) (by omega)
  have HR : Hid (conT Wn xs1 xs2 av n2 tn cn = picTo Wn (conC xs1 xs2 av) n2 ++ tickW ++ Lib.decDigits tn ++ recsW ++ Lib.decDigits cn ++ newlW) := Lib.hid rfl
  clear hpl hdw
  go_enter Tryz.func7, Tryz.ntmps7
  go_upto_region 1 with fail
  apply Mem.atWpA
  · (repeat' (first | with_reducible exact hM | with_reducible exact hMp | with_reducible apply Mem.drew | with_reducible apply Mem.drewN | with_reducible apply Mem.alloc | with_reducible apply Mem.set | with_reducible exact Sto.row | ((with_reducible refine Sto.rowEq2 ?_ ?_); omega; rfl) | ((with_reducible refine Sto.rowEq ?_); omega) | with_reducible apply Sto.int | with_reducible apply Sto.there | with_reducible assumption | (unfold I64; omega) | (with_reducible (have hMx := Mem.undrew hM; exact hMx)) | (with_reducible (have hMx := Mem.undrew hMp; exact hMx))))
  clear hM
  intro wst hM
  (try simp only [World.size_alloc, World.size_setCell, World.heap_drewN, heapDrew, Nat.add_assoc, Nat.reduceAdd, List.setIfInBounds_toArray, List.set_cons_zero, List.set_cons_succ, List.cons_append, List.nil_append] at hM)
  obtain ⟨k0, f0, l0⟩ := hM.row .here
  go_wp2_with fail
  clear k0 f0 l0
  apply Mem.atA
  · (repeat' (first | with_reducible exact hM | with_reducible exact hMp | with_reducible apply Mem.drew | with_reducible apply Mem.drewN | with_reducible apply Mem.alloc | with_reducible apply Mem.set | with_reducible exact Sto.row | ((with_reducible refine Sto.rowEq2 ?_ ?_); omega; rfl) | ((with_reducible refine Sto.rowEq ?_); omega) | with_reducible apply Sto.int | with_reducible apply Sto.there | with_reducible assumption | (unfold I64; omega) | (with_reducible (have hMx := Mem.undrew hM; exact hMx)) | (with_reducible (have hMx := Mem.undrew hMp; exact hMx))))
  clear hM
  intro wst hM
  (try simp only [World.size_alloc, World.size_setCell, World.heap_drewN, heapDrew, Nat.add_assoc, Nat.reduceAdd, List.setIfInBounds_toArray, List.set_cons_zero, List.set_cons_succ, List.cons_append, List.nil_append] at hM)
  (first | refine (HIS.out _ hM.below).mono ?_)
  rintro e wb ⟨rfl, hb⟩
  replace hM := hM.ext hb
  clear hb
  obtain ⟨k0, f0, l0⟩ := hM.row .here
  go_upto_region 4 with fail
  clear k0 f0 l0
  apply Mem.atWpA
  · (repeat' (first | with_reducible exact hM | with_reducible exact hMp | with_reducible apply Mem.drew | with_reducible apply Mem.drewN | with_reducible apply Mem.alloc | with_reducible apply Mem.set | with_reducible exact Sto.row | ((with_reducible refine Sto.rowEq2 ?_ ?_); omega; rfl) | ((with_reducible refine Sto.rowEq ?_); omega) | with_reducible apply Sto.int | with_reducible apply Sto.there | with_reducible assumption | (unfold I64; omega) | (with_reducible (have hMx := Mem.undrew hM; exact hMx)) | (with_reducible (have hMx := Mem.undrew hMp; exact hMx))))
  clear hM
  intro wst hM
  (try simp only [World.size_alloc, World.size_setCell, World.heap_drewN, heapDrew, Nat.add_assoc, Nat.reduceAdd, List.setIfInBounds_toArray, List.set_cons_zero, List.set_cons_succ, List.cons_append, List.nil_append] at hM)
  obtain ⟨Pp, hPp⟩ : ∃ P, picTo Wn (conC xs1 xs2 av) n2 = P := ⟨_, rfl⟩
  obtain ⟨dt, hdt⟩ : ∃ d, Lib.decDigits tn = d := ⟨_, rfl⟩
  obtain ⟨dc, hdc⟩ : ∃ d, Lib.decDigits cn = d := ⟨_, rfl⟩
  have HI1 := Lib.hid (fun w ht => itoaI_any tn w ht (by omega))
  have HI2 := Lib.hid (fun w ht => itoaI_any cn w ht (by omega))
  rw [hPp, hdt, hdc] at HR
  rw [hPp] at hp50
  rw [hdt] at d1 HI1
  rw [hdc] at d2 HI2
  have HP := Lib.hid hPp
  clear hPp hdt hdc
  obtain ⟨k0, f0, l0⟩ := hM.row .here
  obtain ⟨k1, f1, l1⟩ := hM.row (.there .here)
  go_wp2_with fail
  clear k0 f0 l0 k1 f1 l1
  apply Mem.atA
  · (repeat' (first | with_reducible exact hM | with_reducible exact hMp | with_reducible apply Mem.drew | with_reducible apply Mem.drewN | with_reducible apply Mem.alloc | with_reducible apply Mem.set | with_reducible exact Sto.row | ((with_reducible refine Sto.rowEq2 ?_ ?_); omega; rfl) | ((with_reducible refine Sto.rowEq ?_); omega) | with_reducible apply Sto.int | with_reducible apply Sto.there | with_reducible assumption | (unfold I64; omega) | (with_reducible (have hMx := Mem.undrew hM; exact hMx)) | (with_reducible (have hMx := Mem.undrew hMp; exact hMx))))
  clear hM
  intro wst hM
  (try simp only [World.size_alloc, World.size_setCell, World.heap_drewN, heapDrew, Nat.add_assoc, Nat.reduceAdd, List.setIfInBounds_toArray, List.set_cons_zero, List.set_cons_succ, List.cons_append, List.nil_append] at hM)
  refine (picture_any 22 #[.pointer (some ⟨wb.heap.size, 0, none⟩), .pointer (some ⟨w.heap.size, 0, none⟩)] (conC xs1 xs2 av) Wn H a1 n2 c1 _ ⟨W1, W2⟩ ⟨n1p, n25⟩ (enters Tryz.func22 (by kernel_rfl) rfl) (fun k hk w' hb => conLet_any Wn H a1 n2 c1 xs1 a2 n2 c2 xs2 a3 n3 c3 tn a4 n4 c4 a5 n5 c5 av D P cn k _ _ w' ((h1.ext hM.below).ext hb) ((h2.ext hM.below).ext hb) ((h5.ext hM.below).ext hb) hk hk ⟨n25, n25⟩ (HX.out _ (getD_mem (by rw [HL.out]; exact hk))) ((hM.row .here).ext hb) ((hM.row (.there .here)).ext hb))).mono ?_
  rw [HP.out]
  rintro e w3 ⟨rfl, hb⟩
  replace hM := hM.ext hb
  clear hb
  have e1 : ¬ 9223372036854775807 < Pp.length + tickW.length := by omega
  have e2 : ¬ 9223372036854775807 < (Pp ++ tickW).length + dt.length := by rw [List.length_append]; omega
  have e3 : ¬ 9223372036854775807 < (Pp ++ tickW ++ dt).length + recsW.length := by rw [List.length_append, List.length_append]; omega
  have e4 : ¬ 9223372036854775807 < (Pp ++ tickW ++ dt ++ recsW).length + dc.length := by rw [List.length_append, List.length_append, List.length_append]; omega
  have e5 : ¬ 9223372036854775807 < (Pp ++ tickW ++ dt ++ recsW ++ dc).length + newlW.length := by rw [List.length_append, List.length_append, List.length_append, List.length_append]; omega
  have e3' : ¬ 9223372036854775807 < (Pp ++ (tickW ++ dt)).length + recsW.length := by rw [List.length_append, List.length_append]; omega
  have e4' : ¬ 9223372036854775807 < (Pp ++ (tickW ++ (dt ++ recsW))).length + dc.length := by rw [List.length_append, List.length_append, List.length_append]; omega
  have e5' : ¬ 9223372036854775807 < (Pp ++ (tickW ++ (dt ++ (recsW ++ dc)))).length + newlW.length := by rw [List.length_append, List.length_append, List.length_append, List.length_append]; omega
  obtain ⟨k0, f0, l0⟩ := hM.row .here
  obtain ⟨k1, f1, l1⟩ := hM.row (.there .here)
  go_upto_region 5 with fail
  clear k0 f0 l0 k1 f1 l1
  apply Mem.atWpA
  · (repeat' (first | with_reducible exact hM | with_reducible exact hMp | with_reducible apply Mem.drew | with_reducible apply Mem.drewN | with_reducible apply Mem.alloc | with_reducible apply Mem.set | with_reducible exact Sto.row | ((with_reducible refine Sto.rowEq2 ?_ ?_); omega; rfl) | ((with_reducible refine Sto.rowEq ?_); omega) | with_reducible apply Sto.int | with_reducible apply Sto.there | with_reducible assumption | (unfold I64; omega) | (with_reducible (have hMx := Mem.undrew hM; exact hMx)) | (with_reducible (have hMx := Mem.undrew hMp; exact hMx))))
  clear hM
  intro wst hM
  (try simp only [World.size_alloc, World.size_setCell, World.heap_drewN, heapDrew, Nat.add_assoc, Nat.reduceAdd, List.setIfInBounds_toArray, List.set_cons_zero, List.set_cons_succ, List.cons_append, List.nil_append] at hM)
  refine AtT.startA hM hM 14 (by kernel_rfl) ?_
  clear hM
  intro wd hM
  have hS := hM
  refine AtT.taked (i := 0) (v := ?_) (some 15) rfl rfl (by kernel_rfl) (by kernel_rfl) (by kernel_rfl) (by kernel_rfl) (fun _ _ _ h => h) (Or.inl ⟨by kernel_rfl, ?_⟩) hS ?_
  rotate_left
  · (intro wS hSw; (try dsimp only at hSw); go_simp; (try rw [if_neg (by omega)]); try with_reducible rfl)
  simp only [Act.put, List.setIfInBounds_toArray, List.set_cons_zero, List.set_cons_succ]
  refine AtT.taked (i := 1) (v := ?_) (some 16) rfl rfl (by kernel_rfl) (by kernel_rfl) (by kernel_rfl) (by kernel_rfl) (fun _ _ _ h => h) (Or.inl ⟨by kernel_rfl, ?_⟩) hS ?_
  rotate_left
  · (intro wS hSw; (try dsimp only at hSw); go_simp; (try rw [if_neg (by omega)]); try with_reducible rfl)
  simp only [Act.put, List.setIfInBounds_toArray, List.set_cons_zero, List.set_cons_succ]
  refine AtT.taked (i := 2) (v := ?_) (some 17) rfl rfl (by kernel_rfl) (by kernel_rfl) (by kernel_rfl) (by kernel_rfl) (fun _ _ _ h => h) (Or.inl ⟨by kernel_rfl, ?_⟩) hS ?_
  rotate_left
  · (intro wS hSw; (try dsimp only at hSw); go_simp; (try rw [if_neg (by omega)]); try with_reducible rfl)
  simp only [Act.put, List.setIfInBounds_toArray, List.set_cons_zero, List.set_cons_succ]
  refine AtT.taked (i := 3) (v := ?_) (some 18) rfl rfl (by kernel_rfl) (by kernel_rfl) (by kernel_rfl) (by kernel_rfl) (fun _ _ _ h => h) (Or.inl ⟨by kernel_rfl, ?_⟩) hS ?_
  rotate_left
  · (intro wS hSw; (try dsimp only at hSw); have kr0 := (Mem.row hSw .here).cell; have kr1 := (Mem.row hSw (.there .here)).cell; go_simp; (try rw [if_neg (by omega)]); try with_reducible rfl)
  simp only [Act.put, List.setIfInBounds_toArray, List.set_cons_zero, List.set_cons_succ]
  refine AtT.taked (i := 7) (v := ?_) (some 22) rfl rfl (by kernel_rfl) (by kernel_rfl) (by kernel_rfl) (by kernel_rfl) (fun _ _ _ h => h) (Or.inl ⟨by kernel_rfl, ?_⟩) hS ?_
  rotate_left
  · (intro wS hSw; (try dsimp only at hSw); go_simp; (try rw [if_neg (by omega)]); try with_reducible rfl)
  simp only [Act.put, List.setIfInBounds_toArray, List.set_cons_zero, List.set_cons_succ]
  refine AtT.taked (i := 8) (v := ?_) (some 23) rfl rfl (by kernel_rfl) (by kernel_rfl) (by kernel_rfl) (by kernel_rfl) (fun _ _ _ h => h) (Or.inl ⟨by kernel_rfl, ?_⟩) hS ?_
  rotate_left
  · (intro wS hSw; (try dsimp only at hSw); go_simp; (try rw [if_neg (by omega)]); try with_reducible rfl)
  simp only [Act.put, List.setIfInBounds_toArray, List.set_cons_zero, List.set_cons_succ]
  refine AtT.taked (i := 9) (v := ?_) (some 24) rfl rfl (by kernel_rfl) (by kernel_rfl) (by kernel_rfl) (by kernel_rfl) (fun _ _ _ h => h) (Or.inl ⟨by kernel_rfl, ?_⟩) hS ?_
  rotate_left
  · (intro wS hSw; (try dsimp only at hSw); have kr0 := (Mem.row hSw .here).cell; have kr1 := (Mem.row hSw (.there .here)).cell; go_simp; (try rw [if_neg (by omega)]); try with_reducible rfl)
  simp only [Act.put, List.setIfInBounds_toArray, List.set_cons_zero, List.set_cons_succ]
  refine AtT.only (i := 4) (by kernel_rfl) rfl rfl ?_
  intro K hK
  go_simp
  refine (HI1.out _ (HT.out.ext hM.below)).mono ?_
  rintro e w5 ⟨rfl, hb⟩
  replace hM := hM.ext hb
  clear hb
  try dsimp only
  refine hK.out _ _ (hM) ?_
  clear hK K hS
  have hS := hM
  refine AtT.taked (i := 5) (v := ?_) (some 20) rfl rfl (by kernel_rfl) (by kernel_rfl) (by kernel_rfl) (by kernel_rfl) (fun _ _ _ h => h) (Or.inl ⟨by kernel_rfl, ?_⟩) hS ?_
  rotate_left
  · (intro wS hSw; (try dsimp only at hSw); go_simp; (try rw [if_neg (by omega)]); try with_reducible rfl)
  simp only [Act.put, List.setIfInBounds_toArray, List.set_cons_zero, List.set_cons_succ]
  refine AtT.taked (i := 6) (v := ?_) (some 21) rfl rfl (by kernel_rfl) (by kernel_rfl) (by kernel_rfl) (by kernel_rfl) (fun _ _ _ h => h) (Or.inl ⟨by kernel_rfl, ?_⟩) hS ?_
  rotate_left
  · (intro wS hSw; (try dsimp only at hSw); go_simp; (try rw [if_neg (by omega)]); try with_reducible rfl)
  simp only [Act.put, List.setIfInBounds_toArray, List.set_cons_zero, List.set_cons_succ]
  refine AtT.only (i := 10) (by kernel_rfl) rfl rfl ?_
  intro K hK
  go_simp
  refine (HI2.out _ (HT.out.ext hM.below)).mono ?_
  rintro e w6 ⟨rfl, hb⟩
  replace hM := hM.ext hb
  clear hb
  try dsimp only
  refine hK.out _ _ (hM) ?_
  clear hK K hS
  have hS := hM
  refine AtT.taked (i := 11) (v := ?_) (some 26) rfl rfl (by kernel_rfl) (by kernel_rfl) (by kernel_rfl) (by kernel_rfl) (fun _ _ _ h => h) (Or.inl ⟨by kernel_rfl, ?_⟩) hS ?_
  rotate_left
  · (intro wS hSw; (try dsimp only at hSw); go_simp; (try rw [if_neg (by omega)]); try with_reducible rfl)
  simp only [Act.put, List.setIfInBounds_toArray, List.set_cons_zero, List.set_cons_succ]
  refine AtT.taked (i := 12) (v := ?_) (some 27) rfl rfl (by kernel_rfl) (by kernel_rfl) (by kernel_rfl) (by kernel_rfl) (fun _ _ _ h => h) (Or.inl ⟨by kernel_rfl, ?_⟩) hS ?_
  rotate_left
  · (intro wS hSw; (try dsimp only at hSw); go_simp; (try rw [if_neg (by omega)]); try with_reducible rfl)
  simp only [Act.put, List.setIfInBounds_toArray, List.set_cons_zero, List.set_cons_succ]
  refine AtT.taked (i := 13) (v := ?_) (some 2) rfl rfl (by kernel_rfl) (by kernel_rfl) (by kernel_rfl) (by kernel_rfl) (fun _ _ _ h => h) (Or.inl ⟨by kernel_rfl, ?_⟩) hS ?_
  rotate_left
  · (intro wS hSw; (try dsimp only at hSw); go_simp; (try rw [if_neg (by omega)]); try with_reducible rfl)
  simp only [Act.put, List.setIfInBounds_toArray, List.set_cons_zero, List.set_cons_succ]
  refine AtT.last (by kernel_rfl) rfl (by kernel_rfl) ?_
  intro K hK
  clear hS
  go_simp
  refine hK.out _ _ ?_
  clear hK K
  go_wp2
  go_ret2
  exact ⟨by rw [HR.out]; first | rfl | simp [List.append_assoc], (by apply Mem.below; (repeat' (first | with_reducible exact hM | with_reducible exact hMp | with_reducible apply Mem.drew | with_reducible apply Mem.drewN | with_reducible apply Mem.alloc | with_reducible apply Mem.set | with_reducible exact Sto.row | ((with_reducible refine Sto.rowEq2 ?_ ?_); omega; rfl) | ((with_reducible refine Sto.rowEq ?_); omega) | with_reducible apply Sto.int | with_reducible apply Sto.there | with_reducible assumption | (unfold I64; omega) | (with_reducible (have hMx := Mem.undrew hM; exact hMx)) | (with_reducible (have hMx := Mem.undrew hMp; exact hMx)))))⟩
end Go.Proofs.YtpflnmejbialjaaGreatDoor
