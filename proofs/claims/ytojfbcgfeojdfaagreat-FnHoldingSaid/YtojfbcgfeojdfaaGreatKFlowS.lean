/-
  The reference's l9Push: one more unit through a net, or a cut.
-/
import Derived.Test.YtojfbcgfeojdfaaGreatKFlowM
import Derived.Test.YtojfbcgfeojdfaaGreatKFlood
import Derived.Test.YtojfbcgfeojdfaaGreatKDrawSmk
import Derived.Deep.DeepCutAuto
/-
  The reference's l9Push: one more unit through a net, or a cut.
-/
namespace Go.Proofs.YtojfbcgfeojdfaaGreat
set_option linter.unusedSimpArgs false
set_option linter.unusedVariables false
open Go.RowKit

/-- what a push leaves -/
def PushP (B : Nat) (w0 : World) (G : List Ent) (E : TypeId) (b c N s t : Nat) (bs : Nat → Nat) (cap M : Nat → Nat → Int) (v : Int) (e : Ending) (w' : World) : Prop :=
  (e = .returned (.bool false) ∧ (∃ S : Nat → Bool, S s = true ∧ S t = false ∧ ∀ x y, x < N → y < N → S x = true → S y = false → ¬ 0 < M x y) ∧ Mem B w0 w' (matE E (some ⟨b, 0, none⟩) N c N bs M :: G)) ∨
  (∃ M', e = .returned (.bool true) ∧ Flow N s t cap M' (v + 1) ∧ Mem B w0 w' (matE E (some ⟨b, 0, none⟩) N c N bs M' :: G))
theorem Mem.unpk1 {B : Nat} {w0 w : World} {G : List Ent} {e : Ent} (h : Mem B w0 w [e, packE G]) : Mem B w0 w (e :: G) := by
  have h1 := Mem.unpackAt [e] (Y := []) h
  simpa using h1
theorem Mem.pk1 {B : Nat} {w0 w : World} {G : List Ent} {e : Ent} (h : Mem B w0 w (e :: G)) : Mem B w0 w [e, packE G] := by
  refine Mem.packAt [e] (Y := []) ?_
  simpa using h
def stM (M : Nat → Nat → Int) (i j : Nat) (v : Int) (x y : Nat) : Int := if x = i ∧ y = j then v else M x y
theorem pushed_st {M : Nat → Nat → Int} {p c : Nat} (hne : p ≠ c) {z u : Int} (hz : M p c = z) (hu : M c p = u) (x y : Nat) : pushed M p c x y = if x = c ∧ y = p then u + 1 else stM M p c (z - 1) x y := by
  unfold pushed stM
  by_cases e1 : x = c ∧ y = p
  · obtain ⟨rfl, rfl⟩ := e1
    rw [if_neg (fun h => hne h.1.symm), if_pos ⟨rfl, rfl⟩, if_pos ⟨rfl, rfl⟩, hu]
    omega
  · rw [if_neg e1, if_neg e1]
    by_cases e2 : x = p ∧ y = c
    · obtain ⟨rfl, rfl⟩ := e2
      rw [if_pos ⟨rfl, rfl⟩, if_pos ⟨rfl, rfl⟩, hz]
      omega
    · rw [if_neg e2, if_neg e2]
      omega
theorem replicate_snoc {k : Nat} {x : Int} : List.replicate k x ++ [x] = List.replicate (k + 1) x := by rw [List.replicate_succ']
set_option maxRecDepth 100000 in
set_option maxHeartbeats 8000000 in
theorem l9Push_any {B : Nat} {w0 : World} {G : List Ent} (b c N s t : Nat) (bs : Nat → Nat) (cap M : Nat → Nat → Int) (v : Int) (w : World) (hN : s + 2 ≤ N ∧ N ≤ s + 2) (ht : s + 1 ≤ t ∧ t ≤ s + 1) (hN52 : N ≤ 100) (hf : Flow N s t cap M v) (hc1 : ∀ a b, cap a b ≤ 1) (hM : Mem B w0 w (matE 24 (some ⟨b, 0, none⟩) N c N bs M :: G)) :
    Calls Tryz.prog 159 #[.slice (some ⟨b, 0, none⟩) N c] w (PushP B w0 G 24 b c N s t bs cap M v) := by
  replace hM := hM.pk1
  have HF := Lib.hid hf
  have HC1 := Lib.hid hc1
  have HML := Lib.hid (fun x y (hx : x < N) (hy : y < N) => flow_left_le hf hc1 hx hy)
  clear hf hc1
  have hws : IntKind.i64.wrap ((N : Int) - 2) = (s : Int) := by rw [wrap_in (by omega)]; omega
  have hwt : IntKind.i64.wrap ((N : Int) - 1) = (t : Int) := by rw [wrap_in (by omega)]; omega
  have hcap := (hM.mat .here).cap
  go_enter Tryz.func159, Tryz.ntmps159
  go_wp2_with fail
  apply Mem.atWpA
  · exact memA
  clear hM
  intro wst hM
  (try simp only [World.size_alloc, World.size_setCell, World.heap_drewN, heapDrew, Nat.add_assoc, Nat.reduceAdd, sA, List.cons_append, List.nil_append] at hM)
  replace hM := hM.toInts (xs := []) .here rfl (by simp) (by simp)
  go_loopw [4, 5] (fun s4 s5 wr => ∃ (k : Nat) (a' : Option Addr) (c' : Nat), k ≤ N ∧ s5 = .int .i64 k ∧ s4 = .slice a' k c' ∧ Mem B w0 wr [intE a' k c' (List.replicate k (-1)), matE 24 (some ⟨b, 0, none⟩) N c N bs M, packE G]) (fun _ s5 _ => N - (intOf s5).toNat)
  case atStart => exact ⟨0, _, _, Nat.zero_le _, rfl, rfl, hM⟩
  case round =>
    clear hM
    obtain ⟨k, a', c', hk, rfl, rfl, hM⟩ := hrel
    by_cases hlt : k < N
    · go_wp2_with (at_builtin; apply Mem.atL; (focus ((exact memA); done)); clear hM; intro hM; refine wpList_pushI hM (fun _ => .here) (by unfold I64; omega) (by omega) rfl _ _ _ Tryz.underlying24 rfl rfl rfl ?_)
      intro a6 c6 w6 hM
      rw [replicate_snoc] at hM
      go_wp2
      go_roundw
      case rel => exact ⟨k + 1, a6, c6, by omega, by go_num, rfl, hM⟩
      case measure => simp [intOf]; omega
    obtain rfl : k = N := by omega
    clear hlt hk
    have hsN : s < k := by omega
    obtain ⟨g, rfl, -⟩ := (hM.ints .here).head (by omega)
    have hi0 : (0 : Int) ≤ (s : Int) := by omega
    have hi1 : (s : Int) < (k : Int) := by omega
    have hfr := (hM.ints .here).freeAt s
    have hlg := (hM.ints .here).till _ ⟨_, rfl, rfl⟩
    have hce := (hM.ints .here).cellAt hsN
    have hcf := (hM.ints .here).ints.cap
    go_wp2_with fail
    clear hfr hlg hce hi0 hi1
    apply Mem.atWpA
    · exact memA
    clear hM
    intro wst hM
    (try simp only [World.size_alloc, World.size_setCell, World.heap_drewN, heapDrew, Nat.add_assoc, Nat.reduceAdd, sA, List.cons_append, List.nil_append] at hM)
    replace hM := (hM.toInts (xs := [(s : Int)]) .here rfl (by intro x hx; obtain rfl := List.mem_singleton.1 hx; unfold I64; omega) (by simp)).toQu .here
    have hbs : BS k s M ((List.replicate k (-1)).set s s) ([] ++ [s]) (fun x _ => x ∈ ([] : List Nat)) := (BS.start (left := M) hsN).to (fun x y h => (by cases h))
    have HBS := Lib.hid hbs; clear hbs
    have hln : (natsI [s]).length = 1 := rfl
    obtain ⟨cq, aq, hq0⟩ : ∃ (cq : Nat) (aq : Option Addr), Mem B w0 wst [quE aq 1 cq (natsI [s]), intE (some ⟨g, 0, none⟩) k c' ((List.replicate k (-1)).set s s), matE 24 (some ⟨b, 0, none⟩) k c k bs M, packE G] := ⟨_, _, hM⟩
    go_loopg [6] 1000 (fun gh s6 wr => ∃ (fr : List Int) (dn q : List Nat) (a6 : Option Addr) (c6 : Nat), k - dn.length ≤ gh ∧ gh ≤ 1000 ∧ Hid (BS k s M fr (dn ++ q) (fun x _ => x ∈ dn)) ∧ s6 = .slice a6 q.length c6 ∧ Mem B w0 wr [quE a6 q.length c6 (natsI q), intE (some ⟨g, 0, none⟩) k c' fr, matE 24 (some ⟨b, 0, none⟩) k c k bs M, packE G])
    case atStart => exact ⟨_, [], [s], _, _, by simp; omega, by omega, HBS, rfl, hM⟩
    case round =>
      clear hM hq0 HBS
      obtain ⟨fr, dn, q, a6, c6, hgh, hg1, HBS, rfl, hM⟩ := hrel
      have hll := HBS.out.len_le
      rw [List.length_append] at hll
      cases q with
      | nil =>
        have hbe := HBS.out
        rw [List.append_nil] at hbe
        have HBE := Lib.hid hbe
        clear hbe HBS hll
        have htn : t < k := by omega
        have hce := (hM.ints (.there .here)).cellAt htn
        have hlg := (hM.ints (.there .here)).till _ ⟨_, rfl, rfl⟩
        obtain ⟨u, hu⟩ : ∃ u, fr.getD t 0 = u := ⟨_, rfl⟩
        rw [hu] at hce
        have HU := Lib.hid hu; clear hu
        have t0 : (0 : Int) ≤ (t : Int) := by omega
        have t1 : (t : Int) < (k : Int) := by omega
        by_cases hu0 : u < 0
        · go_wp2
          go_ret
          refine .inl ⟨rfl, ⟨fun a => decide (a ∈ dn), ?_, ?_, ?_⟩, ?_⟩
          · exact decide_eq_true HBE.out.smem
          · exact decide_eq_false (fun h => by have := (HBE.out.yes t htn).2 h; rw [HU.out] at this; omega)
          · exact HBE.out.cut (fun _ => rfl)
          · exact hM.tail.tail.unpk1
        · have htd : t ∈ dn := (HBE.out.yes t htn).1 (by rw [HU.out]; omega)
          obtain ⟨rk, hrk, hway⟩ := HBE.out.way
          have hdl := HBE.out.len_le
          have hrt := hrk t htd
          have HWAY := Lib.hid (hway (rk t))
          clear hrk hway
          go_wp2_with fail
          clear hce hlg
          go_loopg [9] 1000 (fun gh s9 wr => ∃ (d : Nat) (M' : Nat → Nat → Int), rk d ≤ gh ∧ gh ≤ 1000 ∧ d ∈ dn ∧ s9 = .int .i64 d ∧ Hid (FlowM k s t d cap M' v) ∧ Hid (Way s M' fr dn rk (rk d)) ∧ Mem B w0 wr [quE a6 0 c6 (natsI []), intE (some ⟨g, 0, none⟩) k c' fr, matE 24 (some ⟨b, 0, none⟩) k c k bs M', packE G])
          case atStart => exact ⟨t, M, by omega, by omega, htd, rfl, Lib.hid HF.out.mid, HWAY, hM⟩
          case round =>
            clear hM HWAY hrt hdl htd hu0 HU
            obtain ⟨d, M', hgk2, hgk3, hd, rfl, HFM, HW, hM⟩ := hrel
            have hdn := HBE.out.lt d hd
            by_cases hds : d = s
            · subst hds
              go_wp2
              go_ret
              exact .inr ⟨M', rfl, HFM.out.done, hM.tail.tail.unpk1⟩
            · obtain ⟨p, hp1, hp2, hp3, hp4, hp5⟩ := HW.out d hd hds (Nat.le_refl _)
              have hpn := HBE.out.lt p hp2
              obtain ⟨z, hz⟩ : ∃ z, M' p d = z := ⟨_, rfl⟩
              obtain ⟨u2, hu2⟩ : ∃ u2, M' d p = u2 := ⟨_, rfl⟩
              have hzb := flowM_left_le HFM.out HC1.out hpn hdn
              have hub := flowM_left_le HFM.out HC1.out hdn hpn
              have hst : stM M' p d (z - 1) d p = u2 := by unfold stM; rw [if_neg (fun h => hp3 h.1.symm), hu2]
              rw [hz] at hzb hp5
              rw [hu2] at hub
              have HZ := Lib.hid hz; have HU2 := Lib.hid hu2; have HST := Lib.hid hst
              have HP1 := Lib.hid hp1
              have HSTEP := Lib.hid (HFM.out.step hdn hpn hp3 (by rw [hz]; omega))
              have HWS := Lib.hid (HW.out.step hp4)
              clear hz hu2 hst hp1
              have hw1 : IntKind.i64.wrap (z - 1) = z - 1 := wrap_in (by omega)
              have hw2 : IntKind.i64.wrap (u2 + 1) = u2 + 1 := wrap_in (by omega)
              have hdne : ((d : Int) != (s : Int)) = true := by simp; omega
              have d0 : (0 : Int) ≤ (d : Int) := by omega
              have d1 : (d : Int) < (k : Int) := by omega
              have p0 : (0 : Int) ≤ (p : Int) := by omega
              have p1 : (p : Int) < (k : Int) := by omega
              have hce := (hM.ints (.there .here)).cellAt hdn
              have hlg := (hM.ints (.there .here)).till _ ⟨_, rfl, rfl⟩
              rw [HP1.out] at hce
              go_upto_region 24 with fail
              apply Mem.atWpA
              · exact memA
              clear hM
              intro wst hM
              (try simp only [World.size_alloc, World.size_setCell, World.heap_drewN, heapDrew, Nat.add_assoc, Nat.reduceAdd, sA, List.cons_append, List.nil_append] at hM)
              clear hce hlg
              refine AtF.startA hM hM 14 (by kernel_rfl) ?_
              clear hM
              intro wd hM
              have hS := hM
              refine AtF.tp 0 ?_ 87 [] ?_ hS ?_
              rotate_left
              · (intro wS hSw; (try dsimp only at hSw); go_simp; (try rw [if_neg (by omega)]); try with_reducible rfl)
              simp only [Act.put, sA]
              refine AtF.tp 1 ?_ 88 [] ?_ hS ?_
              rotate_left
              · (intro wS hSw; (try dsimp only at hSw); go_simp; (try rw [if_neg (by omega)]); try with_reducible rfl)
              simp only [Act.put, sA]
              refine AtF.tp 2 ?_ 89 [] ?_ hS ?_
              rotate_left
              · (intro wS hSw; (try dsimp only at hSw); have hsl := (hSw.mat (.there (.there .here))).sl hpn; have hat := (hSw.mat (.there (.there .here))).at hpn hdn; have hml := (hSw.mat (.there (.there .here))).lt hpn; have hmb := (hSw.mat (.there (.there .here))).ltb; rw [HZ.out] at hat; go_simp; (try rw [if_neg (by omega)]); try with_reducible rfl)
              simp only [Act.put, sA]
              refine AtF.tp 3 ?_ 90 [] ?_ hS ?_
              rotate_left
              · (intro wS hSw; (try dsimp only at hSw); have hsl := (hSw.mat (.there (.there .here))).sl hpn; have hat := (hSw.mat (.there (.there .here))).at hpn hdn; have hml := (hSw.mat (.there (.there .here))).lt hpn; have hmb := (hSw.mat (.there (.there .here))).ltb; rw [HZ.out] at hat; go_simp; (try rw [if_neg (by omega)]); try with_reducible rfl)
              simp only [Act.put, sA]
              refine AtF.tp 4 ?_ 91 [] ?_ hS ?_
              rotate_left
              · (intro wS hSw; (try dsimp only at hSw); go_simp; (try rw [if_neg (by omega)]); try with_reducible rfl)
              simp only [Act.put, sA]
              refine AtF.tp 5 ?_ 92 [] ?_ hS ?_
              rotate_left
              · (intro wS hSw; (try dsimp only at hSw); go_simp; (try rw [if_neg (by omega)]); try with_reducible rfl)
              simp only [Act.put, sA]
              refine AtF.tp 6 ?_ 93 [] ?_ hS ?_
              rotate_left
              · (intro wS hSw; (try dsimp only at hSw); go_simp; (try rw [if_neg (by omega)]); try with_reducible rfl)
              simp only [Act.put, sA]
              refine AtF.tp 7 ?_ 94 [] ?_ hS ?_
              rotate_left
              · (intro wS hSw; (try dsimp only at hSw); have hsl := (hSw.mat (.there (.there .here))).sl hpn; have hat := (hSw.mat (.there (.there .here))).at hpn hdn; have hml := (hSw.mat (.there (.there .here))).lt hpn; have hmb := (hSw.mat (.there (.there .here))).ltb; rw [HZ.out] at hat; go_simp; (try rw [if_neg (by omega)]); try with_reducible rfl)
              simp only [Act.put, sA]
              refine AtF.tp 8 ?_ 95 [] ?_ hS ?_
              rotate_left
              · (intro wS hSw; (try dsimp only at hSw); have hsl := (hSw.mat (.there (.there .here))).sl hpn; have hat := (hSw.mat (.there (.there .here))).at hpn hdn; have hml := (hSw.mat (.there (.there .here))).lt hpn; have hmb := (hSw.mat (.there (.there .here))).ltb; rw [HZ.out] at hat; go_simp; (try rw [if_neg (by omega)]); try with_reducible rfl)
              simp only [Act.put, sA]
              refine AtF.tp 9 ?_ 96 [] ?_ hS ?_
              rotate_left
              · (intro wS hSw; (try dsimp only at hSw); go_simp; (try rw [if_neg (by omega)]); try with_reducible rfl)
              simp only [Act.put, sA]
              refine AtF.tp 10 ?_ 97 [] ?_ hS ?_
              rotate_left
              · (intro wS hSw; (try dsimp only at hSw); have hsl := (hSw.mat (.there (.there .here))).sl hpn; have hat := (hSw.mat (.there (.there .here))).at hpn hdn; have hml := (hSw.mat (.there (.there .here))).lt hpn; have hmb := (hSw.mat (.there (.there .here))).ltb; rw [HZ.out] at hat; go_simp; (try rw [if_neg (by omega)]); try with_reducible rfl)
              simp only [Act.put, sA]
              refine AtF.tp 11 ?_ 98 [] ?_ hS ?_
              rotate_left
              · (intro wS hSw; (try dsimp only at hSw); have hsl := (hSw.mat (.there (.there .here))).sl hpn; have hat := (hSw.mat (.there (.there .here))).at hpn hdn; have hml := (hSw.mat (.there (.there .here))).lt hpn; have hmb := (hSw.mat (.there (.there .here))).ltb; rw [HZ.out] at hat; go_simp; (try rw [if_neg (by omega)]); try with_reducible rfl)
              simp only [Act.put, sA]
              refine AtF.tp 12 ?_ 99 [] ?_ hS ?_
              rotate_left
              · (intro wS hSw; (try dsimp only at hSw); go_simp; (try rw [if_neg (by omega)]); try with_reducible rfl)
              simp only [Act.put, sA]
              refine AtF.tp 13 ?_ 100 [] ?_ hS ?_
              rotate_left
              · (intro wS hSw; (try dsimp only at hSw); have hsl := (hSw.mat (.there (.there .here))).sl hpn; have hat := (hSw.mat (.there (.there .here))).at hpn hdn; have hml := (hSw.mat (.there (.there .here))).lt hpn; have hmb := (hSw.mat (.there (.there .here))).ltb; rw [HZ.out] at hat; go_simp; (try rw [if_neg (by omega)]); try with_reducible rfl)
              simp only [Act.put, sA]
              refine AtF.last (by kernel_rfl) rfl (by kernel_rfl) ?_
              intro K hK
              clear hS
              have hfe := (hM.mat (.there (.there .here))).free hpn d
              have hml := (hM.mat (.there (.there .here))).lt hpn
              have hat := (hM.mat (.there (.there .here))).at hpn hdn
              rw [HZ.out] at hat
              go_simp
              refine hK.out _ _ ?_
              clear hK K
              apply Mem.atEx (hM.matSet (M' := stM M' p d (z - 1)) (.there (.there .here)) hpn (by unfold I64; omega) (fun _ _ => rfl))
              clear hM hfe hml hat
              intro wst hM
              go_upto_region 25 with fail
              apply Mem.atWpA
              · exact memA
              clear hM
              intro wst hM
              (try simp only [World.size_alloc, World.size_setCell, World.heap_drewN, heapDrew, Nat.add_assoc, Nat.reduceAdd, sA, List.cons_append, List.nil_append] at hM)
              refine AtF.startA hM hM 14 (by kernel_rfl) ?_
              clear hM
              intro wd hM
              have hS := hM
              refine AtF.tp 0 ?_ 101 [] ?_ hS ?_
              rotate_left
              · (intro wS hSw; (try dsimp only at hSw); go_simp; (try rw [if_neg (by omega)]); try with_reducible rfl)
              simp only [Act.put, sA]
              refine AtF.tp 1 ?_ 102 [] ?_ hS ?_
              rotate_left
              · (intro wS hSw; (try dsimp only at hSw); go_simp; (try rw [if_neg (by omega)]); try with_reducible rfl)
              simp only [Act.put, sA]
              refine AtF.tp 2 ?_ 103 [] ?_ hS ?_
              rotate_left
              · (intro wS hSw; (try dsimp only at hSw); have hsl := (hSw.mat (.there (.there .here))).sl hdn; have hat := (hSw.mat (.there (.there .here))).at hdn hpn; have hml := (hSw.mat (.there (.there .here))).lt hdn; have hmb := (hSw.mat (.there (.there .here))).ltb; rw [HST.out] at hat; go_simp; (try rw [if_neg (by omega)]); try with_reducible rfl)
              simp only [Act.put, sA]
              refine AtF.tp 3 ?_ 104 [] ?_ hS ?_
              rotate_left
              · (intro wS hSw; (try dsimp only at hSw); have hsl := (hSw.mat (.there (.there .here))).sl hdn; have hat := (hSw.mat (.there (.there .here))).at hdn hpn; have hml := (hSw.mat (.there (.there .here))).lt hdn; have hmb := (hSw.mat (.there (.there .here))).ltb; rw [HST.out] at hat; go_simp; (try rw [if_neg (by omega)]); try with_reducible rfl)
              simp only [Act.put, sA]
              refine AtF.tp 4 ?_ 105 [] ?_ hS ?_
              rotate_left
              · (intro wS hSw; (try dsimp only at hSw); go_simp; (try rw [if_neg (by omega)]); try with_reducible rfl)
              simp only [Act.put, sA]
              refine AtF.tp 5 ?_ 106 [] ?_ hS ?_
              rotate_left
              · (intro wS hSw; (try dsimp only at hSw); go_simp; (try rw [if_neg (by omega)]); try with_reducible rfl)
              simp only [Act.put, sA]
              refine AtF.tp 6 ?_ 107 [] ?_ hS ?_
              rotate_left
              · (intro wS hSw; (try dsimp only at hSw); go_simp; (try rw [if_neg (by omega)]); try with_reducible rfl)
              simp only [Act.put, sA]
              refine AtF.tp 7 ?_ 108 [] ?_ hS ?_
              rotate_left
              · (intro wS hSw; (try dsimp only at hSw); have hsl := (hSw.mat (.there (.there .here))).sl hdn; have hat := (hSw.mat (.there (.there .here))).at hdn hpn; have hml := (hSw.mat (.there (.there .here))).lt hdn; have hmb := (hSw.mat (.there (.there .here))).ltb; rw [HST.out] at hat; go_simp; (try rw [if_neg (by omega)]); try with_reducible rfl)
              simp only [Act.put, sA]
              refine AtF.tp 8 ?_ 109 [] ?_ hS ?_
              rotate_left
              · (intro wS hSw; (try dsimp only at hSw); have hsl := (hSw.mat (.there (.there .here))).sl hdn; have hat := (hSw.mat (.there (.there .here))).at hdn hpn; have hml := (hSw.mat (.there (.there .here))).lt hdn; have hmb := (hSw.mat (.there (.there .here))).ltb; rw [HST.out] at hat; go_simp; (try rw [if_neg (by omega)]); try with_reducible rfl)
              simp only [Act.put, sA]
              refine AtF.tp 9 ?_ 110 [] ?_ hS ?_
              rotate_left
              · (intro wS hSw; (try dsimp only at hSw); go_simp; (try rw [if_neg (by omega)]); try with_reducible rfl)
              simp only [Act.put, sA]
              refine AtF.tp 10 ?_ 111 [] ?_ hS ?_
              rotate_left
              · (intro wS hSw; (try dsimp only at hSw); have hsl := (hSw.mat (.there (.there .here))).sl hdn; have hat := (hSw.mat (.there (.there .here))).at hdn hpn; have hml := (hSw.mat (.there (.there .here))).lt hdn; have hmb := (hSw.mat (.there (.there .here))).ltb; rw [HST.out] at hat; go_simp; (try rw [if_neg (by omega)]); try with_reducible rfl)
              simp only [Act.put, sA]
              refine AtF.tp 11 ?_ 112 [] ?_ hS ?_
              rotate_left
              · (intro wS hSw; (try dsimp only at hSw); have hsl := (hSw.mat (.there (.there .here))).sl hdn; have hat := (hSw.mat (.there (.there .here))).at hdn hpn; have hml := (hSw.mat (.there (.there .here))).lt hdn; have hmb := (hSw.mat (.there (.there .here))).ltb; rw [HST.out] at hat; go_simp; (try rw [if_neg (by omega)]); try with_reducible rfl)
              simp only [Act.put, sA]
              refine AtF.tp 12 ?_ 113 [] ?_ hS ?_
              rotate_left
              · (intro wS hSw; (try dsimp only at hSw); go_simp; (try rw [if_neg (by omega)]); try with_reducible rfl)
              simp only [Act.put, sA]
              refine AtF.tp 13 ?_ 114 [] ?_ hS ?_
              rotate_left
              · (intro wS hSw; (try dsimp only at hSw); have hsl := (hSw.mat (.there (.there .here))).sl hdn; have hat := (hSw.mat (.there (.there .here))).at hdn hpn; have hml := (hSw.mat (.there (.there .here))).lt hdn; have hmb := (hSw.mat (.there (.there .here))).ltb; rw [HST.out] at hat; go_simp; (try rw [if_neg (by omega)]); try with_reducible rfl)
              simp only [Act.put, sA]
              refine AtF.last (by kernel_rfl) rfl (by kernel_rfl) ?_
              intro K hK
              clear hS
              have hfe := (hM.mat (.there (.there .here))).free hdn p
              have hml := (hM.mat (.there (.there .here))).lt hdn
              have hat := (hM.mat (.there (.there .here))).at hdn hpn
              rw [HST.out] at hat
              go_simp
              refine hK.out _ _ ?_
              clear hK K
              apply Mem.atEx (hM.matSet (M' := pushed M' p d) (.there (.there .here)) hdn (by unfold I64; omega) (fun x y => pushed_st hp3 HZ.out HU2.out x y))
              clear hM hfe hml hat
              intro wst hM
              have hce := (hM.ints (.there .here)).cellAt hdn
              have hlg := (hM.ints (.there .here)).till _ ⟨_, rfl, rfl⟩
              rw [HP1.out] at hce
              go_wp2
              go_roundg (gk - 1)
              case measure => omega
              case rel => exact ⟨p, pushed M' p d, by omega, by omega, hp2, rfl, HSTEP, HWS, hM⟩
      | cons x r =>
        simp only [List.length_cons] at hM hll ⊢
        have hcq := (hM.qu .here).cap
        have hcm := (hM.qu .here).capm
        unfold maxLen at hcm
        obtain ⟨g8, off, rfl, -, -⟩ := (hM.qu .here).ints.at' 0 (by omega)
        have hc0 := (hM.qu .here).ints.get (k := 0) (by omega)
        rw [show (natsI (x :: r)).getD 0 0 = (x : Int) from rfl, Nat.add_zero] at hc0
        have hxn : x < k := HBS.out.lt x (by simp)
        go_upto_region 11 with fail
        go_cut [6] (fun s6 wx => ∃ (a8 : Option Addr) (c8 : Nat), s6 = .slice a8 r.length c8 ∧ Mem B w0 wx [quE a8 r.length c8 (natsI r), intE (some ⟨g, 0, none⟩) k c' fr, matE 24 (some ⟨b, 0, none⟩) k c k bs M, packE G])
        case first =>
          by_cases hc1 : c6 = 1
          · subst hc1
            obtain rfl : r = [] := List.eq_nil_of_length_eq_zero (by omega)
            go_wp2_with fail
            go_meet
            exact ⟨_, _, rfl, hM.popQu1 .here⟩
          · obtain ⟨cr, rfl⟩ : ∃ cr, c6 = cr + 1 := ⟨c6 - 1, by omega⟩
            have hcr : ¬ cr = 0 := by omega
            go_wp2_with fail
            go_meet
            exact ⟨_, _, rfl, hM.popQu .here⟩
        case rest =>
          clear hM hc0 hcq hcm
          obtain ⟨a8, c8, rfl, hM⟩ := hcut
          have hxh : x ∈ dn ++ x :: r := by simp
          have HB0 : Hid (BS k s M fr (dn ++ x :: r) (fun y j => y ∈ dn ∨ (y = x ∧ j < 0))) := Lib.hid (HBS.out.to (fun y j hy hj hl => by
            rcases hy with hy | hy
            · exact HBS.out.closed y j hy hj hl
            · omega))
          clear HBS
          go_wp2_with fail
          go_loopw [6, 8] (fun s6 s8 wr => ∃ (j : Nat) (fr : List Int) (q : List Nat) (a9 : Option Addr) (c9 : Nat), j ≤ k ∧ s8 = .int .i64 j ∧ s6 = .slice a9 q.length c9 ∧ Hid (BS k s M fr (dn ++ x :: q) (fun y i => y ∈ dn ∨ (y = x ∧ i < j))) ∧ Mem B w0 wr [quE a9 q.length c9 (natsI q), intE (some ⟨g, 0, none⟩) k c' fr, matE 24 (some ⟨b, 0, none⟩) k c k bs M, packE G]) (fun _ s8 _ => k - (intOf s8).toNat)
          case atStart => exact ⟨0, fr, r, a8, c8, Nat.zero_le _, rfl, rfl, HB0, hM⟩
          case round =>
            clear hM HB0 hxh
            obtain ⟨j, fr, q, a9, c9, hj, rfl, rfl, HB, hM⟩ := hrel
            by_cases hlt : j < k
            · have hqb := HB.out.len_le
              rw [List.length_append, List.length_cons] at hqb
              have hsl := (hM.mat (.there (.there .here))).sl hxn
              have hat := (hM.mat (.there (.there .here))).at hxn hlt
              have hml := (hM.mat (.there (.there .here))).lt hxn
              have hmb := (hM.mat (.there (.there .here))).ltb
              have hce := (hM.ints (.there .here)).cellAt hlt
              have hlg := (hM.ints (.there .here)).till _ ⟨_, rfl, rfl⟩
              obtain ⟨z, hz⟩ : ∃ z, M x j = z := ⟨_, rfl⟩
              obtain ⟨u, hu⟩ : ∃ u, fr.getD j 0 = u := ⟨_, rfl⟩
              rw [hz] at hat
              rw [hu] at hce
              have HZ := Lib.hid hz; have HU := Lib.hid hu
              clear hz hu
              have x0 : (0 : Int) ≤ (x : Int) := by omega
              have x1 : (x : Int) < (k : Int) := by omega
              have j0 : (0 : Int) ≤ (j : Int) := by omega
              have j1 : (j : Int) < (k : Int) := by omega
              by_cases hz0 : 0 < z
              · by_cases hu0 : u < 0
                · have hfr := (hM.ints (.there .here)).freeAt j
                  go_upto_region 17 with fail
                  apply Mem.atWpA
                  · exact memA
                  clear hM
                  intro wst hM
                  (try simp only [World.size_alloc, World.size_setCell, World.heap_drewN, heapDrew, Nat.add_assoc, Nat.reduceAdd, sA, List.cons_append, List.nil_append] at hM)
                  clear hfr hce hlg hat hsl hml hmb
                  go_wp2_with (at_builtin; apply Mem.atL; (focus ((exact memA); done)); clear hM; intro hM; refine wpList_pushQ hM (fun _ => .here) (by unfold I64; omega) (by omega) rfl _ _ _ Tryz.underlying24 rfl rfl rfl ?_)
                  intro a10 c10 w6 hM
                  have HA := Lib.hid (HB.out.add hlt (by rw [HU.out]; exact hu0) (a := x) (by simp) (by rw [HZ.out]; exact hz0))
                  go_wp2
                  go_roundw
                  case rel =>
                    refine ⟨j + 1, fr.set j x, q ++ [j], a10, c10, by omega, by go_num, by simp, ?_, ?_⟩
                    · have h1 := HA.out
                      rw [List.append_assoc, List.cons_append] at h1
                      refine Lib.hid (h1.to (fun y i hy hi hl => ?_))
                      rcases hy with hy | ⟨rfl, hy⟩
                      · exact h1.closed y i (.inl hy) hi hl
                      · by_cases e : i = j
                        · subst e; simp
                        · exact h1.closed y i (.inr ⟨rfl, by omega⟩) hi hl
                    · rw [natsI_append, List.length_append]
                      exact hM
                  case measure => simp [intOf]; omega
                · go_wp2
                  go_roundw
                  case rel =>
                    refine ⟨j + 1, fr, q, a9, c9, by omega, by go_num, rfl, Lib.hid (HB.out.to (fun y i hy hi hl => ?_)), hM⟩
                    rcases hy with hy | ⟨rfl, hy⟩
                    · exact HB.out.closed y i (.inl hy) hi hl
                    · by_cases e : i = j
                      · subst e; exact (HB.out.yes i hlt).1 (by rw [HU.out]; omega)
                      · exact HB.out.closed y i (.inr ⟨rfl, by omega⟩) hi hl
                  case measure => simp [intOf]; omega
              · go_wp2
                go_roundw
                case rel =>
                  refine ⟨j + 1, fr, q, a9, c9, by omega, by go_num, rfl, Lib.hid (HB.out.to (fun y i hy hi hl => ?_)), hM⟩
                  rcases hy with hy | ⟨rfl, hy⟩
                  · exact HB.out.closed y i (.inl hy) hi hl
                  · by_cases e : i = j
                    · subst e; rw [HZ.out] at hl; exact absurd hl hz0
                    · exact HB.out.closed y i (.inr ⟨rfl, by omega⟩) hi hl
                case measure => simp [intOf]; omega
            · obtain rfl : j = k := by omega
              go_wp2
              go_roundg (gk - 1)
              case measure => omega
              case rel =>
                refine ⟨fr, dn ++ [x], q, a9, c9, by rw [List.length_append, List.length_singleton]; omega, by omega, ?_, rfl, hM⟩
                have h1 := HB.out
                rw [show dn ++ x :: q = (dn ++ [x]) ++ q by simp] at h1
                refine Lib.hid (h1.to (fun y i hy hi hl => ?_))
                rcases List.mem_append.1 hy with hy | hy
                · exact h1.closed y i (.inl hy) hi hl
                · exact h1.closed y i (.inr ⟨List.mem_singleton.1 hy, hi⟩) hi hl
end Go.Proofs.YtojfbcgfeojdfaaGreat
