/-
  The laws' sz, to, eq over slices of scenarios.
-/
import Derived.Test.YtojfbcgfeojdfaaGreatCLsScenario
import Derived.Test.YtojfbcgfeojdfaaGreatCRegF
/-
  The laws' sz, to, eq over slices of scenarios.
-/
namespace Go.Proofs.YtojfbcgfeojdfaaGreat
set_option linter.unusedSimpArgs false
set_option linter.unusedVariables false
open Go.RowKit

section
variable {α : Type} {F : Fl α} {E : TypeId} {inner : α → Ent} {B : Nat} {w0 w : World} {G : List Ent} {a : Option Addr} {n c : Nat} {xs : List α}
theorem Mem.nestRep {z : α} {m : Nat} (h : Mem B w0 w (owE F E a n c (List.replicate m z) :: G)) (h1 : ∀ B w, (inner z).hold B w) (h2 : ∀ k, ¬ (inner z).blk k) : Mem B w0 w (nestE F E inner a n c (List.replicate m z) :: G) := by
  refine Mem.nestClose ?_
  obtain ⟨p1, p2⟩ := List.pairwise_cons.1 h.apart
  have hz : ∀ e ∈ (List.replicate m z).map inner, e = inner z := by
    intro e he
    obtain ⟨x, hx, rfl⟩ := List.mem_map.1 he
    rw [(List.mem_replicate.1 hx).2]
  refine ⟨h.below, h.size, ?_, List.pairwise_cons.2 ⟨?_, List.pairwise_append.2 ⟨?_, p2, ?_⟩⟩⟩
  · intro e he
    rcases List.mem_cons.1 he with rfl | he
    · exact h.ents _ (by simp)
    · rcases List.mem_append.1 he with he | he
      · rw [hz e he]; exact h1 _ _
      · exact h.ents e (by simp [he])
  · intro e he k hk hk'
    rcases List.mem_append.1 he with he | he
    · rw [hz e he] at hk'; exact h2 k hk'
    · exact p1 e he k hk hk'
  · rw [List.pairwise_iff_getElem]
    intro i j hi hj _ k hk
    rw [hz _ (List.getElem_mem hi)] at hk
    exact absurd hk (h2 k)
  · intro e he e' _ k hk
    rw [hz e he] at hk
    exact absurd hk (h2 k)
end
theorem dec_refl (l : List PhaseI) : decide (l = l) = true := decide_eq_true rfl
theorem scenIn_z1 : ∀ (B : Nat) (w : World), (scenIn ScenarioI.zero).hold B w := fun B w => ow_nil _ _ _ _
theorem scenIn_z2 : ∀ k, ¬ (scenIn ScenarioI.zero).blk k := fun k hk => by
  have : blockOf none k := hk
  simp [blockOf] at this

theorem szScenario_any (x : ScenarioI) (l : Int) (w : World) (hx : x.n ≤ 17592186044416) (hl : -1 ≤ l ∧ l ≤ 1048576) :
    Calls Tryz.prog 61 #[x.val, .int .i64 l] w fun e w' => ∃ z : Int, (-1 ≤ z ∧ z ≤ max l (-1)) ∧ e = .returned (.int .i64 z) ∧ Below w.heap.size w w' := by
  have hM := Mem.start w
  obtain ⟨ad, n, c, ph, wt⟩ := x
  dsimp only at hx
  obtain ⟨z, hz⟩ : ∃ z, szF n l = z := ⟨_, rfl⟩
  have hzb : -1 ≤ z ∧ z ≤ max l (-1) := by rw [← hz]; unfold szF; split <;> omega
  have HZ := Lib.hid hz; clear hz
  go_enter Tryz.func61, Tryz.ntmps61
  go_wp2_with fail
  apply Mem.atA
  · (repeat' (first | with_reducible exact hM | with_reducible exact hMp | with_reducible apply Mem.drew | with_reducible apply Mem.drewN | with_reducible apply Mem.alloc | with_reducible apply Mem.set | with_reducible exact Sto.row | ((with_reducible refine Sto.rowEq2 ?_ ?_); omega; rfl) | ((with_reducible refine Sto.rowEq ?_); omega) | with_reducible apply Sto.int | with_reducible apply Sto.there | with_reducible assumption | (unfold I64; omega) | (with_reducible (have hMx := Mem.undrew hM; exact hMx)) | (with_reducible (have hMx := Mem.undrew hMp; exact hMx))))
  clear hM
  intro wst hM
  (try simp only [World.size_alloc, World.size_setCell, World.heap_drewN, heapDrew, Nat.add_assoc, Nat.reduceAdd, List.setIfInBounds_toArray, List.set_cons_zero, List.set_cons_succ, List.cons_append, List.nil_append] at hM)
  (first | refine (szPhaseS_any ad n c l _ hx hl).mono ?_)
  rw [HZ.out]
  rintro e wc1 ⟨rfl, rfl⟩
  by_cases h0 : z < 0
  · go_wp2
    go_ret
    exact ⟨-1, by omega, rfl, (by apply Mem.below; (repeat' (first | with_reducible exact hM | with_reducible exact hMp | with_reducible apply Mem.drew | with_reducible apply Mem.drewN | with_reducible apply Mem.alloc | with_reducible apply Mem.set | with_reducible exact Sto.row | ((with_reducible refine Sto.rowEq2 ?_ ?_); omega; rfl) | ((with_reducible refine Sto.rowEq ?_); omega) | with_reducible apply Sto.int | with_reducible apply Sto.there | with_reducible assumption | (unfold I64; omega) | (with_reducible (have hMx := Mem.undrew hM; exact hMx)) | (with_reducible (have hMx := Mem.undrew hMp; exact hMx)))))⟩
  · go_wp2
    go_ret
    exact ⟨z, hzb, rfl, (by apply Mem.below; (repeat' (first | with_reducible exact hM | with_reducible exact hMp | with_reducible apply Mem.drew | with_reducible apply Mem.drewN | with_reducible apply Mem.alloc | with_reducible apply Mem.set | with_reducible exact Sto.row | ((with_reducible refine Sto.rowEq2 ?_ ?_); omega; rfl) | ((with_reducible refine Sto.rowEq ?_); omega) | with_reducible apply Sto.int | with_reducible apply Sto.there | with_reducible assumption | (unfold I64; omega) | (with_reducible (have hMx := Mem.undrew hM; exact hMx)) | (with_reducible (have hMx := Mem.undrew hMp; exact hMx)))))⟩
set_option maxRecDepth 100000 in
set_option maxHeartbeats 4000000 in
theorem szScenarioS_any (a : Option Addr) (n c : Nat) (sc : List ScenarioI) (l : Int) (w : World) (h : RdS w a n c sc) (hl : 0 ≤ l ∧ l ≤ 1048576) :
    Calls Tryz.prog 20 #[.slice a n c, .int .i64 l] w fun e w' => ∃ z : Int, (-1 ≤ z ∧ z ≤ l) ∧ (0 ≤ z → (n : Int) ≤ 1048576) ∧ e = .returned (.int .i64 z) ∧ Below w.heap.size w w' := by
  have hM := Mem.start w
  have hrm := h.rd.nroom
  have HL := Lib.hid h.rd.len
  by_cases h0 : l - n < 0
  · skip
    go_enter Tryz.func20, Tryz.ntmps20
    go_wp2
    go_ret
    exact ⟨-1, by omega, fun h => by omega, rfl, (by apply Mem.below; (repeat' (first | with_reducible exact hM | with_reducible exact hMp | with_reducible apply Mem.drew | with_reducible apply Mem.drewN | with_reducible apply Mem.alloc | with_reducible apply Mem.set | with_reducible exact Sto.row | ((with_reducible refine Sto.rowEq2 ?_ ?_); omega; rfl) | ((with_reducible refine Sto.rowEq ?_); omega) | with_reducible apply Sto.int | with_reducible apply Sto.there | with_reducible assumption | (unfold I64; omega) | (with_reducible (have hMx := Mem.undrew hM; exact hMx)) | (with_reducible (have hMx := Mem.undrew hMp; exact hMx)))))⟩
  have hwr : IntKind.i64.wrap (l - (n : Int)) = l - n := wrap_in (by omega)
  go_enter Tryz.func20, Tryz.ntmps20
  go_wp2_with fail
  go_loopw [1, 5] (fun s1 s5 wr => ∃ (k : Nat) (z : Int), k ≤ n ∧ s5 = .int .i64 k ∧ s1 = .int .i64 z ∧ (0 ≤ z ∧ z ≤ l) ∧ Mem w.heap.size w wr []) (fun _ s5 _ => n - (intOf s5).toNat)
  case atStart => exact ⟨0, l - n, Nat.zero_le _, rfl, by rw [← hwr], by omega, hM⟩
  case round =>
    clear hM
    obtain ⟨k, z, hk, rfl, rfl, hz, hM⟩ := hrel
    by_cases hlt : k < n
    · obtain ⟨bl, offl, rfl, -, -⟩ := h.rd.at' _ hlt
      obtain ⟨-, hc0, hc1⟩ := (h.rd.ext hM.below).cellScenario hlt
      have hmm : sc.getD k ScenarioI.zero ∈ sc := by
        rw [List.getD_eq_getElem?_getD, List.getElem?_eq_getElem (by rw [HL.out]; exact hlt)]
        exact List.getElem_mem _
      have hph := (h.ph _ hmm).nroom
      obtain ⟨v, hv⟩ : ∃ v, sc.getD k ScenarioI.zero = v := ⟨_, rfl⟩
      rw [hv] at hc0 hc1 hph
      clear hv hmm
      have i0 : (0 : Int) ≤ (k : Int) := by omega
      have i1 : (k : Int) < (n : Int) := by omega
      go_wp2_with fail
      apply Mem.atA
      · (repeat' (first | with_reducible exact hM | with_reducible exact hMp | with_reducible apply Mem.drew | with_reducible apply Mem.drewN | with_reducible apply Mem.alloc | with_reducible apply Mem.set | with_reducible exact Sto.row | ((with_reducible refine Sto.rowEq2 ?_ ?_); omega; rfl) | ((with_reducible refine Sto.rowEq ?_); omega) | with_reducible apply Sto.int | with_reducible apply Sto.there | with_reducible assumption | (unfold I64; omega) | (with_reducible (have hMx := Mem.undrew hM; exact hMx)) | (with_reducible (have hMx := Mem.undrew hMp; exact hMx))))
      clear hM
      intro wst hM
      (try simp only [World.size_alloc, World.size_setCell, World.heap_drewN, heapDrew, Nat.add_assoc, Nat.reduceAdd, List.setIfInBounds_toArray, List.set_cons_zero, List.set_cons_succ, List.cons_append, List.nil_append] at hM)
      refine (szScenario_any v z _ hph (by omega)).mono ?_
      rintro e w1 ⟨z2, hz2, rfl, hb⟩
      replace hM := hM.ext hb
      clear hb
      by_cases h2 : z2 < 0
      · go_wp2
        go_ret
        exact ⟨-1, by omega, fun h => by omega, rfl, (by apply Mem.below; (repeat' (first | with_reducible exact hM | with_reducible exact hMp | with_reducible apply Mem.drew | with_reducible apply Mem.drewN | with_reducible apply Mem.alloc | with_reducible apply Mem.set | with_reducible exact Sto.row | ((with_reducible refine Sto.rowEq2 ?_ ?_); omega; rfl) | ((with_reducible refine Sto.rowEq ?_); omega) | with_reducible apply Sto.int | with_reducible apply Sto.there | with_reducible assumption | (unfold I64; omega) | (with_reducible (have hMx := Mem.undrew hM; exact hMx)) | (with_reducible (have hMx := Mem.undrew hMp; exact hMx)))))⟩
      · go_wp2
        go_roundw
        case rel => exact ⟨k + 1, z2, by omega, by go_num, rfl, by omega, hM⟩
        case measure => simp [intOf]; omega
    · obtain rfl : k = n := by omega
      go_wp2
      go_ret
      exact ⟨z, by omega, fun _ => by omega, rfl, (by apply Mem.below; (repeat' (first | with_reducible exact hM | with_reducible exact hMp | with_reducible apply Mem.drew | with_reducible apply Mem.drewN | with_reducible apply Mem.alloc | with_reducible apply Mem.set | with_reducible exact Sto.row | ((with_reducible refine Sto.rowEq2 ?_ ?_); omega; rfl) | ((with_reducible refine Sto.rowEq ?_); omega) | with_reducible apply Sto.int | with_reducible apply Sto.there | with_reducible assumption | (unfold I64; omega) | (with_reducible (have hMx := Mem.undrew hM; exact hMx)) | (with_reducible (have hMx := Mem.undrew hMp; exact hMx)))))⟩

set_option maxRecDepth 100000 in
set_option maxHeartbeats 4000000 in
theorem toScenario_any (x : ScenarioI) (w : World) (h : Rd FPhase w x.ad x.n x.c x.ph) :
    Calls Tryz.prog 62 #[x.val] w fun e w' => ∃ a' c', e = .returned (.agg #[.slice a' x.n c', .int .i64 x.wt]) ∧ Mem w.heap.size w w' [owE FPhase 128 a' x.n c' x.ph] := by
  have hM := Mem.start w
  obtain ⟨ad, n, c, ph, wt⟩ := x
  dsimp only at h ⊢
  go_enter Tryz.func62, Tryz.ntmps62
  go_wp2_with fail
  apply Mem.atA
  · (repeat' (first | with_reducible exact hM | with_reducible exact hMp | with_reducible apply Mem.drew | with_reducible apply Mem.drewN | with_reducible apply Mem.alloc | with_reducible apply Mem.set | with_reducible exact Sto.row | ((with_reducible refine Sto.rowEq2 ?_ ?_); omega; rfl) | ((with_reducible refine Sto.rowEq ?_); omega) | with_reducible apply Sto.int | with_reducible apply Sto.there | with_reducible assumption | (unfold I64; omega) | (with_reducible (have hMx := Mem.undrew hM; exact hMx)) | (with_reducible (have hMx := Mem.undrew hMp; exact hMx))))
  clear hM
  intro wst hM
  (try simp only [World.size_alloc, World.size_setCell, World.heap_drewN, heapDrew, Nat.add_assoc, Nat.reduceAdd, List.setIfInBounds_toArray, List.set_cons_zero, List.set_cons_succ, List.cons_append, List.nil_append] at hM)
  (first | refine (toPhaseS_any ad n c ph _ (h.ext hM.below)).mono ?_)
  rintro e wc2 ⟨a', c', rfl, hO, hb⟩
  replace hM := hM.owned hb hO
  clear hb hO
  obtain ⟨k1, f1, l1⟩ := hM.row (.there .here)
  obtain ⟨k2, f2, l2⟩ := hM.row (.there (.there .here))
  obtain ⟨k3, f3, l3⟩ := hM.row (.there (.there (.there .here)))
  go_upto_region 4 with fail
  clear k1 f1 l1 k2 f2 l2 k3 f3 l3
  apply Mem.atWpA
  · (repeat' (first | with_reducible exact hM | with_reducible exact hMp | with_reducible apply Mem.drew | with_reducible apply Mem.drewN | with_reducible apply Mem.alloc | with_reducible apply Mem.set | with_reducible exact Sto.row | ((with_reducible refine Sto.rowEq2 ?_ ?_); omega; rfl) | ((with_reducible refine Sto.rowEq ?_); omega) | with_reducible apply Sto.int | with_reducible apply Sto.there | with_reducible assumption | (unfold I64; omega) | (with_reducible (have hMx := Mem.undrew hM; exact hMx)) | (with_reducible (have hMx := Mem.undrew hMp; exact hMx))))
  clear hM
  intro wst hM
  (try simp only [World.size_alloc, World.size_setCell, World.heap_drewN, heapDrew, Nat.add_assoc, Nat.reduceAdd, List.setIfInBounds_toArray, List.set_cons_zero, List.set_cons_succ, List.cons_append, List.nil_append] at hM)
  replace hM := hM.pick (is := [0, 1, 2]) (by decide) rfl
  dsimp only [List.filterMap_cons, List.filterMap_nil, List.getElem?_cons_zero, List.getElem?_cons_succ] at hM
  obtain ⟨k1, f1, l1⟩ := hM.row (.there .here)
  obtain ⟨k2, f2, l2⟩ := hM.row (.there (.there .here))
  go_wp2
  refine bodyPost_ret (v := .agg #[.slice a' n c', .int .i64 wt]) (by simp [results, Tryz.results62, go_sem, k1, k2]) rfl ⟨a', c', rfl, ?_⟩
  apply Mem.pick (is := [0])
  · (repeat' (first | with_reducible exact hM | with_reducible exact hMp | with_reducible apply Mem.drew | with_reducible apply Mem.drewN | with_reducible apply Mem.alloc | with_reducible apply Mem.set | with_reducible exact Sto.row | ((with_reducible refine Sto.rowEq2 ?_ ?_); omega; rfl) | ((with_reducible refine Sto.rowEq ?_); omega) | with_reducible apply Sto.int | with_reducible apply Sto.there | with_reducible assumption | (unfold I64; omega) | (with_reducible (have hMx := Mem.undrew hM; exact hMx)) | (with_reducible (have hMx := Mem.undrew hMp; exact hMx))))
  · decide
  · rfl
theorem Tryz.info49 : (Tryz.prog.info? 49).map (fun i => (i.zero, i.size, i.bytes)) = some (some (.agg #[.slice none 0 0, .int .i64 0]), 2, 32) := by kernel_rfl
set_option maxRecDepth 100000 in
set_option maxHeartbeats 4000000 in
theorem toScenarioS_any (a : Option Addr) (n c : Nat) (sc : List ScenarioI) (w : World) (h : RdS w a n c sc) (hn6 : n ≤ 1048576) :
    Calls Tryz.prog 23 #[.slice a n c] w fun e w' => ∃ a' c' ys, ys.map ScenarioI.core = sc.map ScenarioI.core ∧ e = .returned (.slice a' n c') ∧ Mem w.heap.size w w' [scenE a' n c' ys] := by
  have hn := h.rd.cap
  have hc := h.rd.nroom
  have hr : n * 2 ≤ 17592186044416 := h.rd.room
  have HL := Lib.hid h.rd.len
  have HW := Lib.hid h.rd.wf
  obtain ⟨i0, hi, hz0, hz1, hz2⟩ := info_parts Tryz.info49
  go_enter Tryz.func23, Tryz.ntmps23
  go_wp2_with (at_make; refine wpList_make_full _ rfl _ _ 43 rfl w.heap.size 49 i0 (.agg #[.slice none 0 0, .int .i64 0]) 2 Tryz.underlying43 hi hz0 hz1 .i64 .i64 n n n rfl rfl rfl rfl ?b1 ?b2 ?b3 ?_)
  case b1 => rw [hz2]; omega
  case b2 => unfold maxLen; omega
  case b3 => exact Nat.le_refl _
  intro w1 hown hg
  have hO : Ow FScenario 49 w.heap.size w1 (some ⟨w.heap.size, 0, none⟩) n n (List.replicate n ScenarioI.zero) := ow_made (zs := #[.slice none 0 0, .int .i64 0]) rfl hown hr (by show I64 0; unfold I64; omega)
  have hb1 : Below w.heap.size w w1 := (Below.refl _ _).grown hg (Nat.le_refl _) (by intro k hk; cases hk)
  have hM0 : Mem w.heap.size w w1 [scenE (some ⟨w.heap.size, 0, none⟩) n n (List.replicate n ScenarioI.zero)] := Mem.nestRep ((Mem.start w).owned hb1 hO) scenIn_z1 scenIn_z2
  clear hown hg hO hb1
  go_wp2
  go_loopw [4] (fun i wr => ∃ (k : Nat) (ys : List ScenarioI), k ≤ n ∧ i = .int .i64 k ∧ Hid (ys.length = n) ∧ Hid (∀ i, i < k → (ys.getD i ScenarioI.zero).core = (sc.getD i ScenarioI.zero).core) ∧ Mem w.heap.size w wr [scenE (some ⟨w.heap.size, 0, none⟩) n n ys]) (fun i _ => n - (intOf i).toNat)
  case atStart => exact ⟨0, _, Nat.zero_le _, rfl, Lib.hid (by simp), Lib.hid (fun i hi => by omega), hM0⟩
  case round =>
    obtain ⟨k, ys, hk, rfl, HYL, HYC, hM⟩ := hrel
    by_cases hlt : k < n
    · obtain ⟨b, off, rfl, _⟩ := (h.rd.ext hM.below).at' _ hlt
      obtain ⟨hb, hc0, hc1⟩ := (h.rd.ext hM.below).cellScenario hlt
      obtain ⟨hd0, hd1⟩ := (hM.nestOw .here).cellScenario hlt
      have hfz := (hM.nestOw .here).free
      have hmem := List.mem_of_getElem? (show sc[k]? = some (sc.getD k ScenarioI.zero) by rw [List.getD_eq_getElem?_getD, List.getElem?_eq_getElem (by rw [HL.out]; exact hlt)]; rfl)
      have HM := Lib.hid (HW.out _ hmem)
      have hph := (h.ext hM.below).ph _ hmem
      clear hmem
      obtain ⟨x, hx⟩ : ∃ x, sc.getD k ScenarioI.zero = x := ⟨_, rfl⟩
      rw [hx] at hc0 hc1 HM hph
      obtain ⟨y, hy⟩ : ∃ y, ys.getD k ScenarioI.zero = y := ⟨_, rfl⟩
      rw [hy] at hd0 hd1
      clear hy
      have HX := Lib.hid hx; clear hx
      obtain ⟨y0, y1, y2, y3, y4⟩ := y
      dsimp only at hc0 hc1 hd0 hd1
      have hwr : w.heap.size < wr.heap.size := ((hM.nestOw .here).till _ ⟨_, rfl, rfl⟩)
      go_wp2_with fail
      refine (toScenario_any x _ hph).mono ?_
      rintro e w2 ⟨a', c', rfl, hm⟩
      replace hM := hM.join hm
      clear hc0 hc1 hd0 hd1 hfz hm hwr
      dsimp only [List.cons_append, List.nil_append] at hM
      obtain ⟨y, hy⟩ : ∃ y, ys.getD k ScenarioI.zero = y := ⟨_, rfl⟩
      obtain ⟨hd0, hd1⟩ := (hM.nestOw (.there .here)).cellScenario hlt
      have hfz := (hM.nestOw (.there .here)).free
      rw [hy] at hd0 hd1
      clear hy
      obtain ⟨y0, y1, y2, y3, y4⟩ := y
      dsimp only at hd0 hd1
      go_wp2
      go_roundw
      case rel =>
        refine ⟨k + 1, ys.set k ⟨a', x.n, c', x.ph, x.wt⟩, by omega, by go_num, Lib.hid (by rw [List.length_set]; exact HYL.out), Lib.hid ?_, ?_⟩
        · intro i hi
          by_cases e : i = k
          · subst e
            rw [HX.out, List.getD_eq_getElem?_getD, List.getElem?_set_self (by rw [HYL.out]; exact hlt)]
            rfl
          · rw [List.getD_eq_getElem?_getD, List.getElem?_set_ne (by omega), ← List.getD_eq_getElem?_getD]
            exact HYC.out i (by omega)
        · exact Mem.nestPut (y := (⟨a', x.n, c', x.ph, x.wt⟩ : ScenarioI)) hM hlt HM.out rfl
      case measure => simp [intOf]; omega
    · go_wp2
      go_ret
      obtain rfl : k = n := by omega
      refine ⟨_, _, ys, ?_, rfl, hM⟩
      refine List.ext_getElem (by rw [List.length_map, List.length_map, HYL.out, HL.out]) (fun i h1 h2 => ?_)
      rw [List.length_map] at h1 h2
      have := HYC.out i (by rw [← HYL.out]; exact h1)
      simpa [List.getD, h1, h2] using this
set_option maxRecDepth 100000 in
set_option maxHeartbeats 4000000 in
theorem eqScenario_same (x y : ScenarioI) (w : World) (h1 : Rd FPhase w x.ad x.n x.c x.ph) (h2 : Rd FPhase w y.ad y.n y.c y.ph) (hc : x.core = y.core) :
    Calls Tryz.prog 64 #[x.val, y.val] w fun e w' => e = .returned (.bool true) ∧ Below w.heap.size w w' := by
  have hM := Mem.start w
  obtain ⟨x0, x1, x2, x3, x4⟩ := x
  obtain ⟨y0, y1, y2, y3, y4⟩ := y
  simp only [ScenarioI.core, Prod.mk.injEq] at hc
  obtain ⟨rfl, rfl⟩ := hc
  dsimp only at h1 h2
  have hne : (x4 != x4) = false := by simp
  go_enter Tryz.func64, Tryz.ntmps64
  go_wp2_with fail
  apply Mem.atA
  · (repeat' (first | with_reducible exact hM | with_reducible exact hMp | with_reducible apply Mem.drew | with_reducible apply Mem.drewN | with_reducible apply Mem.alloc | with_reducible apply Mem.set | with_reducible exact Sto.row | ((with_reducible refine Sto.rowEq2 ?_ ?_); omega; rfl) | ((with_reducible refine Sto.rowEq ?_); omega) | with_reducible apply Sto.int | with_reducible apply Sto.there | with_reducible assumption | (unfold I64; omega) | (with_reducible (have hMx := Mem.undrew hM; exact hMx)) | (with_reducible (have hMx := Mem.undrew hMp; exact hMx))))
  clear hM
  intro wst hM
  (try simp only [World.size_alloc, World.size_setCell, World.heap_drewN, heapDrew, Nat.add_assoc, Nat.reduceAdd, List.setIfInBounds_toArray, List.set_cons_zero, List.set_cons_succ, List.cons_append, List.nil_append] at hM)
  (first | refine (eqPhaseS_any x0 x1 x2 x3 y0 y1 y2 x3 _ (h1.ext hM.below) (h2.ext hM.below)).mono ?_)
  rw [dec_refl]
  rintro e wc3 ⟨rfl, hb⟩
  replace hM := hM.ext hb
  clear hb
  obtain ⟨k0, f0, l0⟩ := hM.row .here
  obtain ⟨k1, f1, l1⟩ := hM.row (.there .here)
  go_wp2
  go_ret
  exact ⟨rfl, (by apply Mem.below; (repeat' (first | with_reducible exact hM | with_reducible exact hMp | with_reducible apply Mem.drew | with_reducible apply Mem.drewN | with_reducible apply Mem.alloc | with_reducible apply Mem.set | with_reducible exact Sto.row | ((with_reducible refine Sto.rowEq2 ?_ ?_); omega; rfl) | ((with_reducible refine Sto.rowEq ?_); omega) | with_reducible apply Sto.int | with_reducible apply Sto.there | with_reducible assumption | (unfold I64; omega) | (with_reducible (have hMx := Mem.undrew hM; exact hMx)) | (with_reducible (have hMx := Mem.undrew hMp; exact hMx)))))⟩
set_option maxRecDepth 100000 in
set_option maxHeartbeats 4000000 in
theorem eqScenarioS_same (a : Option Addr) (n c : Nat) (xs : List ScenarioI) (a2 : Option Addr) (n2 c2 : Nat) (ys : List ScenarioI) (w : World) (h : RdS w a n c xs) (h2 : RdS w a2 n2 c2 ys) (hc : xs.map ScenarioI.core = ys.map ScenarioI.core) :
    Calls Tryz.prog 27 #[.slice a n c, .slice a2 n2 c2] w fun e w' => e = .returned (.bool true) ∧ Below w.heap.size w w' := by
  have hM := Mem.start w
  obtain ⟨e1, e2⟩ := core_eq hc
  rw [h.rd.len, h2.rd.len] at e1
  subst e1
  rw [h.rd.len] at e2
  have HE := Lib.hid e2
  have HL := Lib.hid h.rd.len; have HL2 := Lib.hid h2.rd.len
  have hrm := h.rd.nroom
  clear hc e2
  have hne : ((n : Int) != (n : Int)) = false := by simp
  go_enter Tryz.func27, Tryz.ntmps27
  go_wp2_with fail
  go_loopw [5] (fun i wr => ∃ k : Nat, k ≤ n ∧ i = .int .i64 k ∧ Mem w.heap.size w wr []) (fun i _ => n - (intOf i).toNat)
  case atStart => exact ⟨0, Nat.zero_le _, rfl, hM⟩
  case round =>
    clear hM
    obtain ⟨k, hk, rfl, hM⟩ := hrel
    by_cases hlt : k < n
    · obtain ⟨b, off, rfl, -, -⟩ := h.rd.at' _ hlt
      obtain ⟨b2, off2, rfl, -, -⟩ := h2.rd.at' _ hlt
      have hx := h.ph (xs.getD k ScenarioI.zero) (by
        rw [List.getD_eq_getElem?_getD, List.getElem?_eq_getElem (by rw [HL.out]; exact hlt)]
        exact List.getElem_mem _)
      have hy := h2.ph (ys.getD k ScenarioI.zero) (by
        rw [List.getD_eq_getElem?_getD, List.getElem?_eq_getElem (by rw [HL2.out]; exact hlt)]
        exact List.getElem_mem _)
      have he := HE.out k hlt
      obtain ⟨x, hxx⟩ : ∃ x, xs.getD k ScenarioI.zero = x := ⟨_, rfl⟩
      obtain ⟨y, hyy⟩ : ∃ y, ys.getD k ScenarioI.zero = y := ⟨_, rfl⟩
      rw [hxx] at hx he
      rw [hyy] at hy he
      have HX := Lib.hid hxx; have HY := Lib.hid hyy; have HEE := Lib.hid he
      clear hxx hyy he
      have i0 : (0 : Int) ≤ (k : Int) := by omega
      have i1 : (k : Int) < (n : Int) := by omega
      go_wp2_with fail
      apply Mem.atWpA
      · (repeat' (first | with_reducible exact hM | with_reducible exact hMp | with_reducible apply Mem.drew | with_reducible apply Mem.drewN | with_reducible apply Mem.alloc | with_reducible apply Mem.set | with_reducible exact Sto.row | ((with_reducible refine Sto.rowEq2 ?_ ?_); omega; rfl) | ((with_reducible refine Sto.rowEq ?_); omega) | with_reducible apply Sto.int | with_reducible apply Sto.there | with_reducible assumption | (unfold I64; omega) | (with_reducible (have hMx := Mem.undrew hM; exact hMx)) | (with_reducible (have hMx := Mem.undrew hMp; exact hMx))))
      clear hM
      intro wst hM
      (try simp only [World.size_alloc, World.size_setCell, World.heap_drewN, heapDrew, Nat.add_assoc, Nat.reduceAdd, List.setIfInBounds_toArray, List.set_cons_zero, List.set_cons_succ, List.cons_append, List.nil_append] at hM)
      refine AtF.startA hM hM 9 (by kernel_rfl) ?_
      clear hM
      intro wd hM
      have hS := hM
      refine AtF.taked (i := 0) (v := ?_) (some 17) rfl rfl (by kernel_rfl) (by kernel_rfl) (by kernel_rfl) (anc_path [8, 3, 2] _ _ (by kernel_rfl) (by kernel_rfl)) (fun _ _ _ h => h) (Or.inl ⟨by kernel_rfl, ?_⟩) hS rfl ?_
      rotate_left
      · (intro wS hSw; (try dsimp only at hSw); go_simp; (try rw [if_neg (by omega)]); try with_reducible rfl)
      simp only [Act.put, List.setIfInBounds_toArray, List.set_cons_zero, List.set_cons_succ]
      refine AtF.taked (i := 1) (v := ?_) (some 18) rfl rfl (by kernel_rfl) (by kernel_rfl) (by kernel_rfl) (anc_path [8, 3, 2] _ _ (by kernel_rfl) (by kernel_rfl)) (fun _ _ _ h => h) (Or.inl ⟨by kernel_rfl, ?_⟩) hS rfl ?_
      rotate_left
      · (intro wS hSw; (try dsimp only at hSw); go_simp; (try rw [if_neg (by omega)]); try with_reducible rfl)
      simp only [Act.put, List.setIfInBounds_toArray, List.set_cons_zero, List.set_cons_succ]
      refine AtF.taked (i := 2) (v := ?_) (some 19) rfl rfl (by kernel_rfl) (by kernel_rfl) (by kernel_rfl) (anc_path [8, 3] _ _ (by kernel_rfl) (by kernel_rfl)) (fun _ _ _ h => h) (Or.inl ⟨by kernel_rfl, ?_⟩) hS rfl ?_
      rotate_left
      · (intro wS hSw; (try dsimp only at hSw); have hd0 := ((h.rd.ext hSw.below).cellScenario hlt).2.1; have hd1 := ((h.rd.ext hSw.below).cellScenario hlt).2.2; have hd2 := ((h2.rd.ext hSw.below).cellScenario hlt).2.1; have hd3 := ((h2.rd.ext hSw.below).cellScenario hlt).2.2; rw [HX.out] at hd0 hd1; rw [HY.out] at hd2 hd3; go_simp; (try rw [if_neg (by omega)]); try with_reducible rfl)
      simp only [Act.put, List.setIfInBounds_toArray, List.set_cons_zero, List.set_cons_succ]
      refine AtF.taked (i := 3) (v := ?_) (some 20) rfl rfl (by kernel_rfl) (by kernel_rfl) (by kernel_rfl) (anc_path [8] _ _ (by kernel_rfl) (by kernel_rfl)) (fun _ _ _ h => h) (Or.inl ⟨by kernel_rfl, ?_⟩) hS rfl ?_
      rotate_left
      · (intro wS hSw; (try dsimp only at hSw); have hd0 := ((h.rd.ext hSw.below).cellScenario hlt).2.1; have hd1 := ((h.rd.ext hSw.below).cellScenario hlt).2.2; have hd2 := ((h2.rd.ext hSw.below).cellScenario hlt).2.1; have hd3 := ((h2.rd.ext hSw.below).cellScenario hlt).2.2; rw [HX.out] at hd0 hd1; rw [HY.out] at hd2 hd3; go_simp; (try rw [if_neg (by omega)]); try with_reducible rfl)
      simp only [Act.put, List.setIfInBounds_toArray, List.set_cons_zero, List.set_cons_succ]
      refine AtF.taked (i := 4) (v := ?_) (some 21) rfl rfl (by kernel_rfl) (by kernel_rfl) (by kernel_rfl) (anc_path [8, 7, 6] _ _ (by kernel_rfl) (by kernel_rfl)) (fun _ _ _ h => h) (Or.inl ⟨by kernel_rfl, ?_⟩) hS rfl ?_
      rotate_left
      · (intro wS hSw; (try dsimp only at hSw); go_simp; (try rw [if_neg (by omega)]); try with_reducible rfl)
      simp only [Act.put, List.setIfInBounds_toArray, List.set_cons_zero, List.set_cons_succ]
      refine AtF.taked (i := 5) (v := ?_) (some 22) rfl rfl (by kernel_rfl) (by kernel_rfl) (by kernel_rfl) (anc_path [8, 7, 6] _ _ (by kernel_rfl) (by kernel_rfl)) (fun _ _ _ h => h) (Or.inl ⟨by kernel_rfl, ?_⟩) hS rfl ?_
      rotate_left
      · (intro wS hSw; (try dsimp only at hSw); go_simp; (try rw [if_neg (by omega)]); try with_reducible rfl)
      simp only [Act.put, List.setIfInBounds_toArray, List.set_cons_zero, List.set_cons_succ]
      refine AtF.taked (i := 6) (v := ?_) (some 23) rfl rfl (by kernel_rfl) (by kernel_rfl) (by kernel_rfl) (anc_path [8, 7] _ _ (by kernel_rfl) (by kernel_rfl)) (fun _ _ _ h => h) (Or.inl ⟨by kernel_rfl, ?_⟩) hS rfl ?_
      rotate_left
      · (intro wS hSw; (try dsimp only at hSw); have hd0 := ((h.rd.ext hSw.below).cellScenario hlt).2.1; have hd1 := ((h.rd.ext hSw.below).cellScenario hlt).2.2; have hd2 := ((h2.rd.ext hSw.below).cellScenario hlt).2.1; have hd3 := ((h2.rd.ext hSw.below).cellScenario hlt).2.2; rw [HX.out] at hd0 hd1; rw [HY.out] at hd2 hd3; go_simp; (try rw [if_neg (by omega)]); try with_reducible rfl)
      simp only [Act.put, List.setIfInBounds_toArray, List.set_cons_zero, List.set_cons_succ]
      refine AtF.taked (i := 7) (v := ?_) (some 24) rfl rfl (by kernel_rfl) (by kernel_rfl) (by kernel_rfl) (anc_path [8] _ _ (by kernel_rfl) (by kernel_rfl)) (fun _ _ _ h => h) (Or.inl ⟨by kernel_rfl, ?_⟩) hS rfl ?_
      rotate_left
      · (intro wS hSw; (try dsimp only at hSw); have hd0 := ((h.rd.ext hSw.below).cellScenario hlt).2.1; have hd1 := ((h.rd.ext hSw.below).cellScenario hlt).2.2; have hd2 := ((h2.rd.ext hSw.below).cellScenario hlt).2.1; have hd3 := ((h2.rd.ext hSw.below).cellScenario hlt).2.2; rw [HX.out] at hd0 hd1; rw [HY.out] at hd2 hd3; go_simp; (try rw [if_neg (by omega)]); try with_reducible rfl)
      simp only [Act.put, List.setIfInBounds_toArray, List.set_cons_zero, List.set_cons_succ]
      refine AtF.only (i := 8) (by kernel_rfl) rfl rfl ?_
      intro K hK
      go_simp
      refine (eqScenario_same x y _ (hx.ext hM.below) (hy.ext hM.below) HEE.out).mono ?_
      rintro e w3 ⟨rfl, hb9⟩
      replace hM := hM.ext hb9
      clear hb9
      try dsimp only
      refine hK.out _ _ (hM) ?_
      clear hK K hS
      have hS := hM
      refine AtF.last (by kernel_rfl) rfl (by kernel_rfl) ?_
      intro K hK
      clear hS
      go_simp
      refine hK.out _ _ ?_
      clear hK K
      go_wp2
      go_roundw
      case rel => exact ⟨k + 1, by omega, by go_num, by (repeat' (first | with_reducible exact hM | with_reducible exact hMp | with_reducible apply Mem.drew | with_reducible apply Mem.drewN | with_reducible apply Mem.alloc | with_reducible apply Mem.set | with_reducible exact Sto.row | ((with_reducible refine Sto.rowEq2 ?_ ?_); omega; rfl) | ((with_reducible refine Sto.rowEq ?_); omega) | with_reducible apply Sto.int | with_reducible apply Sto.there | with_reducible assumption | (unfold I64; omega) | (with_reducible (have hMx := Mem.undrew hM; exact hMx)) | (with_reducible (have hMx := Mem.undrew hMp; exact hMx))))⟩
      case measure => simp [intOf]; omega
    · obtain rfl : k = n := by omega
      go_wp2
      go_ret
      exact ⟨rfl, (by apply Mem.below; (repeat' (first | with_reducible exact hM | with_reducible exact hMp | with_reducible apply Mem.drew | with_reducible apply Mem.drewN | with_reducible apply Mem.alloc | with_reducible apply Mem.set | with_reducible exact Sto.row | ((with_reducible refine Sto.rowEq2 ?_ ?_); omega; rfl) | ((with_reducible refine Sto.rowEq ?_); omega) | with_reducible apply Sto.int | with_reducible apply Sto.there | with_reducible assumption | (unfold I64; omega) | (with_reducible (have hMx := Mem.undrew hM; exact hMx)) | (with_reducible (have hMx := Mem.undrew hMp; exact hMx)))))⟩
end Go.Proofs.YtojfbcgfeojdfaaGreat
