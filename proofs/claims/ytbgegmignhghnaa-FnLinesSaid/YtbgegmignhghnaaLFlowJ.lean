/-
  The program's network: newNetwork, flow.
-/
import Derived.Test.YtbgegmignhghnaaLFlowI
import Derived.Test.YtbgegmignhghnaaLRise
import Derived.Test.YtbgegmignhghnaaLFlowC
/-
  The program's network: newNetwork, flow.
-/
namespace Go.Proofs.Ytbgegmignhghnaa
set_option linter.unusedSimpArgs false
set_option linter.unusedVariables false
open Go.RowKit

section
variable {B : Nat} {w0 w w' : World} {G : List Ent} {G' : Ent → List Ent} {α : Type} {F : Fl α} {E : TypeId}
/-- out = append(out, x), x a record, as a step of a region that draws its order -/
theorem step_pushRM {ops : Array Oper} {o : Oper} {a : Act} {K : Act → World → Prop} {Q : Exit → Act → World → Prop} {R : Prop} {b : Nat} {cs : Array Value} {va : Option Addr} {na ca : Nat} {xs : List α} (y : α) (hM : Mem B w0 w G) (p : ∀ e', Put G (owE F E va na ca xs) e' (G' e')) (q : In G (rowE b E cs)) (hc : cs.toList = F.enc y) (hx : F.wf y) (hsz : F.sz ≤ 1000) (hroom : (na + 1) * F.sz ≤ 17592186044416)
    (i0 : TypeInfo) (z : Value) (bytes : Nat) (hi : Try.prog.info? E = some i0) (hz0 : i0.zero = some z) (hz1 : i0.size = F.sz) (hz2 : i0.bytes = bytes) (hzs : z.cells.size = F.sz) (hby : (na + 1) * bytes ≤ 140737488355328)
    (hgd : o.guard = none) (s v : Operand) (t : TypeId) (ht : Try.prog.underlying t = some (.slice E)) (ho : o.op = .call { callee := .builtin .append, args := #[s, v], argTypes := #[t, t] }) (hs : a.eval s = .slice va na ca) (hv : a.eval v = .slice (some ⟨b, 0, none⟩) 1 1)
    (h : ∀ a' c' w', Mem B w0 w' (G' (owE F E a' (na + 1) c' (xs ++ [y]))) → K (a.put o.dst (.slice a' (na + 1) c')) w') :
    if Region.wanted o (yielded ops a.tmps) = true then Oper.wp Try.prog o a w K Q else R := by
  have hw : Region.wanted o (yielded ops a.tmps) = true := by simp [Region.wanted, hgd]
  rw [if_pos hw]
  have ho1 : Ow F E B w va na ca xs := hM.ents _ (p (rowE 0 0 #[])).mem
  refine wp_appendR s v t ho E i0 z bytes ht hi hz0 hz1 hz2 hzs B va na ca xs hs ho1 (some ⟨b, 0, none⟩) 1 1 [y] hv (hM.oneRec y q hc hx hsz) hroom hby hM.size ?_
  intro a' c' w' h1 h2 h3
  refine h a' c' w' ?_
  exact hM.put (p _) ((Keeps.grown h2).mono (fun k _ hk => ownBlock_blockOf hk)) (e' := owE F E a' (na + 1) c' (xs ++ [y])) h1 (fun k hk => (h3 k hk).imp id (fun e => by omega))
theorem Mem.nilOw (h : Mem B w0 w G) : Mem B w0 w (owE F E none 0 0 [] :: G) := by
  refine ⟨h.below, h.size, fun e he => ?_, List.pairwise_cons.2 ⟨fun e _ k hk => ?_, h.apart⟩⟩
  · rcases List.mem_cons.1 he with rfl | he
    · exact ⟨rfl, by omega, by simp, World.ownsRow_nil _ _ _ _⟩
    · exact h.ents e he
  · obtain ⟨ad, e1, -⟩ := hk
    cases e1
end
theorem Mem.outJ {B : Nat} {w0 w : World} {G : List Ent} {e e2 e3 : Ent} (h : Mem B w0 w (e :: e2 :: e3 :: G)) : Mem B w0 w (e :: G) := h.sub (by simp)
theorem Mem.outQ {B : Nat} {w0 w : World} {G : List Ent} {e e2 : Ent} (h : Mem B w0 w [e, e2, packE G]) : Mem B w0 w (e :: G) := Mem.unpk1 (h.sub (by simp))
set_option maxRecDepth 100000 in
set_option maxHeartbeats 4000000 in
theorem newNetwork_any (N : Nat) (w : World) (hN : 1 ≤ N ∧ N ≤ 100) :
    Calls Try.prog 63 #[.int .i64 N] w fun e w' => ∃ (b c : Nat) (bs : Nat → Nat), e = .returned (.agg #[.slice (some ⟨b, 0, none⟩) N c]) ∧ Mem w.heap.size w w' [matE 24 (some ⟨b, 0, none⟩) N c N bs (fun _ _ => 0)] := by
  have hM := Mem.start w
  obtain ⟨i0, hi, hz0, hz1, hz2⟩ := info_parts Try.info3
  obtain ⟨j0, hj, hy0, hy1, hy2⟩ := info_parts Try.info24
  go_enter Try.func63, Try.ntmps63
  go_wp2_with fail
  apply Mem.atWpA
  · (repeat' (first | with_reducible exact hM | with_reducible exact hMp | with_reducible apply Mem.drew | with_reducible apply Mem.drewN | with_reducible apply Mem.alloc | with_reducible apply Mem.set | with_reducible exact Sto.row | ((with_reducible refine Sto.rowEq2 ?_ ?_); omega; rfl) | ((with_reducible refine Sto.rowEq ?_); omega) | with_reducible apply Sto.int | with_reducible apply Sto.there | with_reducible assumption | (unfold I64; omega) | (with_reducible (have hMx := Mem.undrew hM; exact hMx)) | (with_reducible (have hMx := Mem.undrew hMp; exact hMx))))
  clear hM
  intro wst hM
  (try simp only [World.size_alloc, World.size_setCell, World.heap_drewN, heapDrew, Nat.add_assoc, Nat.reduceAdd, List.setIfInBounds_toArray, List.set_cons_zero, List.set_cons_succ, List.cons_append, List.nil_append] at hM)
  have hM1 : Mem w.heap.size w wst [owE FSl 24 none 0 0 ([].map fun g => (⟨some ⟨g, 0, none⟩, N, N⟩ : SlI)), packE ([].map fun g => intE (some ⟨g, 0, none⟩) N N (rowM N fun _ => 0)), rowE (w.heap.size + 1) 77 #[.slice none 0 0], rowE w.heap.size 77 #[.slice none 0 0]] := by
    exact Mem.nilOw (Mem.packAt (G := []) (Y := [_, _]) [] hM)
  clear hM
  go_loopw [6] (fun s6 wr => ∃ (k : Nat) (b' : Option Addr) (c' : Nat) (gs : List Nat), k ≤ N ∧ Hid (gs.length = k) ∧ s6 = .int .i64 k ∧ Mem w.heap.size w wr [owE FSl 24 b' k c' (gs.map fun g => (⟨some ⟨g, 0, none⟩, N, N⟩ : SlI)), packE (gs.map fun g => intE (some ⟨g, 0, none⟩) N N (rowM N fun _ => 0)), rowE (w.heap.size + 1) 77 #[.slice b' k c'], rowE w.heap.size 77 #[.slice none 0 0]]) (fun s6 _ => N - (intOf s6).toNat)
  case atStart => exact ⟨0, _, _, [], Nat.zero_le _, Lib.hid rfl, rfl, hM1⟩
  case round =>
    clear hM1
    obtain ⟨k, b', c', gs, hk, HGS, rfl, hM⟩ := hrel
    by_cases hlt : k < N
    · have k1 : (k : Int) < (N : Int) := by omega
      go_upto_region 4 with fail
      apply Mem.atWpA
      · (repeat' (first | with_reducible exact hM | with_reducible exact hMp | with_reducible apply Mem.drew | with_reducible apply Mem.drewN | with_reducible apply Mem.alloc | with_reducible apply Mem.set | with_reducible exact Sto.row | ((with_reducible refine Sto.rowEq2 ?_ ?_); omega; rfl) | ((with_reducible refine Sto.rowEq ?_); omega) | with_reducible apply Sto.int | with_reducible apply Sto.there | with_reducible assumption | (unfold I64; omega) | (with_reducible (have hMx := Mem.undrew hM; exact hMx)) | (with_reducible (have hMx := Mem.undrew hMp; exact hMx))))
      clear hM
      intro wst hM
      (try simp only [World.size_alloc, World.size_setCell, World.heap_drewN, heapDrew, Nat.add_assoc, Nat.reduceAdd, List.setIfInBounds_toArray, List.set_cons_zero, List.set_cons_succ, List.cons_append, List.nil_append] at hM)
      refine AtT.startA hM.tail hM 7 (by kernel_rfl) ?_
      clear hM
      intro wd hM
      have hS := hM.tail
      refine AtT.taked (i := 0) (v := ?_) (some 8) rfl rfl (by kernel_rfl) (by kernel_rfl) (by kernel_rfl) (by kernel_rfl) (fun _ _ _ h => h) (Or.inl ⟨by kernel_rfl, ?_⟩) hS ?_
      rotate_left
      · (intro wS hSw; (try dsimp only at hSw); go_simp; (try rw [if_neg (by omega)]); try with_reducible rfl)
      simp only [Act.put, List.setIfInBounds_toArray, List.set_cons_zero, List.set_cons_succ]
      refine AtT.taked (i := 1) (v := ?_) (some 9) rfl rfl (by kernel_rfl) (by kernel_rfl) (by kernel_rfl) (by kernel_rfl) (fun _ _ _ h => h) (Or.inl ⟨by kernel_rfl, ?_⟩) hS ?_
      rotate_left
      · (intro wS hSw; (try dsimp only at hSw); have kr0 := (Mem.row hSw (.there .here)).cell; go_simp; (try rw [if_neg (by omega)]); try with_reducible rfl)
      simp only [Act.put, List.setIfInBounds_toArray, List.set_cons_zero, List.set_cons_succ]
      refine AtT.taked (i := 2) (v := ?_) (some 10) rfl rfl (by kernel_rfl) (by kernel_rfl) (by kernel_rfl) (by kernel_rfl) (fun _ _ _ h => h) (Or.inl ⟨by kernel_rfl, ?_⟩) hS ?_
      rotate_left
      · (intro wS hSw; (try dsimp only at hSw); go_simp; (try rw [if_neg (by omega)]); try with_reducible rfl)
      simp only [Act.put, List.setIfInBounds_toArray, List.set_cons_zero, List.set_cons_succ]
      refine AtT.only (i := 3) (by kernel_rfl) rfl rfl ?_
      intro K hK
      refine step_makeI hM rfl (.tmp 10) (.tmp 10) 24 rfl i0 Try.underlying24 hi hz0 hz1 hz2 N rfl rfl (by omega) ?_
      clear hM
      intro b6 w6 hM
      rw [← rowM_zero] at hM
      try dsimp only
      refine hK.out _ _ (hM.tail.tail) ?_
      clear hK K hS
      have hS := hM.tail.tail
      refine AtT.only (i := 4) (by kernel_rfl) rfl rfl ?_
      intro K hK
      go_simp
      refine hK.out _ _ (by apply Mem.tail; apply Mem.tail; apply Mem.tail; (repeat' (first | with_reducible exact hM | with_reducible exact hMp | with_reducible apply Mem.drew | with_reducible apply Mem.drewN | with_reducible apply Mem.alloc | with_reducible apply Mem.set | with_reducible exact Sto.row | ((with_reducible refine Sto.rowEq2 ?_ ?_); omega; rfl) | ((with_reducible refine Sto.rowEq ?_); omega) | with_reducible apply Sto.int | with_reducible apply Sto.there | with_reducible assumption | (unfold I64; omega) | (with_reducible (have hMx := Mem.undrew hM; exact hMx)) | (with_reducible (have hMx := Mem.undrew hMp; exact hMx))))) ?_
      clear hK K hS
      have hMp := hM
      apply Mem.atT
      · (repeat' (first | with_reducible exact hM | with_reducible exact hMp | with_reducible apply Mem.drew | with_reducible apply Mem.drewN | with_reducible apply Mem.alloc | with_reducible apply Mem.set | with_reducible exact Sto.row | ((with_reducible refine Sto.rowEq2 ?_ ?_); omega; rfl) | ((with_reducible refine Sto.rowEq ?_); omega) | with_reducible apply Sto.int | with_reducible apply Sto.there | with_reducible assumption | (unfold I64; omega) | (with_reducible (have hMx := Mem.undrew hM; exact hMx)) | (with_reducible (have hMx := Mem.undrew hMp; exact hMx))))
      clear hM
      intro hM
      (try simp only [World.size_alloc, World.size_setCell, World.heap_drewN, heapDrew, Nat.add_assoc, Nat.reduceAdd, List.setIfInBounds_toArray, List.set_cons_zero, List.set_cons_succ, List.cons_append, List.nil_append] at hM)
      have hS := hM.tail.tail.tail
      refine AtT.only (i := 5) (by kernel_rfl) rfl rfl ?_
      intro K hK
      refine step_pushRM (F := FSl) (⟨some ⟨b6, 0, none⟩, N, N⟩ : SlI) hM (fun _ => (.there (.there .here))) .here rfl trivial (by decide) (by show (k + 1) * 1 ≤ _; omega) j0 (.slice none 0 0) 24 hj hy0 hy1 hy2 rfl (by omega) rfl (.tmp 9) (.tmp 12) 75 Try.underlying75 rfl rfl rfl ?_
      clear hM
      intro a7 c7 w7 hM
      try dsimp only
      refine hK.out _ _ (hM.tail.tail.tail) ?_
      clear hK K hS
      have hS := hM.tail.tail.tail
      refine AtT.taked (i := 6) (v := ?_) (some 14) rfl rfl (by kernel_rfl) (by kernel_rfl) (by kernel_rfl) (by kernel_rfl) (fun _ _ _ h => h) (Or.inl ⟨by kernel_rfl, ?_⟩) hS ?_
      rotate_left
      · (intro wS hSw; (try dsimp only at hSw); go_simp; (try rw [if_neg (by omega)]); try with_reducible rfl)
      simp only [Act.put, List.setIfInBounds_toArray, List.set_cons_zero, List.set_cons_succ]
      refine AtT.last (by kernel_rfl) rfl (by kernel_rfl) ?_
      intro K hK
      clear hS
      have kk0 := (hM.row .here).cell
      have ff0 := (hM.row .here).free
      have ll0 := (hM.row .here).lt
      have kk4 := (hM.row (.there (.there (.there (.there .here))))).cell
      have ff4 := (hM.row (.there (.there (.there (.there .here))))).free
      have ll4 := (hM.row (.there (.there (.there (.there .here))))).lt
      go_simp
      clear kk0 ff0 ll0 kk4 ff4 ll4
      refine hK.out _ _ ?_
      clear hK K
      apply Mem.atEx
      · (repeat' (first | with_reducible exact hM | with_reducible exact hMp | with_reducible apply Mem.drew | with_reducible apply Mem.drewN | with_reducible apply Mem.alloc | with_reducible apply Mem.set | with_reducible exact Sto.row | ((with_reducible refine Sto.rowEq2 ?_ ?_); omega; rfl) | ((with_reducible refine Sto.rowEq ?_); omega) | with_reducible apply Sto.int | with_reducible apply Sto.there | with_reducible assumption | (unfold I64; omega) | (with_reducible (have hMx := Mem.undrew hM; exact hMx)) | (with_reducible (have hMx := Mem.undrew hMp; exact hMx))))
      clear hM
      intro wst hM
      (try simp only [World.size_alloc, World.size_setCell, World.heap_drewN, heapDrew, Nat.add_assoc, Nat.reduceAdd, List.setIfInBounds_toArray, List.set_cons_zero, List.set_cons_succ, List.cons_append, List.nil_append] at hM)
      replace hM := hM.tail.swap.packRow
      have hmap : (gs.map fun g => intE (some ⟨g, 0, none⟩) N N (rowM N fun _ => 0)) ++ [intE (some ⟨b6, 0, none⟩) N N (rowM N fun _ => 0)] = (gs ++ [b6]).map fun g => intE (some ⟨g, 0, none⟩) N N (rowM N fun _ => 0) := by rw [List.map_append]; rfl
      have hmap2 : (gs.map fun g => (⟨some ⟨g, 0, none⟩, N, N⟩ : SlI)) ++ [⟨some ⟨b6, 0, none⟩, N, N⟩] = (gs ++ [b6]).map fun g => (⟨some ⟨g, 0, none⟩, N, N⟩ : SlI) := by rw [List.map_append]; rfl
      rw [hmap, hmap2] at hM
      clear hmap hmap2
      go_wp2
      go_roundw
      case rel => exact ⟨k + 1, a7, c7, gs ++ [b6], by omega, Lib.hid (by rw [List.length_append, HGS.out]; rfl), by go_num, hM⟩
      case measure => simp [intOf]; omega
    obtain rfl : N = k := by omega
    clear hlt hk
    have hgl := HGS.out
    rw [← hgl] at hM
    replace hM := Mem.toMat hM
    rw [hgl] at hM
    clear hgl HGS
    obtain ⟨bs, hbs⟩ : ∃ bs : Nat → Nat, (fun i => gs.getD i 0) = bs := ⟨_, rfl⟩
    rw [hbs] at hM
    obtain ⟨b, rfl, -⟩ := (hM.mat .here).head (by omega)
    clear hbs
    obtain ⟨k1, f1, l1⟩ := hM.row (.there .here)
    obtain ⟨k2, f2, l2⟩ := hM.row (.there (.there .here))
    go_wp2
    refine bodyPost_ret (v := .agg #[.slice (some ⟨b, 0, none⟩) N c']) (by simp [results, Try.results63, go_sem, k1, k2]) rfl ⟨b, c', bs, rfl, ?_⟩
    apply Mem.outJ
    (repeat' (first | with_reducible exact hM | with_reducible exact hMp | with_reducible apply Mem.drew | with_reducible apply Mem.drewN | with_reducible apply Mem.alloc | with_reducible apply Mem.set | with_reducible exact Sto.row | ((with_reducible refine Sto.rowEq2 ?_ ?_); omega; rfl) | ((with_reducible refine Sto.rowEq ?_); omega) | with_reducible apply Sto.int | with_reducible apply Sto.there | with_reducible assumption | (unfold I64; omega) | (with_reducible (have hMx := Mem.undrew hM; exact hMx)) | (with_reducible (have hMx := Mem.undrew hMp; exact hMx))))
set_option maxRecDepth 100000 in
set_option maxHeartbeats 4000000 in
theorem flow_any {B : Nat} {w0 : World} {G : List Ent} (b c N s t : Nat) (bs : Nat → Nat) (cap : Nat → Nat → Int) (w : World) (hN : s + 2 ≤ N ∧ N ≤ s + 2) (ht : s + 1 ≤ t ∧ t ≤ s + 1) (hN52 : N ≤ 100) (hf : Flow N s t cap cap 0) (hc1 : ∀ a b, cap a b ≤ 1) (hM : Mem B w0 w (matE 24 (some ⟨b, 0, none⟩) N c N bs cap :: G)) :
    Calls Try.prog 65 #[.agg #[.slice (some ⟨b, 0, none⟩) N c], .int .i64 s, .int .i64 t] w fun e w' => ∃ (k : Nat) (M : Nat → Nat → Int), e = .returned (.int .i64 k) ∧ k ≤ 100 ∧ Flow N s t cap M k ∧ (∃ S : Nat → Bool, S s = true ∧ S t = false ∧ ∀ x y, x < N → y < N → S x = true → S y = false → ¬ 0 < M x y) ∧ Mem B w0 w' (matE 24 (some ⟨b, 0, none⟩) N c N bs M :: G) := by
  replace hM := hM.pk1
  have HF0 := Lib.hid hf; have HC1 := Lib.hid hc1
  clear hf hc1
  go_enter Try.func65, Try.ntmps65
  go_wp2_with fail
  apply Mem.atWpA
  · (repeat' (first | with_reducible exact hM | with_reducible exact hMp | with_reducible apply Mem.drew | with_reducible apply Mem.drewN | with_reducible apply Mem.alloc | with_reducible apply Mem.set | with_reducible exact Sto.row | ((with_reducible refine Sto.rowEq2 ?_ ?_); omega; rfl) | ((with_reducible refine Sto.rowEq ?_); omega) | with_reducible apply Sto.int | with_reducible apply Sto.there | with_reducible assumption | (unfold I64; omega) | (with_reducible (have hMx := Mem.undrew hM; exact hMx)) | (with_reducible (have hMx := Mem.undrew hMp; exact hMx))))
  clear hM
  intro wst hM
  obtain ⟨q, hq⟩ : ∃ q, w.heap.size = q := ⟨_, rfl⟩
  rw [hq] at hM ⊢
  clear hq
  replace hM := hM.swap
  go_loopw [7] (fun s7 wr => ∃ (k : Nat) (M : Nat → Nat → Int), s7 = .int .i64 k ∧ k ≤ N ∧ Hid (Flow N s t cap M k) ∧ Mem B w0 wr [matE 24 (some ⟨b, 0, none⟩) N c N bs M, rowE q 77 #[.slice (some ⟨b, 0, none⟩) N c], packE G]) (fun s7 _ => 100 - (intOf s7).toNat)
  case atStart => exact ⟨0, cap, rfl, Nat.zero_le _, HF0, hM⟩
  case round =>
    clear hM
    obtain ⟨k, M, rfl, hk, HF, hM⟩ := hrel
    obtain ⟨k1, f1, l1⟩ := hM.row (.there .here)
    go_wp2_with fail
    clear k1 f1 l1
    apply Mem.atA
    · (repeat' (first | with_reducible exact hM | with_reducible exact hMp | with_reducible apply Mem.drew | with_reducible apply Mem.drewN | with_reducible apply Mem.alloc | with_reducible apply Mem.set | with_reducible exact Sto.row | ((with_reducible refine Sto.rowEq2 ?_ ?_); omega; rfl) | ((with_reducible refine Sto.rowEq ?_); omega) | with_reducible apply Sto.int | with_reducible apply Sto.there | with_reducible assumption | (unfold I64; omega) | (with_reducible (have hMx := Mem.undrew hM; exact hMx)) | (with_reducible (have hMx := Mem.undrew hMp; exact hMx))))
    clear hM
    intro wst hM
    (try simp only [World.size_alloc, World.size_setCell, World.heap_drewN, heapDrew, Nat.add_assoc, Nat.reduceAdd, List.setIfInBounds_toArray, List.set_cons_zero, List.set_cons_succ, List.cons_append, List.nil_append] at hM)
    refine (augment_any b c N s t bs cap M k _ (by omega) (by omega) (by omega) HF.out HC1.out hM).mono ?_
    rintro e w3 (⟨rfl, hcut, hm⟩ | ⟨M', rfl, hf, hm⟩)
    · clear hM
      have hM := hm
      clear hm
      have HCUT := Lib.hid hcut; clear hcut
      go_wp2
      go_ret
      exact ⟨k, rfl, by omega, M, HF.out, HCUT.out, hM.outQ⟩
    · have hk1 := hf.most (by omega) (by omega) (fun p q _ _ => HC1.out p q)
      have HF2 := Lib.hid hf
      clear hM hf
      have hM := hm
      clear hm
      go_wp2
      go_roundw
      case rel => exact ⟨k + 1, M', by go_num, by omega, HF2, hM⟩
      case measure => simp [intOf]; omega
end Go.Proofs.Ytbgegmignhghnaa
