/-
  The reference's draw of notebooks.
-/
import Derived.Test.YtjnbdgldpmmamaaGreatUBookD
import Derived.Deep.Upon
/-
  The reference's draw of notebooks.
-/
namespace Go.Proofs.YtjnbdgldpmmamaaGreat
set_option linter.unusedSimpArgs false
set_option linter.unusedVariables false
open Go.RowKit

theorem Tryz.info24 : (Tryz.prog.info? 24).map (fun i => (i.zero, i.size, i.bytes)) = some (some (.slice none 0 0), 1, 24) := by kernel_rfl
theorem Mem.newBook {B : Nat} {w0 w : World} {G : List Ent} {e : Ent} {b : Nat} (h : Mem B w0 w (e :: rowE b 40 #[] :: G)) : Mem B w0 w (e :: bookIn ⟨some ⟨b, 0, none⟩, 0, 0, []⟩ :: G) :=
  (Mem.nstNil (F := FNote) (inner := noteIn) (Mem.toOwR (F := FNote) h.swap)).swap
theorem wpList_app0 {P : Program} {w : World} {ops : Array Oper} {rest : List Oper} {o : Oper} {a : Act} {Q : Exit → Act → World → Prop} (hgd : o.guard = none) (s x : Operand) (t E : TypeId) (i : TypeInfo) (ht : P.underlying t = some (.slice E)) (hi : P.info? E = some i)
    (ho : o.op = .call { callee := .builtin .append, args := #[s, x], argTypes := #[t, t] }) (va : Option Addr) (na ca : Nat) (hle : na ≤ ca) (hs : a.eval s = .slice va na ca) (xa : Option Addr) (cx : Nat) (hx : a.eval x = .slice xa 0 cx)
    (h : wpList P ops Q rest (a.put o.dst (.slice va na ca)) w) : wpList P ops Q (o :: rest) a w :=
  wpList_plain hgd fun K hK => by
    have hr : (Builtin.append_ #[t, t] o.type #[.slice va na ca, .slice xa 0 cx]).run P w = .ok (.slice va na ca) w :=
      run_append_nothing (P := P) w t t o.type E i ht hi va na ca hle _ (by
        cases xa with
        | none => exact Src.ofNil w ht cx
        | some b => exact Src.ofSlice w ht b 0 cx [] (by simp) (by simp) (by simp))
    unfold Oper.wp execOp
    simp only [ho, resolve, invoke, builtin, Sem.run_bind, Sem.run_pure, Result.andThen_ok, List.map_toArray, List.map_cons, List.map_nil, hs, hx, hr]
    exact hK _ _ h
/-- what is known of notebooks that are drawn -/
def NbOk (u : Int) (xs zs : List NoteI) : Prop := (-10 ≤ u ∧ u ≤ 10) ∧ (bookB u (coreN xs) = true → ∃ S : List (Int × Int), S.length ≤ 3 ∧ fewM (coreN xs) S) ∧ fewM (coreN zs) [] ∧ xs.length ≤ 12 ∧ zs.length ≤ 12
theorem merge_ok {k : Int} {xs1 xs2 ys : List NoteI} {rv : List NoteC} (hq : mergeB k (coreN xs1) (coreN xs2) = true) (hr : mergeR k (coreN xs1) (coreN xs2) = rv) (hc : coreN ys = rv) (c1 : compB (coreN xs1) = true) (c2 : compB (coreN xs2) = true) : bookB k (coreN ys) = true ∧ compB (coreN ys) = true := by
  obtain ⟨h1, h2, h3, h4⟩ := mergeB_parts hq
  have e : coreN ys = mergeL (coreN xs1) (coreN xs2) := by rw [hc, ← hr, mergeR, hq]; rfl
  rw [e]
  exact ⟨h4, merge_comp (book_asc h1) (book_asc h2) h3 c1 c2⟩
theorem write_ok {k : Int} {xs ys : List NoteI} {un : Int} {wd : Bs} {rv : List NoteC} (hq : writeB k (coreN xs) un wd = true) (hr : writeR k (coreN xs) un wd = rv) (hc : coreN ys = rv) (c1 : compB (coreN xs) = true) : bookB k (coreN ys) = true ∧ compB (coreN ys) = true := by
  have e : coreN ys = putN (newN k (coreN xs) un wd) (coreN xs) := by rw [hc, ← hr, writeR, hq]; rfl
  unfold writeB at hq
  simp only [Bool.and_eq_true] at hq
  rw [e]
  exact ⟨hq.2, write_comp hq.1.1 hq.1.2 c1⟩
theorem new_some {B : Nat} {w0 w : World} {G : List Ent} {k : Int} {xs ys : List NoteI} {un : Int} {wd : Bs} {rv : List NoteC} {a : Option Addr} {c : Nat} (hM : Mem B w0 w (noteE a rv.length c ys :: G)) (hq : writeB k (coreN xs) un wd = true) (hr : writeR k (coreN xs) un wd = rv) : ∃ g : Nat, a = some ⟨g, 0, none⟩ := by
  refine hM.nstHead .here ?_
  rw [← hr, writeR, hq]
  show 0 < (putN _ _).length
  rw [putN_len]
  omega
theorem set_one (w : World) (g k : Nat) (v : Value) : w.setCell ⟨g, k, none⟩ v = setRec w g (k * FBook.sz) [v] := by
  rw [show k * FBook.sz = k from Nat.mul_one k]
  rfl
theorem Mem.toOwN {B : Nat} {w0 w : World} {G G' : List Ent} {b : Nat} (h : Mem B w0 w G) (p : Put G (rowE b 40 #[]) (owE FNote 40 (some ⟨b, 0, none⟩) 0 0 []) G') : Mem B w0 w G' := by
  obtain ⟨h2, h3⟩ := h.ents _ p.mem
  refine h.put p (Keeps.refl _ _) ?_ (fun k hk => ?_)
  · refine ⟨rfl, by omega, by simp, by simp [Fl.cells], .inr ⟨b, 0, #[], rfl, h2, h3, Nat.le_refl _, Nat.zero_le _, by simp, by simp [Fl.cells]⟩⟩
  · obtain ⟨ad, e1, e2⟩ := hk
    injection e1 with e1
    subst e1
    exact .inl e2
theorem core_take {xs : List NoteI} {q : Nat} {x : NoteI} (hl : xs.length = q + 1) (hx : xs.getD q NoteI.zero = x) : coreN xs = coreN (xs.take q) ++ [x.core] := by
  have h : xs = xs.take q ++ [x] := by
    have h1 := take_succV (xs := xs) (z := NoteI.zero) (k := q) (by omega)
    rw [List.take_of_length_le (by omega), hx] at h1
    exact h1
  have h2 := congrArg coreN h
  rw [h2]
  unfold coreN
  rw [List.map_append]
  rfl
theorem few_last1 {xs : List NoteI} {q : Nat} {xu xq : Int} {xa : Option Addr} {xn xc : Nat} {xl : List Int} {xw s : Bs} (hc : coreN xs = coreN (xs.take q) ++ [NoteI.core ⟨xu, xq, xa, xn, xc, xl, xw⟩]) (h : compB (coreN xs) = true) : fewM (coreN (xs.take q ++ [(⟨xu, xq, xa, xn, xc, xl, s⟩ : NoteI)])) [] := by
  rw [hc] at h
  have h1 := few_word h s
  unfold coreN at h1 ⊢
  rw [List.map_append]
  exact h1
theorem last_len {xs : List NoteI} {m q : Nat} {y : NoteI} (h : xs.length = m) (hm : m ≤ 12) (hq : q < m) : (xs.take q ++ [y]).length ≤ 12 := by
  rw [List.length_append, List.length_take, List.length_singleton]
  omega
theorem last_cl {w : World} {a : Option Addr} {n c q : Nat} {xs : List NoteI} {xu xq : Int} {xa : Option Addr} {xn xc : Nat} {xl : List Int} {xw s : Bs} (h : RdN w a n c xs) (hx : (⟨xu, xq, xa, xn, xc, xl, xw⟩ : NoteI) ∈ xs) : ∀ x ∈ xs.take q ++ [(⟨xu, xq, xa, xn, xc, xl, s⟩ : NoteI)], Ints w x.ad x.n x.c x.cl := by
  intro x hxm
  rcases List.mem_append.1 hxm with hxm | hxm
  · exact h.cl x (List.mem_of_mem_take hxm)
  · rw [List.mem_singleton] at hxm
    subst hxm
    have h2 := h.cl _ hx
    exact h2
theorem few_last3 {u : Int} {xs : List NoteI} {q : Nat} {xu xq : Int} {xa : Option Addr} {xn xc : Nat} {xl : List Int} {xw : Bs} {ya : Option Addr} {yc : Nat} {v : Int} (hc : coreN xs = coreN (xs.take q) ++ [NoteI.core ⟨xu, xq, xa, xn, xc, xl, xw⟩]) (h : compB (coreN xs) = true) (hv : v ∈ [0, 3, -1, 13]) (hl : 0 < xl.length) (hb : bookB u (coreN (xs.take q ++ [(⟨xu, xq, ya, xn, yc, xl.set 0 v, xw⟩ : NoteI)])) = true) : ∃ S : List (Int × Int), S.length ≤ 3 ∧ fewM (coreN (xs.take q ++ [(⟨xu, xq, ya, xn, yc, xl.set 0 v, xw⟩ : NoteI)])) S := by
  have hv3 : v ≤ 3 := by
    have h1 := bookN hb (NoteI.core ⟨xu, xq, ya, xn, yc, xl.set 0 v, xw⟩) (by unfold coreN; rw [List.map_append]; exact List.mem_append_right _ (List.mem_singleton.2 rfl))
    have h2 := (noteB_true h1).2.1 v (by
      show v ∈ xl.set 0 v
      cases xl with
      | nil => simp at hl
      | cons z t => exact List.mem_cons_self ..)
    simp at hv
    omega
  rw [hc] at h
  have h1 := few_clock h hv3
  refine ⟨[(0, 1), (0, 2), (0, 3)], by decide, ?_⟩
  unfold coreN at h1 ⊢
  rw [List.map_append]
  exact h1
theorem last_cl3 {w : World} {a : Option Addr} {n c q : Nat} {xs : List NoteI} {y : NoteI} (h : RdN w a n c xs) (hy : Ints w y.ad y.n y.c y.cl) : ∀ x ∈ xs.take q ++ [y], Ints w x.ad x.n x.c x.cl := by
  intro x hxm
  rcases List.mem_append.1 hxm with hxm | hxm
  · exact h.cl x (List.mem_of_mem_take hxm)
  · rw [List.mem_singleton] at hxm
    subst hxm
    exact hy
theorem few_drop1 {xs : List NoteI} (h : compB (coreN xs) = true) (hl : 1 ≤ xs.length) : ∃ S : List (Int × Int), S.length ≤ 3 ∧ fewM (coreN (xs.drop 1)) S := by
  cases xs with
  | nil => simp at hl
  | cons x t => exact ⟨_, by simp, few_drop (x := x.core) (t := coreN t) h⟩
set_option maxRecDepth 100000 in
set_option maxHeartbeats 16000000 in
theorem notebook_any {g : Nat} {ac : Option Addr} {nc cc : Nat} {l : List UInt8} {A : Nat} {w0 w : World} {G : List Ent} {F : Ent → List Ent} (hC : Rd FByt w0 ac nc cc l) (hM : Mem w0.heap.size w0 w G) (p : At G (curE g ac nc cc A) F) (hA : A ≤ 10000000) :
    Calls Tryz.prog 39 #[.pointer (some ⟨g, 0, none⟩)] w fun e w' => ∃ (u : Int) (b1 o1 n1 c1 : Nat) (xs : List NoteI) (a2 : Option Addr) (n2 c2 : Nat) (zs : List NoteI) (X : List Ent), NbOk u xs zs ∧ (∀ B w, (packE X).hold B w → RdN w (some ⟨b1, o1, none⟩) n1 c1 xs ∧ RdN w a2 n2 c2 zs) ∧ e = .returned (.tuple #[.int .i64 u, .slice (some ⟨b1, o1, none⟩) n1 c1, .slice a2 n2 c2]) ∧ Mem w0.heap.size w0 w' (packE X :: F (curE g ac nc cc (A + 200))) := by
  obtain ⟨R, hR⟩ : ∃ R, HeadN F R := p.headN
  have HR := Lib.hid hR
  have HC := Lib.hid hC
  rw [← p.self] at hM
  replace hM := hR.in0 hM
  have HP := Lib.hid p
  clear p hC hR
  obtain ⟨i0, hi, hz0, hz1, hz2⟩ := info_parts Tryz.info24
  obtain ⟨j0, hj, hy0, hy1, hy2⟩ := info_parts Tryz.info40
  go_enter Tryz.func39, Tryz.ntmps39
  go_wp2_with fail
  apply Mem.atA
  · exact memA
  clear hM
  intro wst hM
  (try simp only [World.size_alloc, World.size_setCell, World.heap_drewN, heapDrew, Nat.add_assoc, Nat.reduceAdd, sA, List.cons_append, List.nil_append] at hM)
  (first | refine (pick_any 3 HC.out hM .here (by omega)).mono ?_)
  rintro e wc1 ⟨r, hr, hr2, rfl, hm⟩
  clear hM
  have hM := hm
  clear hm
  try dsimp only at hM
  have hr3 := pick_lt hr (by omega)
  clear hr hr2
  obtain ⟨U, hU⟩ : ∃ U, 2 + r = U := ⟨_, rfl⟩
  have hwU : IntKind.i64.wrap (2 + (r : Int)) = (U : Int) := by rw [wrap_in (by omega)]; omega
  have hU2 : 2 ≤ U ∧ U ≤ 4 := by omega
  clear hU hr3
  go_upto_region 3 with fail
  apply Mem.atWpA
  · exact memA
  clear hM
  intro wst hM
  (try simp only [World.size_alloc, World.size_setCell, World.heap_drewN, heapDrew, Nat.add_assoc, Nat.reduceAdd, sA, List.cons_append, List.nil_append] at hM)
  replace hM := Mem.nstNil (inner := bookIn) (Mem.toOwR (F := FBook) hM)
  obtain ⟨hU2, hU4⟩ := hU2
  go_wp2_with fail
  go_loopw [6, 7] (fun s6 s7 wr => ∃ (k gb cb : Nat) (bs : List BookI), k ≤ U ∧ s7 = .int .i64 k ∧ s6 = .slice (some ⟨gb, 0, none⟩) k cb ∧ Hid (okBk (U : Int) bs) ∧ Mem w0.heap.size w0 wr [bookE (some ⟨gb, 0, none⟩) k cb bs, curE g ac nc cc (A + 2), packE R]) (fun _ s7 _ => U - (intOf s7).toNat)
  case atStart => exact ⟨0, _, _, [], Nat.zero_le _, rfl, rfl, Lib.hid (by intro b hb; cases hb), hM⟩
  case round =>
    clear hM hwU
    obtain ⟨k, gb, cb, bs, hk, rfl, rfl, HO, hM⟩ := hrel
    by_cases hlt : k < U
    · go_wp2_with (at_builtin; go_loud (apply Mem.atL; (focus ((repeat' (first | with_reducible exact hM | with_reducible exact hMp | with_reducible apply Mem.drew | with_reducible apply Mem.drewN | with_reducible apply Mem.alloc | with_reducible apply Mem.set | with_reducible exact Sto.row | ((with_reducible refine Sto.rowEq2 ?_ ?_); omega; rfl) | ((with_reducible refine Sto.rowEq ?_); omega) | with_reducible apply Sto.int | with_reducible apply Sto.there | with_reducible assumption | (unfold I64; omega) | (with_reducible (have hMx := Mem.undrew hM; exact hMx)) | (with_reducible (have hMx := Mem.undrew hMp; exact hMx)))); done)); clear hM; intro hM; (try simp only [World.size_alloc, World.size_setCell, World.heap_drewN, heapDrew, Nat.add_assoc, Nat.reduceAdd, sA, List.cons_append, List.nil_append] at hM); refine wpList_pushT (F := FBook) (inner := bookIn) (⟨some ⟨_, 0, none⟩, 0, 0, []⟩ : BookI) (Mem.newBook hM) rfl trivial (by decide) (by show (k + 1) * 1 ≤ _; omega) i0 (.slice none 0 0) 24 hi hz0 hz1 hz2 rfl (by omega) rfl _ _ _ Tryz.underlying78 rfl rfl rfl ?_))
      intro a7 c7 w7 hM
      obtain ⟨g7, rfl⟩ := hM.nstHead .here (by omega)
      have HO2 := Lib.hid (okBk_snoc (b := ⟨some ⟨wr.heap.size, 0, none⟩, 0, 0, []⟩) HO.out (book_nil ⟨by omega, by omega⟩) rfl ⟨_, rfl⟩)
      go_wp2
      go_roundw
      case rel => exact ⟨k + 1, g7, c7, _, by omega, by go_num, rfl, HO2, hM⟩
      case measure => simp [intOf]; omega
    · obtain rfl : k = U := by omega
      clear hlt hk
      go_wp2_with fail
      apply Mem.atA
      · exact memA
      clear hM
      intro wst hM
      (try simp only [World.size_alloc, World.size_setCell, World.heap_drewN, heapDrew, Nat.add_assoc, Nat.reduceAdd, sA, List.cons_append, List.nil_append] at hM)
      (first | refine (pick_any 10 HC.out hM (.there .here) (by omega)).mono ?_)
      rintro e wc2 ⟨r, hr, hr2, rfl, hm⟩
      clear hM
      have hM := hm
      clear hm
      try dsimp only at hM
      have hr3 := pick_lt hr (by omega)
      clear hr hr2
      have hr9 : r ≤ 9 := by omega
      clear hr3
      go_wp2_with fail
      go_loopw [8] (fun s8 wr => ∃ (m : Nat) (bs : List BookI), m ≤ 9 ∧ s8 = .int .i64 m ∧ Hid (okBk (k : Int) bs) ∧ Mem w0.heap.size w0 wr [bookE (some ⟨gb, 0, none⟩) k cb bs, curE g ac nc cc (A + 4 + 8 * (9 - m)), packE R]) (fun s8 _ => (intOf s8).toNat)
      case atStart => exact ⟨r, bs, hr9, rfl, HO, hM.curMore (.there .here) (by omega)⟩
      case round =>
        clear hM HO hr9
        obtain ⟨m, bs, hm, rfl, HO, hM⟩ := hrel
        have HBL := Lib.hid (hM.nstOw .here).len
        obtain ⟨A2, hA2⟩ : ∃ A2, A + 4 + 8 * (9 - m) = A2 := ⟨_, rfl⟩
        rw [hA2] at hM
        have HA2 := Lib.hid hA2
        have hA3 : A2 ≤ 10000100 := by omega
        clear hA2
        by_cases hm0 : 0 < m
        · have hkI : I64 (k : Int) := by unfold I64; omega
          go_wp2_with fail
          apply Mem.atA
          · exact memA
          clear hM
          intro wst hM
          (try simp only [World.size_alloc, World.size_setCell, World.heap_drewN, heapDrew, Nat.add_assoc, Nat.reduceAdd, sA, List.cons_append, List.nil_append] at hM)
          (first | refine (pick_any (k : Int) HC.out hM (.there .here) (by omega)).mono ?_)
          rintro e wc3 ⟨r, hr, hr2, rfl, hm⟩
          clear hM
          have hM := hm
          clear hm
          try dsimp only at hM
          have hrk := pick_lt hr (by omega)
          clear hr hr2
          have hrn : r < k := by omega
          have r0 : (0 : Int) ≤ (r : Int) := by omega
          go_wp2_with fail
          apply Mem.atA
          · exact memA
          clear hM
          intro wst hM
          (try simp only [World.size_alloc, World.size_setCell, World.heap_drewN, heapDrew, Nat.add_assoc, Nat.reduceAdd, sA, List.cons_append, List.nil_append] at hM)
          (first | refine (one_any 2 HC.out hM (.there .here) (by omega)).mono ?_)
          rintro e wc4 ⟨b, rfl, hm⟩
          clear hM
          have hM := hm
          clear hm
          try dsimp only at hM
          go_upto_if 43 with fail
          go_cut [] (fun wx => ∃ bs, Hid (okBk (k : Int) bs) ∧ Mem w0.heap.size w0 wx [bookE (some ⟨gb, 0, none⟩) k cb bs, curE g ac nc cc (A2 + 6), packE R])
          case first =>
            cases b
            · go_wp2_with fail
              go_meet
              exact ⟨bs, HO, hM.curMore (.there .here) (by omega)⟩
            · obtain ⟨⟨d1, m1, e1, xs1⟩, hx1⟩ : ∃ x, bs.getD r BookI.zero = x := ⟨_, rfl⟩
              have hok1 := HO.out _ (getD_memO (d := BookI.zero) (xs := bs) (k := r) (by rw [HBL.out]; exact hrn))
              rw [hx1] at hok1
              have HX1 := Lib.hid hx1; have HK1 := Lib.hid hok1
              clear hx1 hok1
              go_upto_region 12 with fail
              apply Mem.atWpA
              · exact memA
              clear hM
              intro wst hM
              (try simp only [World.size_alloc, World.size_setCell, World.heap_drewN, heapDrew, Nat.add_assoc, Nat.reduceAdd, sA, List.cons_append, List.nil_append] at hM)
              replace hM := hM.pick (is := [1, 0, 2]) (by decide) rfl
              dsimp only [List.filterMap_cons, List.filterMap_nil, List.getElem?_cons_zero, List.getElem?_cons_succ] at hM
              refine AtT.startA hM.tail hM 16 (by kernel_rfl) ?_
              clear hM
              intro wd hM
              have hS := hM.tail
              refine AtT.tk 0 ?_ 45 ?_ hS ?_
              rotate_left
              · (intro wS hSw; (try dsimp only at hSw); go_simp; (try rw [if_neg (by omega)]); try with_reducible rfl)
              simp only [Act.put, sA]
              refine AtT.tk 1 ?_ 46 ?_ hS ?_
              rotate_left
              · (intro wS hSw; (try dsimp only at hSw); go_simp; (try rw [if_neg (by omega)]); try with_reducible rfl)
              simp only [Act.put, sA]
              refine AtT.tk 2 ?_ 47 ?_ hS ?_
              rotate_left
              · (intro wS hSw; (try dsimp only at hSw); go_simp; (try rw [if_neg (by omega)]); try with_reducible rfl)
              simp only [Act.put, sA]
              refine AtT.tk 3 ?_ 48 ?_ hS ?_
              rotate_left
              · (intro wS hSw; (try dsimp only at hSw); go_simp; (try rw [if_neg (by omega)]); try with_reducible rfl)
              simp only [Act.put, sA]
              refine AtT.tk 5 ?_ 50 ?_ hS ?_
              rotate_left
              · (intro wS hSw; (try dsimp only at hSw); go_simp; (try rw [if_neg (by omega)]); try with_reducible rfl)
              simp only [Act.put, sA]
              refine AtT.tk 6 ?_ 51 ?_ hS ?_
              rotate_left
              · (intro wS hSw; (try dsimp only at hSw); go_simp; (try rw [if_neg (by omega)]); try with_reducible rfl)
              simp only [Act.put, sA]
              refine AtT.tk 7 ?_ 52 ?_ hS ?_
              rotate_left
              · (intro wS hSw; (try dsimp only at hSw); go_simp; (try rw [if_neg (by omega)]); try with_reducible rfl)
              simp only [Act.put, sA]
              refine AtT.two (i := 4) (j := 8) (by kernel_rfl) rfl rfl rfl rfl ?_ ?_
              · skip
                intro K hK
                have q1 := hM.bookCell (.there .here) hrn
                rw [HX1.out] at q1
                go_simp
                clear q1
                try dsimp only
                refine hK.out _ _ (hM.tail) ?_
                clear hK K hS
                have hS := hM.tail
                refine AtT.only (i := 8) (by kernel_rfl) rfl rfl ?_
                intro K hK
                go_simp
                refine (pick_any (k : Int) HC.out hM .here (by omega)).mono ?_
                rintro e w3 ⟨r2, hr2, hr3, rfl, hm⟩
                have hrk2 := pick_lt hr2 (by omega)
                have hrn2 : r2 < k := by omega
                have r20 : (0 : Int) ≤ (r2 : Int) := by omega
                obtain ⟨⟨d2, m2, e2, xs2⟩, hx2⟩ : ∃ x, bs.getD r2 BookI.zero = x := ⟨_, rfl⟩
                have hok2 := HO.out _ (getD_memO (d := BookI.zero) (xs := bs) (k := r2) (by rw [HBL.out]; exact hrn2))
                rw [hx2] at hok2
                have HX2 := Lib.hid hx2; have HK2 := Lib.hid hok2
                clear hx2 hok2 hr2 hr3 hM
                have hM := hm
                clear hm
                try dsimp only at hM
                try dsimp only
                refine hK.out _ _ (hM.tail) ?_
                clear hK K hS
                have hS := hM.tail
                refine AtT.tk 9 ?_ 54 ?_ hS ?_
                rotate_left
                · (intro wS hSw; (try dsimp only at hSw); go_simp; (try rw [if_neg (by omega)]); try with_reducible rfl)
                simp only [Act.put, sA]
                refine AtT.only (i := 10) (by kernel_rfl) rfl rfl ?_
                intro K hK
                have q1 := hM.bookCell (.there .here) hrn2
                rw [HX2.out] at q1
                go_simp
                clear q1
                try dsimp only
                refine hK.out _ _ (hM.tail) ?_
                clear hK K hS
                have hS := hM.tail
                refine AtT.only (i := 11) (by kernel_rfl) rfl rfl ?_
                intro K hK
                go_simp
                have b1 := hM.bookRd (.there .here) hrn
                rw [HX1.out] at b1
                have b2 := hM.bookRd (.there .here) hrn2
                rw [HX2.out] at b2
                refine (specMergeG_any (k : Int) d1 m1 e1 xs1 d2 m2 e2 xs2 _ hkI b1 b2).mono ?_
                clear b1 b2
                obtain ⟨q, hq⟩ : ∃ q, mergeB (k : Int) (coreN xs1) (coreN xs2) = q := ⟨_, rfl⟩
                obtain ⟨rv, hrv⟩ : ∃ rv, mergeR (k : Int) (coreN xs1) (coreN xs2) = rv := ⟨_, rfl⟩
                rw [hq, hrv]
                have HQ := Lib.hid hq; have HRV := Lib.hid hrv
                clear hq hrv
                rintro e w5 ⟨a5, c5, ys, hga, hcy, rfl, hm⟩
                replace hM := hM.join hm
                have HGA := Lib.hid hga; have HCY := Lib.hid hcy
                clear hm hga hcy
                try dsimp only [List.cons_append, List.nil_append] at hM
                try dsimp only
                refine hK.out _ _ (hM.tail.tail) ?_
                clear hK K hS
                have hS := hM.tail.tail
                refine AtT.tk 12 ?_ 44 ?_ hS ?_
                rotate_left
                · (intro wS hSw; (try dsimp only at hSw); go_simp; (try rw [if_neg (by omega)]); try with_reducible rfl)
                simp only [Act.put, sA]
                refine AtT.tk 13 ?_ 57 ?_ hS ?_
                rotate_left
                · (intro wS hSw; (try dsimp only at hSw); go_simp; (try rw [if_neg (by omega)]); try with_reducible rfl)
                simp only [Act.put, sA]
                refine AtT.tk 14 ?_ 58 ?_ hS ?_
                rotate_left
                · (intro wS hSw; (try dsimp only at hSw); go_simp; (try rw [if_neg (by omega)]); try with_reducible rfl)
                simp only [Act.put, sA]
                refine AtT.tk 15 ?_ 10 ?_ hS ?_
                rotate_left
                · (intro wS hSw; (try dsimp only at hSw); go_simp; (try rw [if_neg (by omega)]); try with_reducible rfl)
                simp only [Act.put, sA]
                refine AtT.last (by kernel_rfl) rfl (by kernel_rfl) ?_
                intro K hK
                clear hS
                go_simp
                refine hK.out _ _ ?_
                clear hK K
                have hM2 := Lib.hid (Mem.pick (is := [0, 2, 1, 3]) hM (by decide) rfl)
                clear hM
                cases q with | false => (go_wp2_with fail; go_meet; exact ⟨bs, HO, hM2.out.tail.curMore (.there .here) (by omega)⟩) | true => (have hmo := merge_ok HQ.out HRV.out HCY.out HK1.out.2.1 HK2.out.2.1; have hga := HGA.out rfl; have HOK := Lib.hid (okBk_set (k := r) (b := ⟨a5, rv.length, c5, ys⟩) HO.out hmo.1 hmo.2 hga); clear hmo hga; have hcl := hM2.out.bookCell (.there .here) hrn; have hfe := (hM2.out.nstOw (.there .here)).free r; go_wp2_with fail; go_meet; exact ⟨_, HOK, (Mem.nstPut (y := (⟨a5, rv.length, c5, ys⟩ : BookI)) hM2.out hrn trivial (set_one _ _ _ _)).curMore (.there .here) (by omega)⟩)
              · skip
                intro K hK
                go_simp
                refine (pick_any (k : Int) HC.out hM .here (by omega)).mono ?_
                rintro e w3 ⟨r2, hr2, hr3, rfl, hm⟩
                have hrk2 := pick_lt hr2 (by omega)
                have hrn2 : r2 < k := by omega
                have r20 : (0 : Int) ≤ (r2 : Int) := by omega
                obtain ⟨⟨d2, m2, e2, xs2⟩, hx2⟩ : ∃ x, bs.getD r2 BookI.zero = x := ⟨_, rfl⟩
                have hok2 := HO.out _ (getD_memO (d := BookI.zero) (xs := bs) (k := r2) (by rw [HBL.out]; exact hrn2))
                rw [hx2] at hok2
                have HX2 := Lib.hid hx2; have HK2 := Lib.hid hok2
                clear hx2 hok2 hr2 hr3 hM
                have hM := hm
                clear hm
                try dsimp only at hM
                try dsimp only
                refine hK.out _ _ (hM.tail) ?_
                clear hK K hS
                have hS := hM.tail
                refine AtT.tk 9 ?_ 54 ?_ hS ?_
                rotate_left
                · (intro wS hSw; (try dsimp only at hSw); go_simp; (try rw [if_neg (by omega)]); try with_reducible rfl)
                simp only [Act.put, sA]
                refine AtT.two (i := 4) (j := 10) (by kernel_rfl) rfl rfl rfl rfl ?_ ?_
                · skip
                  intro K hK
                  have q1 := hM.bookCell (.there .here) hrn
                  rw [HX1.out] at q1
                  go_simp
                  clear q1
                  try dsimp only
                  refine hK.out _ _ (hM.tail) ?_
                  clear hK K hS
                  have hS := hM.tail
                  refine AtT.only (i := 10) (by kernel_rfl) rfl rfl ?_
                  intro K hK
                  have q1 := hM.bookCell (.there .here) hrn2
                  rw [HX2.out] at q1
                  go_simp
                  clear q1
                  try dsimp only
                  refine hK.out _ _ (hM.tail) ?_
                  clear hK K hS
                  have hS := hM.tail
                  refine AtT.only (i := 11) (by kernel_rfl) rfl rfl ?_
                  intro K hK
                  go_simp
                  have b1 := hM.bookRd (.there .here) hrn
                  rw [HX1.out] at b1
                  have b2 := hM.bookRd (.there .here) hrn2
                  rw [HX2.out] at b2
                  refine (specMergeG_any (k : Int) d1 m1 e1 xs1 d2 m2 e2 xs2 _ hkI b1 b2).mono ?_
                  clear b1 b2
                  obtain ⟨q, hq⟩ : ∃ q, mergeB (k : Int) (coreN xs1) (coreN xs2) = q := ⟨_, rfl⟩
                  obtain ⟨rv, hrv⟩ : ∃ rv, mergeR (k : Int) (coreN xs1) (coreN xs2) = rv := ⟨_, rfl⟩
                  rw [hq, hrv]
                  have HQ := Lib.hid hq; have HRV := Lib.hid hrv
                  clear hq hrv
                  rintro e w5 ⟨a5, c5, ys, hga, hcy, rfl, hm⟩
                  replace hM := hM.join hm
                  have HGA := Lib.hid hga; have HCY := Lib.hid hcy
                  clear hm hga hcy
                  try dsimp only [List.cons_append, List.nil_append] at hM
                  try dsimp only
                  refine hK.out _ _ (hM.tail.tail) ?_
                  clear hK K hS
                  have hS := hM.tail.tail
                  refine AtT.tk 12 ?_ 44 ?_ hS ?_
                  rotate_left
                  · (intro wS hSw; (try dsimp only at hSw); go_simp; (try rw [if_neg (by omega)]); try with_reducible rfl)
                  simp only [Act.put, sA]
                  refine AtT.tk 13 ?_ 57 ?_ hS ?_
                  rotate_left
                  · (intro wS hSw; (try dsimp only at hSw); go_simp; (try rw [if_neg (by omega)]); try with_reducible rfl)
                  simp only [Act.put, sA]
                  refine AtT.tk 14 ?_ 58 ?_ hS ?_
                  rotate_left
                  · (intro wS hSw; (try dsimp only at hSw); go_simp; (try rw [if_neg (by omega)]); try with_reducible rfl)
                  simp only [Act.put, sA]
                  refine AtT.tk 15 ?_ 10 ?_ hS ?_
                  rotate_left
                  · (intro wS hSw; (try dsimp only at hSw); go_simp; (try rw [if_neg (by omega)]); try with_reducible rfl)
                  simp only [Act.put, sA]
                  refine AtT.last (by kernel_rfl) rfl (by kernel_rfl) ?_
                  intro K hK
                  clear hS
                  go_simp
                  refine hK.out _ _ ?_
                  clear hK K
                  have hM2 := Lib.hid (Mem.pick (is := [0, 2, 1, 3]) hM (by decide) rfl)
                  clear hM
                  cases q with | false => (go_wp2_with fail; go_meet; exact ⟨bs, HO, hM2.out.tail.curMore (.there .here) (by omega)⟩) | true => (have hmo := merge_ok HQ.out HRV.out HCY.out HK1.out.2.1 HK2.out.2.1; have hga := HGA.out rfl; have HOK := Lib.hid (okBk_set (k := r) (b := ⟨a5, rv.length, c5, ys⟩) HO.out hmo.1 hmo.2 hga); clear hmo hga; have hcl := hM2.out.bookCell (.there .here) hrn; have hfe := (hM2.out.nstOw (.there .here)).free r; go_wp2_with fail; go_meet; exact ⟨_, HOK, (Mem.nstPut (y := (⟨a5, rv.length, c5, ys⟩ : BookI)) hM2.out hrn trivial (set_one _ _ _ _)).curMore (.there .here) (by omega)⟩)
                · skip
                  intro K hK
                  have q1 := hM.bookCell (.there .here) hrn2
                  rw [HX2.out] at q1
                  go_simp
                  clear q1
                  try dsimp only
                  refine hK.out _ _ (hM.tail) ?_
                  clear hK K hS
                  have hS := hM.tail
                  refine AtT.only (i := 4) (by kernel_rfl) rfl rfl ?_
                  intro K hK
                  have q1 := hM.bookCell (.there .here) hrn
                  rw [HX1.out] at q1
                  go_simp
                  clear q1
                  try dsimp only
                  refine hK.out _ _ (hM.tail) ?_
                  clear hK K hS
                  have hS := hM.tail
                  refine AtT.only (i := 11) (by kernel_rfl) rfl rfl ?_
                  intro K hK
                  go_simp
                  have b1 := hM.bookRd (.there .here) hrn
                  rw [HX1.out] at b1
                  have b2 := hM.bookRd (.there .here) hrn2
                  rw [HX2.out] at b2
                  refine (specMergeG_any (k : Int) d1 m1 e1 xs1 d2 m2 e2 xs2 _ hkI b1 b2).mono ?_
                  clear b1 b2
                  obtain ⟨q, hq⟩ : ∃ q, mergeB (k : Int) (coreN xs1) (coreN xs2) = q := ⟨_, rfl⟩
                  obtain ⟨rv, hrv⟩ : ∃ rv, mergeR (k : Int) (coreN xs1) (coreN xs2) = rv := ⟨_, rfl⟩
                  rw [hq, hrv]
                  have HQ := Lib.hid hq; have HRV := Lib.hid hrv
                  clear hq hrv
                  rintro e w5 ⟨a5, c5, ys, hga, hcy, rfl, hm⟩
                  replace hM := hM.join hm
                  have HGA := Lib.hid hga; have HCY := Lib.hid hcy
                  clear hm hga hcy
                  try dsimp only [List.cons_append, List.nil_append] at hM
                  try dsimp only
                  refine hK.out _ _ (hM.tail.tail) ?_
                  clear hK K hS
                  have hS := hM.tail.tail
                  refine AtT.tk 12 ?_ 44 ?_ hS ?_
                  rotate_left
                  · (intro wS hSw; (try dsimp only at hSw); go_simp; (try rw [if_neg (by omega)]); try with_reducible rfl)
                  simp only [Act.put, sA]
                  refine AtT.tk 13 ?_ 57 ?_ hS ?_
                  rotate_left
                  · (intro wS hSw; (try dsimp only at hSw); go_simp; (try rw [if_neg (by omega)]); try with_reducible rfl)
                  simp only [Act.put, sA]
                  refine AtT.tk 14 ?_ 58 ?_ hS ?_
                  rotate_left
                  · (intro wS hSw; (try dsimp only at hSw); go_simp; (try rw [if_neg (by omega)]); try with_reducible rfl)
                  simp only [Act.put, sA]
                  refine AtT.tk 15 ?_ 10 ?_ hS ?_
                  rotate_left
                  · (intro wS hSw; (try dsimp only at hSw); go_simp; (try rw [if_neg (by omega)]); try with_reducible rfl)
                  simp only [Act.put, sA]
                  refine AtT.last (by kernel_rfl) rfl (by kernel_rfl) ?_
                  intro K hK
                  clear hS
                  go_simp
                  refine hK.out _ _ ?_
                  clear hK K
                  have hM2 := Lib.hid (Mem.pick (is := [0, 2, 1, 3]) hM (by decide) rfl)
                  clear hM
                  cases q with | false => (go_wp2_with fail; go_meet; exact ⟨bs, HO, hM2.out.tail.curMore (.there .here) (by omega)⟩) | true => (have hmo := merge_ok HQ.out HRV.out HCY.out HK1.out.2.1 HK2.out.2.1; have hga := HGA.out rfl; have HOK := Lib.hid (okBk_set (k := r) (b := ⟨a5, rv.length, c5, ys⟩) HO.out hmo.1 hmo.2 hga); clear hmo hga; have hcl := hM2.out.bookCell (.there .here) hrn; have hfe := (hM2.out.nstOw (.there .here)).free r; go_wp2_with fail; go_meet; exact ⟨_, HOK, (Mem.nstPut (y := (⟨a5, rv.length, c5, ys⟩ : BookI)) hM2.out hrn trivial (set_one _ _ _ _)).curMore (.there .here) (by omega)⟩)
          case rest =>
            clear hM HO HBL
            obtain ⟨bs, HO, hM⟩ := hcut
            have HBL := Lib.hid (hM.nstOw .here).len
            obtain ⟨⟨d1, m1, e1, xs1⟩, hx1⟩ : ∃ x, bs.getD r BookI.zero = x := ⟨_, rfl⟩
            have hok1 := HO.out _ (getD_memO (d := BookI.zero) (xs := bs) (k := r) (by rw [HBL.out]; exact hrn))
            rw [hx1] at hok1
            obtain ⟨g1, hg1⟩ := hok1.2.2
            dsimp only at hg1
            subst hg1
            have HX1 := Lib.hid hx1; have HK1 := Lib.hid hok1
            clear hx1 hok1
            have hrI : I64 (r : Int) := by unfold I64; omega
            obtain ⟨mm, hmm⟩ : ∃ mm, m - 1 = mm := ⟨_, rfl⟩
            have hwm : IntKind.i64.wrap ((m : Int) - 1) = (mm : Int) := by rw [wrap_in (by omega)]; omega
            have HMM := Lib.hid (show m = mm + 1 by omega)
            have hmm9 : mm ≤ 9 := by omega
            clear hmm
            go_upto_region 15 with fail
            apply Mem.atWpA
            · exact memA
            clear hM
            intro wst hM
            (try simp only [World.size_alloc, World.size_setCell, World.heap_drewN, heapDrew, Nat.add_assoc, Nat.reduceAdd, sA, List.cons_append, List.nil_append] at hM)
            replace hM := hM.pick (is := [1, 0, 2]) (by decide) rfl
            dsimp only [List.filterMap_cons, List.filterMap_nil, List.getElem?_cons_zero, List.getElem?_cons_succ] at hM
            refine AtT.startA hM.tail hM 13 (by kernel_rfl) ?_
            clear hM
            intro wd hM
            have hS := hM.tail
            refine AtT.tk 0 ?_ 65 ?_ hS ?_
            rotate_left
            · (intro wS hSw; (try dsimp only at hSw); go_simp; (try rw [if_neg (by omega)]); try with_reducible rfl)
            simp only [Act.put, sA]
            refine AtT.tk 1 ?_ 66 ?_ hS ?_
            rotate_left
            · (intro wS hSw; (try dsimp only at hSw); go_simp; (try rw [if_neg (by omega)]); try with_reducible rfl)
            simp only [Act.put, sA]
            refine AtT.tk 2 ?_ 67 ?_ hS ?_
            rotate_left
            · (intro wS hSw; (try dsimp only at hSw); go_simp; (try rw [if_neg (by omega)]); try with_reducible rfl)
            simp only [Act.put, sA]
            refine AtT.tk 3 ?_ 68 ?_ hS ?_
            rotate_left
            · (intro wS hSw; (try dsimp only at hSw); go_simp; (try rw [if_neg (by omega)]); try with_reducible rfl)
            simp only [Act.put, sA]
            refine AtT.tk 5 ?_ 70 ?_ hS ?_
            rotate_left
            · (intro wS hSw; (try dsimp only at hSw); go_simp; (try rw [if_neg (by omega)]); try with_reducible rfl)
            simp only [Act.put, sA]
            refine AtT.tk 6 ?_ 71 ?_ hS ?_
            rotate_left
            · (intro wS hSw; (try dsimp only at hSw); go_simp; (try rw [if_neg (by omega)]); try with_reducible rfl)
            simp only [Act.put, sA]
            refine AtT.two (i := 4) (j := 7) (by kernel_rfl) rfl rfl rfl rfl ?_ ?_
            · skip
              intro K hK
              have q1 := hM.bookCell (.there .here) hrn
              rw [HX1.out] at q1
              go_simp
              clear q1
              try dsimp only
              refine hK.out _ _ (hM.tail) ?_
              clear hK K hS
              have hS := hM.tail
              refine AtT.only (i := 7) (by kernel_rfl) rfl rfl ?_
              intro K hK
              go_simp
              refine (word_any HC.out hM .here (by omega)).mono ?_
              rintro e w3 ⟨s, hs, rfl, hm⟩
              have HWS := Lib.hid (show s.length ≤ maxLen by unfold maxLen; omega)
              clear hM hs
              have hM := hm
              clear hm
              try dsimp only at hM
              try dsimp only
              refine hK.out _ _ (hM.tail) ?_
              clear hK K hS
              have hS := hM.tail
              refine AtT.only (i := 8) (by kernel_rfl) rfl rfl ?_
              intro K hK
              go_simp
              have b1 := hM.bookRd (.there .here) hrn
              rw [HX1.out] at b1
              refine (specWriteNote_any (k : Int) g1 0 m1 e1 xs1 (r : Int) s _ hkI hrI HWS.out b1).mono ?_
              clear b1
              obtain ⟨q, hq⟩ : ∃ q, writeB (k : Int) (coreN xs1) (r : Int) s = q := ⟨_, rfl⟩
              obtain ⟨rv, hrv⟩ : ∃ rv, writeR (k : Int) (coreN xs1) (r : Int) s = rv := ⟨_, rfl⟩
              rw [hq, hrv]
              have HQ := Lib.hid hq; have HRV := Lib.hid hrv
              clear hq hrv
              rintro e w5 ⟨a5, c5, ys, hcy, rfl, hm⟩
              replace hM := hM.join hm
              have HCY := Lib.hid hcy
              clear hm hcy
              try dsimp only [List.cons_append, List.nil_append] at hM
              try dsimp only
              refine hK.out _ _ (hM.tail.tail) ?_
              clear hK K hS
              have hS := hM.tail.tail
              refine AtT.tk 9 ?_ 64 ?_ hS ?_
              rotate_left
              · (intro wS hSw; (try dsimp only at hSw); go_simp; (try rw [if_neg (by omega)]); try with_reducible rfl)
              simp only [Act.put, sA]
              refine AtT.tk 10 ?_ 74 ?_ hS ?_
              rotate_left
              · (intro wS hSw; (try dsimp only at hSw); go_simp; (try rw [if_neg (by omega)]); try with_reducible rfl)
              simp only [Act.put, sA]
              refine AtT.tk 11 ?_ 75 ?_ hS ?_
              rotate_left
              · (intro wS hSw; (try dsimp only at hSw); go_simp; (try rw [if_neg (by omega)]); try with_reducible rfl)
              simp only [Act.put, sA]
              refine AtT.tk 12 ?_ 12 ?_ hS ?_
              rotate_left
              · (intro wS hSw; (try dsimp only at hSw); go_simp; (try rw [if_neg (by omega)]); try with_reducible rfl)
              simp only [Act.put, sA]
              refine AtT.last (by kernel_rfl) rfl (by kernel_rfl) ?_
              intro K hK
              clear hS
              go_simp
              refine hK.out _ _ ?_
              clear hK K
              have hM2 := Lib.hid (Mem.pick (is := [0, 2, 1, 3]) hM (by decide) rfl)
              clear hM
              cases q with | false => (go_wp2; go_roundw; (case rel => exact ⟨mm, bs, by omega, rfl, HO, hM2.out.tail.curMore (.there .here) (by have := HA2.out; have := HMM.out; omega)⟩); (case measure => simp [intOf]; have := HMM.out; omega)) | true => (have hmo := write_ok HQ.out HRV.out HCY.out HK1.out.2.1; have hga := new_some hM2.out HQ.out HRV.out; have HOK := Lib.hid (okBk_set (k := r) (b := ⟨a5, rv.length, c5, ys⟩) HO.out hmo.1 hmo.2 hga); clear hmo hga; have hcl := hM2.out.bookCell (.there .here) hrn; have hfe := (hM2.out.nstOw (.there .here)).free r; go_wp2; go_roundw; (case rel => exact ⟨mm, _, by omega, rfl, HOK, (Mem.nstPut (y := (⟨a5, rv.length, c5, ys⟩ : BookI)) hM2.out hrn trivial (set_one _ _ _ _)).curMore (.there .here) (by have := HA2.out; have := HMM.out; omega)⟩); (case measure => simp [intOf]; have := HMM.out; omega))
            · skip
              intro K hK
              go_simp
              refine (word_any HC.out hM .here (by omega)).mono ?_
              rintro e w3 ⟨s, hs, rfl, hm⟩
              have HWS := Lib.hid (show s.length ≤ maxLen by unfold maxLen; omega)
              clear hM hs
              have hM := hm
              clear hm
              try dsimp only at hM
              try dsimp only
              refine hK.out _ _ (hM.tail) ?_
              clear hK K hS
              have hS := hM.tail
              refine AtT.only (i := 4) (by kernel_rfl) rfl rfl ?_
              intro K hK
              have q1 := hM.bookCell (.there .here) hrn
              rw [HX1.out] at q1
              go_simp
              clear q1
              try dsimp only
              refine hK.out _ _ (hM.tail) ?_
              clear hK K hS
              have hS := hM.tail
              refine AtT.only (i := 8) (by kernel_rfl) rfl rfl ?_
              intro K hK
              go_simp
              have b1 := hM.bookRd (.there .here) hrn
              rw [HX1.out] at b1
              refine (specWriteNote_any (k : Int) g1 0 m1 e1 xs1 (r : Int) s _ hkI hrI HWS.out b1).mono ?_
              clear b1
              obtain ⟨q, hq⟩ : ∃ q, writeB (k : Int) (coreN xs1) (r : Int) s = q := ⟨_, rfl⟩
              obtain ⟨rv, hrv⟩ : ∃ rv, writeR (k : Int) (coreN xs1) (r : Int) s = rv := ⟨_, rfl⟩
              rw [hq, hrv]
              have HQ := Lib.hid hq; have HRV := Lib.hid hrv
              clear hq hrv
              rintro e w5 ⟨a5, c5, ys, hcy, rfl, hm⟩
              replace hM := hM.join hm
              have HCY := Lib.hid hcy
              clear hm hcy
              try dsimp only [List.cons_append, List.nil_append] at hM
              try dsimp only
              refine hK.out _ _ (hM.tail.tail) ?_
              clear hK K hS
              have hS := hM.tail.tail
              refine AtT.tk 9 ?_ 64 ?_ hS ?_
              rotate_left
              · (intro wS hSw; (try dsimp only at hSw); go_simp; (try rw [if_neg (by omega)]); try with_reducible rfl)
              simp only [Act.put, sA]
              refine AtT.tk 10 ?_ 74 ?_ hS ?_
              rotate_left
              · (intro wS hSw; (try dsimp only at hSw); go_simp; (try rw [if_neg (by omega)]); try with_reducible rfl)
              simp only [Act.put, sA]
              refine AtT.tk 11 ?_ 75 ?_ hS ?_
              rotate_left
              · (intro wS hSw; (try dsimp only at hSw); go_simp; (try rw [if_neg (by omega)]); try with_reducible rfl)
              simp only [Act.put, sA]
              refine AtT.tk 12 ?_ 12 ?_ hS ?_
              rotate_left
              · (intro wS hSw; (try dsimp only at hSw); go_simp; (try rw [if_neg (by omega)]); try with_reducible rfl)
              simp only [Act.put, sA]
              refine AtT.last (by kernel_rfl) rfl (by kernel_rfl) ?_
              intro K hK
              clear hS
              go_simp
              refine hK.out _ _ ?_
              clear hK K
              have hM2 := Lib.hid (Mem.pick (is := [0, 2, 1, 3]) hM (by decide) rfl)
              clear hM
              cases q with | false => (go_wp2; go_roundw; (case rel => exact ⟨mm, bs, by omega, rfl, HO, hM2.out.tail.curMore (.there .here) (by have := HA2.out; have := HMM.out; omega)⟩); (case measure => simp [intOf]; have := HMM.out; omega)) | true => (have hmo := write_ok HQ.out HRV.out HCY.out HK1.out.2.1; have hga := new_some hM2.out HQ.out HRV.out; have HOK := Lib.hid (okBk_set (k := r) (b := ⟨a5, rv.length, c5, ys⟩) HO.out hmo.1 hmo.2 hga); clear hmo hga; have hcl := hM2.out.bookCell (.there .here) hrn; have hfe := (hM2.out.nstOw (.there .here)).free r; go_wp2; go_roundw; (case rel => exact ⟨mm, _, by omega, rfl, HOK, (Mem.nstPut (y := (⟨a5, rv.length, c5, ys⟩ : BookI)) hM2.out hrn trivial (set_one _ _ _ _)).curMore (.there .here) (by have := HA2.out; have := HMM.out; omega)⟩); (case measure => simp [intOf]; have := HMM.out; omega))
        · obtain rfl : m = 0 := by omega
          have hA4 : A2 ≤ A + 80 := by have := HA2.out; omega
          clear hm HA2
          go_upto_region 18 with fail
          apply Mem.atWpA
          · exact memA
          clear hM
          intro wst hM
          (try simp only [World.size_alloc, World.size_setCell, World.heap_drewN, heapDrew, Nat.add_assoc, Nat.reduceAdd, sA, List.cons_append, List.nil_append] at hM)
          replace hM := hM.pick (is := [1, 0, 2]) (by decide) rfl
          dsimp only [List.filterMap_cons, List.filterMap_nil, List.getElem?_cons_zero, List.getElem?_cons_succ] at hM
          go_cut [14, 15] (fun s t wx => ∃ x1 x2 : BookI, s = .slice x1.ad x1.n x1.c ∧ t = .slice x2.ad x2.n x2.c ∧ Hid (x1 ∈ bs ∧ x2 ∈ bs) ∧ Mem w0.heap.size w0 wx [bookE (some ⟨gb, 0, none⟩) k cb bs, curE g ac nc cc (A2 + 4), packE R])
          case first => as_aux_lemma =>
            refine AtT.startA hM.tail hM 13 (by kernel_rfl) ?_
            clear hM
            intro wd hM
            have hS := hM.tail
            refine AtT.tk 0 ?_ 81 ?_ hS ?_
            rotate_left
            · (intro wS hSw; (try dsimp only at hSw); go_simp; (try rw [if_neg (by omega)]); try with_reducible rfl)
            simp only [Act.put, sA]
            refine AtT.tk 1 ?_ 82 ?_ hS ?_
            rotate_left
            · (intro wS hSw; (try dsimp only at hSw); go_simp; (try rw [if_neg (by omega)]); try with_reducible rfl)
            simp only [Act.put, sA]
            refine AtT.tk 2 ?_ 83 ?_ hS ?_
            rotate_left
            · (intro wS hSw; (try dsimp only at hSw); go_simp; (try rw [if_neg (by omega)]); try with_reducible rfl)
            simp only [Act.put, sA]
            refine AtT.tk 6 ?_ 87 ?_ hS ?_
            rotate_left
            · (intro wS hSw; (try dsimp only at hSw); go_simp; (try rw [if_neg (by omega)]); try with_reducible rfl)
            simp only [Act.put, sA]
            refine AtT.tk 7 ?_ 88 ?_ hS ?_
            rotate_left
            · (intro wS hSw; (try dsimp only at hSw); go_simp; (try rw [if_neg (by omega)]); try with_reducible rfl)
            simp only [Act.put, sA]
            refine AtT.tk 8 ?_ 89 ?_ hS ?_
            rotate_left
            · (intro wS hSw; (try dsimp only at hSw); go_simp; (try rw [if_neg (by omega)]); try with_reducible rfl)
            simp only [Act.put, sA]
            refine AtT.only (i := 3) (by kernel_rfl) rfl rfl ?_
            intro K hK
            go_simp
            refine (pick_any (k : Int) HC.out hM .here (by omega)).mono ?_
            rintro e w3 ⟨r1, hr1, hr3, rfl, hm⟩
            have hrk1 := pick_lt hr1 (by omega)
            have hrn1 : r1 < k := by omega
            have r10 : (0 : Int) ≤ (r1 : Int) := by omega
            obtain ⟨⟨d1, m1, e1, xs1⟩, hx1⟩ : ∃ x, bs.getD r1 BookI.zero = x := ⟨_, rfl⟩
            have HI1 := Lib.hid (show (⟨d1, m1, e1, xs1⟩ : BookI) ∈ bs by rw [← hx1]; exact getD_memO (by rw [HBL.out]; exact hrn1))
            have HX1 := Lib.hid hx1
            clear hx1 hr1 hr3 hM
            have hM := hm
            clear hm
            try dsimp only at hM
            try dsimp only
            refine hK.out _ _ (hM.tail) ?_
            clear hK K hS
            have hS := hM.tail
            refine AtT.tk 4 ?_ 85 ?_ hS ?_
            rotate_left
            · (intro wS hSw; (try dsimp only at hSw); go_simp; (try rw [if_neg (by omega)]); try with_reducible rfl)
            simp only [Act.put, sA]
            refine AtT.two (i := 5) (j := 9) (by kernel_rfl) rfl rfl rfl rfl ?_ ?_
            · skip
              intro K hK
              have q1 := hM.bookCell (.there .here) hrn1
              rw [HX1.out] at q1
              go_simp
              clear q1
              try dsimp only
              refine hK.out _ _ (hM.tail) ?_
              clear hK K hS
              have hS := hM.tail
              refine AtT.only (i := 9) (by kernel_rfl) rfl rfl ?_
              intro K hK
              go_simp
              refine (pick_any (k : Int) HC.out hM .here (by omega)).mono ?_
              rintro e w4 ⟨r2, hr2, hr3, rfl, hm⟩
              have hrk2 := pick_lt hr2 (by omega)
              have hrn2 : r2 < k := by omega
              have r20 : (0 : Int) ≤ (r2 : Int) := by omega
              obtain ⟨⟨d2, m2, e2, xs2⟩, hx2⟩ : ∃ x, bs.getD r2 BookI.zero = x := ⟨_, rfl⟩
              have HI2 := Lib.hid (show (⟨d2, m2, e2, xs2⟩ : BookI) ∈ bs by rw [← hx2]; exact getD_memO (by rw [HBL.out]; exact hrn2))
              have HX2 := Lib.hid hx2
              clear hx2 hr2 hr3 hM
              have hM := hm
              clear hm
              try dsimp only at hM
              try dsimp only
              refine hK.out _ _ (hM.tail) ?_
              clear hK K hS
              have hS := hM.tail
              refine AtT.tk 10 ?_ 91 ?_ hS ?_
              rotate_left
              · (intro wS hSw; (try dsimp only at hSw); go_simp; (try rw [if_neg (by omega)]); try with_reducible rfl)
              simp only [Act.put, sA]
              refine AtT.tk 12 ?_ 14 ?_ hS ?_
              rotate_left
              · (intro wS hSw; (try dsimp only at hSw); go_simp; (try rw [if_neg (by omega)]); try with_reducible rfl)
              simp only [Act.put, sA]
              refine AtT.only (i := 11) (by kernel_rfl) rfl rfl ?_
              intro K hK
              have q1 := hM.bookCell (.there .here) hrn2
              rw [HX2.out] at q1
              go_simp
              clear q1
              try dsimp only
              refine hK.out _ _ (hM.tail) ?_
              clear hK K hS
              have hS := hM.tail
              refine AtT.last (by kernel_rfl) rfl (by kernel_rfl) ?_
              intro K hK
              clear hS
              go_simp
              refine hK.out _ _ ?_
              clear hK K
              have hM2 := Lib.hid (Mem.pick (is := [1, 0, 2]) hM (by decide) rfl)
              clear hM
              go_wp2_with fail
              go_meet
              exact ⟨⟨d1, m1, e1, xs1⟩, ⟨d2, m2, e2, xs2⟩, rfl, rfl, Lib.hid ⟨HI1.out, HI2.out⟩, hM2.out.curMore (.there .here) (by omega)⟩
            · skip
              intro K hK
              go_simp
              refine (pick_any (k : Int) HC.out hM .here (by omega)).mono ?_
              rintro e w4 ⟨r2, hr2, hr3, rfl, hm⟩
              have hrk2 := pick_lt hr2 (by omega)
              have hrn2 : r2 < k := by omega
              have r20 : (0 : Int) ≤ (r2 : Int) := by omega
              obtain ⟨⟨d2, m2, e2, xs2⟩, hx2⟩ : ∃ x, bs.getD r2 BookI.zero = x := ⟨_, rfl⟩
              have HI2 := Lib.hid (show (⟨d2, m2, e2, xs2⟩ : BookI) ∈ bs by rw [← hx2]; exact getD_memO (by rw [HBL.out]; exact hrn2))
              have HX2 := Lib.hid hx2
              clear hx2 hr2 hr3 hM
              have hM := hm
              clear hm
              try dsimp only at hM
              try dsimp only
              refine hK.out _ _ (hM.tail) ?_
              clear hK K hS
              have hS := hM.tail
              refine AtT.tk 10 ?_ 91 ?_ hS ?_
              rotate_left
              · (intro wS hSw; (try dsimp only at hSw); go_simp; (try rw [if_neg (by omega)]); try with_reducible rfl)
              simp only [Act.put, sA]
              refine AtT.two (i := 5) (j := 11) (by kernel_rfl) rfl rfl rfl rfl ?_ ?_
              · skip
                intro K hK
                have q1 := hM.bookCell (.there .here) hrn1
                rw [HX1.out] at q1
                go_simp
                clear q1
                try dsimp only
                refine hK.out _ _ (hM.tail) ?_
                clear hK K hS
                have hS := hM.tail
                refine AtT.tk 12 ?_ 14 ?_ hS ?_
                rotate_left
                · (intro wS hSw; (try dsimp only at hSw); go_simp; (try rw [if_neg (by omega)]); try with_reducible rfl)
                simp only [Act.put, sA]
                refine AtT.only (i := 11) (by kernel_rfl) rfl rfl ?_
                intro K hK
                have q1 := hM.bookCell (.there .here) hrn2
                rw [HX2.out] at q1
                go_simp
                clear q1
                try dsimp only
                refine hK.out _ _ (hM.tail) ?_
                clear hK K hS
                have hS := hM.tail
                refine AtT.last (by kernel_rfl) rfl (by kernel_rfl) ?_
                intro K hK
                clear hS
                go_simp
                refine hK.out _ _ ?_
                clear hK K
                have hM2 := Lib.hid (Mem.pick (is := [1, 0, 2]) hM (by decide) rfl)
                clear hM
                go_wp2_with fail
                go_meet
                exact ⟨⟨d1, m1, e1, xs1⟩, ⟨d2, m2, e2, xs2⟩, rfl, rfl, Lib.hid ⟨HI1.out, HI2.out⟩, hM2.out.curMore (.there .here) (by omega)⟩
              · skip
                intro K hK
                have q1 := hM.bookCell (.there .here) hrn2
                rw [HX2.out] at q1
                go_simp
                clear q1
                try dsimp only
                refine hK.out _ _ (hM.tail) ?_
                clear hK K hS
                have hS := hM.tail
                refine AtT.only (i := 5) (by kernel_rfl) rfl rfl ?_
                intro K hK
                have q1 := hM.bookCell (.there .here) hrn1
                rw [HX1.out] at q1
                go_simp
                clear q1
                try dsimp only
                refine hK.out _ _ (hM.tail) ?_
                clear hK K hS
                have hS := hM.tail
                refine AtT.tk 12 ?_ 14 ?_ hS ?_
                rotate_left
                · (intro wS hSw; (try dsimp only at hSw); go_simp; (try rw [if_neg (by omega)]); try with_reducible rfl)
                simp only [Act.put, sA]
                refine AtT.last (by kernel_rfl) rfl (by kernel_rfl) ?_
                intro K hK
                clear hS
                go_simp
                refine hK.out _ _ ?_
                clear hK K
                have hM2 := Lib.hid (Mem.pick (is := [1, 0, 2]) hM (by decide) rfl)
                clear hM
                go_wp2_with fail
                go_meet
                exact ⟨⟨d1, m1, e1, xs1⟩, ⟨d2, m2, e2, xs2⟩, rfl, rfl, Lib.hid ⟨HI1.out, HI2.out⟩, hM2.out.curMore (.there .here) (by omega)⟩
          case rest => as_aux_lemma =>
            clear hM HBL
            obtain ⟨⟨d1, m1, e1, xs1⟩, ⟨d2, m2, e2, xs2⟩, rfl, rfl, HI, hM⟩ := hcut
            dsimp only at hM ⊢
            go_wp2_with fail
            apply Mem.atA
            · exact memA
            clear hM
            intro wst hM
            (try simp only [World.size_alloc, World.size_setCell, World.heap_drewN, heapDrew, Nat.add_assoc, Nat.reduceAdd, sA, List.cons_append, List.nil_append] at hM)
            (first | refine (pick_any 16 HC.out hM (.there .here) (by omega)).mono ?_)
            rintro e wc5 ⟨r, hr, hr2, rfl, hm⟩
            clear hM
            have hM := hm
            clear hm
            try dsimp only at hM
            clear hr
            have HK1 := Lib.hid (HO.out _ HI.out.1)
            have HK2 := Lib.hid (HO.out _ HI.out.2)
            have HZ := Lib.hid (show fewM (coreN xs2) [] ∧ xs2.length ≤ 12 from ⟨comp_few HK2.out.2.1, by have := book_len HK2.out.1; rw [coreN_len] at this; exact this⟩)
            have HL1 := Lib.hid (show xs1.length ≤ 12 by have := book_len HK1.out.1; rw [coreN_len] at this; exact this)
            have HRD := Lib.hid (fun (B : Nat) (w : World) (h : (bookE (some ⟨gb, 0, none⟩) k cb bs).hold B w) => (⟨book_hold h HI.out.1, book_hold h HI.out.2⟩ : RdN w d1 m1 e1 xs1 ∧ RdN w d2 m2 e2 xs2))
            obtain ⟨g1, hg1⟩ := HK1.out.2.2
            dsimp only at hg1
            subst hg1
            by_cases c0 : r = 0
            · subst c0
              go_wp2_with fail
              apply Mem.atA
              · exact memA
              clear hM
              intro wst hM
              (try simp only [World.size_alloc, World.size_setCell, World.heap_drewN, heapDrew, Nat.add_assoc, Nat.reduceAdd, sA, List.cons_append, List.nil_append] at hM)
              (first | refine (among_any [1, 5, (k : Int)] HC.out hM (.there (.there .here)) (fun _ => .here) rfl (by simp) (Nat.le_refl _) (by omega) (by simp)).mono ?_)
              rintro e wc6 ⟨x, hx, rfl, hm⟩
              clear hM
              have hM := hm
              clear hm
              try dsimp only at hM
              have hx10 : -10 ≤ x ∧ x ≤ 10 := by simp at hx; omega
              clear hx
              go_wp2
              go_ret3
              refine ⟨x, g1, 0, m1, e1, xs1, d2, m2, e2, xs2, [bookE (some ⟨gb, 0, none⟩) k cb bs], ⟨hx10, fun _ => ⟨[], by simp, comp_few HK1.out.2.1⟩, HZ.out.1, HL1.out, HZ.out.2⟩, fun B w h => HRD.out B w (h.1 _ (List.mem_cons_self ..)), rfl, ?_⟩
              exact (HR.out.out1 (Mem.packAt (X := []) (G := [bookE (some ⟨gb, 0, none⟩) k cb bs]) hM.tail)).curMore (.there (HP.out.again _)) (by omega)
            have hkI10 : -10 ≤ (k : Int) ∧ (k : Int) ≤ 10 := by omega
            have HML := Lib.hid (show xs1.length = m1 from (HRD.out _ _ (hM.ents _ In.here.mem)).1.rd.len)
            have HCP := Lib.hid (HRD.out _ _ (hM.ents _ In.here.mem)).1.rd.cap
            have HCM := Lib.hid (HRD.out _ _ (hM.ents _ In.here.mem)).1.rd.capm
            have HFULL := Lib.hid (show NbOk (k : Int) xs1 xs2 from ⟨hkI10, fun _ => ⟨[], by simp, comp_few HK1.out.2.1⟩, HZ.out.1, HL1.out, HZ.out.2⟩)
            have HFIN := Lib.hid (fun (w' : World) (hM : Mem w0.heap.size w0 w' [bookE (some ⟨gb, 0, none⟩) k cb bs, curE g ac nc cc (A2 + 4 + 2), packE R]) => (HR.out.out1 (Mem.packAt (X := []) (G := [bookE (some ⟨gb, 0, none⟩) k cb bs]) hM)).curMore (A' := A + 200) (.there (HP.out.again _)) (by omega))
            by_cases c1 : r = 1
            · subst c1
              clear c0
              by_cases hm0' : m1 = 0
              · subst hm0'
                go_wp2
                go_ret3
                exact ⟨(k : Int), g1, 0, _, _, xs1, d2, m2, e2, xs2, _, HFULL.out, fun B w h => HRD.out B w (h.1 _ (List.mem_cons_self ..)), rfl, HFIN.out _ hM⟩
              · have m1p : 1 ≤ m1 := by omega
                have hcc := HCP.out
                have hmr : m1 ≤ 12 := by rw [← HML.out]; exact HL1.out
                have HD1 := Lib.hid (few_drop1 HK1.out.2.1 (by rw [HML.out]; exact m1p))
                have HL2 := Lib.hid (show (xs1.drop 1).length ≤ 12 by rw [List.length_drop]; have := HL1.out; omega)
                by_cases hm1 : m1 = 1
                · subst hm1
                  have hdr : xs1.drop 1 = [] := List.drop_eq_nil_of_le (by rw [HML.out]; exact Nat.le_refl _)
                  rw [hdr] at HD1 HL2
                  clear hdr
                  by_cases he : e1 = 1
                  · subst he
                    go_wp2_with (at_builtin; go_loud (apply Mem.atL; (focus ((repeat' (first | with_reducible exact hM | with_reducible exact hMp | with_reducible apply Mem.drew | with_reducible apply Mem.drewN | with_reducible apply Mem.alloc | with_reducible apply Mem.set | with_reducible exact Sto.row | ((with_reducible refine Sto.rowEq2 ?_ ?_); omega; rfl) | ((with_reducible refine Sto.rowEq ?_); omega) | with_reducible apply Sto.int | with_reducible apply Sto.there | with_reducible assumption | (unfold I64; omega) | (with_reducible (have hMx := Mem.undrew hM; exact hMx)) | (with_reducible (have hMx := Mem.undrew hMp; exact hMx)))); done)); clear hM; intro hM; (try simp only [World.size_alloc, World.size_setCell, World.heap_drewN, heapDrew, Nat.add_assoc, Nat.reduceAdd, sA, List.cons_append, List.nil_append] at hM); refine wpList_app0 rfl _ _ _ _ j0 Tryz.underlying24 hj rfl _ 0 0 (Nat.le_refl _) rfl _ _ rfl ?_))
                    go_wp2
                    go_ret3
                    refine ⟨(k : Int), _, 0, 0, 0, [], d2, m2, e2, xs2, [owE FNote 40 _ 0 0 [], bookE (some ⟨gb, 0, none⟩) k cb bs], ⟨hkI10, fun _ => HD1.out, HZ.out.1, HL2.out, HZ.out.2⟩, fun B w h => ⟨⟨(show Ow FNote 40 B w _ 0 0 [] from h.1 _ (List.mem_cons_self ..)).rd, fun x hx => by cases hx⟩, (HRD.out B w (h.1 _ (List.mem_cons_of_mem _ (List.mem_cons_self ..)))).2⟩, rfl, ?_⟩
                    exact (HR.out.out1 (Mem.packAt (X := []) (G := [owE FNote 40 _ 0 0 [], bookE (some ⟨gb, 0, none⟩) k cb bs]) (Mem.toOwR hM))).curMore (A' := A + 200) (.there (HP.out.again _)) (by omega)
                  · go_wp2_with (at_builtin; go_loud (apply Mem.atL; (focus ((repeat' (first | with_reducible exact hM | with_reducible exact hMp | with_reducible apply Mem.drew | with_reducible apply Mem.drewN | with_reducible apply Mem.alloc | with_reducible apply Mem.set | with_reducible exact Sto.row | ((with_reducible refine Sto.rowEq2 ?_ ?_); omega; rfl) | ((with_reducible refine Sto.rowEq ?_); omega) | with_reducible apply Sto.int | with_reducible apply Sto.there | with_reducible assumption | (unfold I64; omega) | (with_reducible (have hMx := Mem.undrew hM; exact hMx)) | (with_reducible (have hMx := Mem.undrew hMp; exact hMx)))); done)); clear hM; intro hM; (try simp only [World.size_alloc, World.size_setCell, World.heap_drewN, heapDrew, Nat.add_assoc, Nat.reduceAdd, sA, List.cons_append, List.nil_append] at hM); refine wpList_app0 rfl _ _ _ _ j0 Tryz.underlying24 hj rfl _ 0 0 (Nat.le_refl _) rfl _ _ rfl ?_))
                    go_wp2
                    go_ret3
                    refine ⟨(k : Int), _, 0, 0, 0, [], d2, m2, e2, xs2, [owE FNote 40 _ 0 0 [], bookE (some ⟨gb, 0, none⟩) k cb bs], ⟨hkI10, fun _ => HD1.out, HZ.out.1, HL2.out, HZ.out.2⟩, fun B w h => ⟨⟨(show Ow FNote 40 B w _ 0 0 [] from h.1 _ (List.mem_cons_self ..)).rd, fun x hx => by cases hx⟩, (HRD.out B w (h.1 _ (List.mem_cons_of_mem _ (List.mem_cons_self ..)))).2⟩, rfl, ?_⟩
                    exact (HR.out.out1 (Mem.packAt (X := []) (G := [owE FNote 40 _ 0 0 [], bookE (some ⟨gb, 0, none⟩) k cb bs]) (Mem.toOwR hM))).curMore (A' := A + 200) (.there (HP.out.again _)) (by omega)
                · have he : ¬ e1 = 1 := by omega
                  go_wp2_with (at_builtin; go_loud (apply Mem.atL; (focus ((repeat' (first | with_reducible exact hM | with_reducible exact hMp | with_reducible apply Mem.drew | with_reducible apply Mem.drewN | with_reducible apply Mem.alloc | with_reducible apply Mem.set | with_reducible exact Sto.row | ((with_reducible refine Sto.rowEq2 ?_ ?_); omega; rfl) | ((with_reducible refine Sto.rowEq ?_); omega) | with_reducible apply Sto.int | with_reducible apply Sto.there | with_reducible assumption | (unfold I64; omega) | (with_reducible (have hMx := Mem.undrew hM; exact hMx)) | (with_reducible (have hMx := Mem.undrew hMp; exact hMx)))); done)); clear hM; intro hM; (try simp only [World.size_alloc, World.size_setCell, World.heap_drewN, heapDrew, Nat.add_assoc, Nat.reduceAdd, sA, List.cons_append, List.nil_append] at hM); refine wpList_appRM (F := FNote) (Mem.toOwR hM) (fun _ => .here) ((HRD.out _ _ (hM.ents _ (In.there .here).mem)).1.dropN (k := 1) m1p).rd (by show (0 + (m1 - 1)) * 4 ≤ _; omega) j0 (.agg #[.int .i64 0, .int .i64 0, .slice none 0 0, .string ⟨#[]⟩]) 56 hj hy0 hy1 hy2 rfl (by omega) rfl _ _ _ Tryz.underlying24 rfl rfl rfl ?_))
                  intro a7 c7 w7 hM
                  obtain ⟨g7, rfl, -⟩ := (hM.ow .here).head (by omega)
                  rw [List.drop_one] at HD1 HL2
                  go_wp2
                  go_ret3
                  refine ⟨(k : Int), g7, 0, _, c7, xs1.tail, d2, m2, e2, xs2, [owE FNote 40 (some ⟨g7, 0, none⟩) _ c7 xs1.tail, bookE (some ⟨gb, 0, none⟩) k cb bs], ⟨hkI10, fun _ => HD1.out, HZ.out.1, HL2.out, HZ.out.2⟩, fun B w h => ⟨⟨(show Ow FNote 40 B w (some ⟨g7, 0, none⟩) _ c7 xs1.tail from h.1 _ (List.mem_cons_self ..)).rd, fun x hx => (HRD.out B w (h.1 _ (List.mem_cons_of_mem _ (List.mem_cons_self ..)))).1.cl x (List.mem_of_mem_tail hx)⟩, (HRD.out B w (h.1 _ (List.mem_cons_of_mem _ (List.mem_cons_self ..)))).2⟩, rfl, ?_⟩
                  have h8 := HR.out.out1 (Mem.packAt (X := []) (G := [owE FNote 40 (some ⟨g7, 0, none⟩) _ c7 xs1.tail, bookE (some ⟨gb, 0, none⟩) k cb bs]) hM)
                  exact h8.curMore (A' := A + 200) (.there (HP.out.again _)) (by omega)
            by_cases c2 : r = 2
            · subst c2
              clear c0 c1
              by_cases hm0' : m1 = 0
              · subst hm0'
                go_wp2
                go_ret3
                exact ⟨(k : Int), g1, 0, _, _, xs1, d2, m2, e2, xs2, _, HFULL.out, fun B w h => HRD.out B w (h.1 _ (List.mem_cons_self ..)), rfl, HFIN.out _ hM⟩
              · obtain ⟨q, hq⟩ : ∃ q, m1 - 1 = q := ⟨_, rfl⟩
                have hwq : IntKind.i64.wrap ((m1 : Int) - 1) = (q : Int) := by have := HML.out; have := HL1.out; rw [wrap_in (by omega)]; omega
                have hqm : q < m1 := by omega
                have hmr : m1 ≤ 12 := by rw [← HML.out]; exact HL1.out
                have HMQ := Lib.hid (show m1 = q + 1 by omega)
                clear hq hm0'
                have hcl := ((HRD.out _ _ (hM.ents _ In.here.mem)).1.rd.cellNote hqm).2
                have hwf := (HRD.out _ _ (hM.ents _ In.here.mem)).1.rd.wf _ (getD_memO (d := NoteI.zero) (xs := xs1) (k := q) (by rw [HML.out]; exact hqm))
                obtain ⟨x, hx⟩ : ∃ x, xs1.getD q NoteI.zero = x := ⟨_, rfl⟩
                rw [hx] at hcl hwf
                have hct := core_take (by rw [HML.out, HMQ.out]) hx
                have hxm : x ∈ xs1 := by rw [← hx]; exact getD_memO (by rw [HML.out]; exact hqm)
                obtain ⟨xu, xq, xa, xn, xc, xl, xw⟩ := x
                have HXM := Lib.hid hxm; have HCT := Lib.hid hct; have HWF := Lib.hid hwf
                clear hx hxm hct hwf
                rw [Nat.zero_add] at hcl
                obtain ⟨x0, x1, x2, x3⟩ := hcl
                dsimp only at x0 x1 x2 x3
                have q0 : (0 : Int) ≤ (q : Int) := by omega
                have q1 : (q : Int) < (m1 : Int) := by omega
                go_upto_region 29 with fail
                apply Mem.atWpA
                · exact memA
                clear hM
                intro wst hM
                (try simp only [World.size_alloc, World.size_setCell, World.heap_drewN, heapDrew, Nat.add_assoc, Nat.reduceAdd, sA, List.cons_append, List.nil_append] at hM)
                clear x0 x1 x2 x3
                generalize wc5.heap.size = bx at hM ⊢
                obtain ⟨k0, f0, l0⟩ := hM.row .here
                go_wp2_with fail
                clear k0 f0 l0
                apply Mem.atA
                · exact memA
                clear hM
                intro wst hM
                (try simp only [World.size_alloc, World.size_setCell, World.heap_drewN, heapDrew, Nat.add_assoc, Nat.reduceAdd, sA, List.cons_append, List.nil_append] at hM)
                (first | refine (of_any [⟨#[111, 116, 104, 101, 114]⟩, ⟨#[]⟩, ⟨#[87, 111, 114, 100]⟩] HC.out hM (.there (.there (.there .here))) (fun _ => .here) rfl (by decide) (by decide) (by omega) (by decide)).mono ?_)
                rintro e wc7 ⟨sw, hsw, rfl, hm⟩
                clear hM
                have hM := hm
                clear hm
                try dsimp only at hM
                obtain ⟨s, rfl, hs⟩ := small_word (by decide) hsw
                clear hsw
                obtain ⟨k1, f1, l1⟩ := hM.row (.there .here)
                go_upto_region 30 with fail
                apply Mem.atWpA
                · exact memA
                clear hM
                intro wst hM
                (try simp only [World.size_alloc, World.size_setCell, World.heap_drewN, heapDrew, Nat.add_assoc, Nat.reduceAdd, sA, List.cons_append, List.nil_append] at hM)
                replace hM := hM.pick (is := [1, 2, 3, 4]) (by decide) rfl
                dsimp only [List.filterMap_cons, List.filterMap_nil, List.getElem?_cons_zero, List.getElem?_cons_succ] at hM
                have HWX := Lib.hid (show FNote.wf (⟨xu, xq, xa, xn, xc, xl, s⟩ : NoteI) from ⟨HWF.out.1, HWF.out.2.1, by show s.length ≤ maxLen; unfold maxLen; omega⟩)
                have hcc := HCP.out
                have hqc : q ≤ e1 := by omega
                have q2 : (q : Int) ≤ (m1 : Int) := by omega
                have q3 : (q : Int) ≤ (e1 : Int) := by omega
                refine AtT.startA hM hM 9 (by kernel_rfl) ?_
                clear hM
                intro wd hM
                have hS := hM
                refine AtT.tk 1 ?_ 126 ?_ hS ?_
                rotate_left
                · (intro wS hSw; (try dsimp only at hSw); go_simp; (try rw [if_neg (by omega)]); try with_reducible rfl)
                simp only [Act.put, sA]
                refine AtT.tk 2 ?_ 127 ?_ hS ?_
                rotate_left
                · (intro wS hSw; (try dsimp only at hSw); go_simp; (try rw [if_neg (by omega)]); try with_reducible rfl)
                simp only [Act.put, sA]
                refine AtT.tk 3 ?_ 128 ?_ hS ?_
                rotate_left
                · (intro wS hSw; (try dsimp only at hSw); go_simp; (try rw [if_neg (by omega)]); try with_reducible rfl)
                simp only [Act.put, sA]
                refine AtT.tk 4 ?_ 129 ?_ hS ?_
                rotate_left
                · (intro wS hSw; (try dsimp only at hSw); have kr0 := (Mem.row hSw .here).cell; go_simp; (try rw [if_neg (by omega)]); try with_reducible rfl)
                simp only [Act.put, sA]
                refine AtT.tk 6 ?_ 131 ?_ hS ?_
                rotate_left
                · (intro wS hSw; (try dsimp only at hSw); have kr0 := (Mem.row hSw .here).cell; go_simp; (try rw [if_neg (by omega)]); try with_reducible rfl)
                simp only [Act.put, sA]
                refine AtT.two (i := 0) (j := 7) (by kernel_rfl) rfl rfl rfl rfl ?_ ?_
                · skip
                  intro K hK
                  go_simp
                  refine hK.out _ _ (by apply Mem.tail; (exact memA)) ?_
                  clear hK K hS
                  have hMp := hM
                  apply Mem.atT
                  · exact memA
                  clear hM
                  intro hM
                  (try simp only [World.size_alloc, World.size_setCell, World.heap_drewN, heapDrew, Nat.add_assoc, Nat.reduceAdd, sA, List.cons_append, List.nil_append] at hM)
                  have hS := hM.tail
                  refine AtT.two (i := 5) (j := 7) (by kernel_rfl) rfl rfl rfl rfl ?_ ?_
                  · skip
                    intro K hK
                    refine step_appRM (F := FNote) (Mem.toOwN hM .here) (fun _ => .here) ((HRD.out _ _ (hM.ents _ (show In _ (bookE (some ⟨gb, 0, none⟩) k cb bs) from (.there (.there .here))).mem)).1.rd.takeO (k := q) (by omega)) (by show (0 + q) * 4 ≤ _; omega) j0 (.agg #[.int .i64 0, .int .i64 0, .slice none 0 0, .string ⟨#[]⟩]) 56 hj hy0 hy1 hy2 rfl (by omega) rfl _ _ _ Tryz.underlying24 rfl rfl rfl ?_
                    clear hM
                    intro a6 c6 w6 hM
                    simp only [Nat.zero_add, List.nil_append] at hM ⊢
                    try dsimp only
                    refine hK.out _ _ (hM.tail) ?_
                    clear hK K hS
                    have hS := hM.tail
                    refine AtT.only (i := 7) (by kernel_rfl) rfl rfl ?_
                    intro K hK
                    go_simp
                    refine hK.out _ _ (by apply Mem.tail; apply Mem.tail; (exact memA)) ?_
                    clear hK K hS
                    have hMp := hM
                    apply Mem.atT
                    · exact memA
                    clear hM
                    intro hM
                    (try simp only [World.size_alloc, World.size_setCell, World.heap_drewN, heapDrew, Nat.add_assoc, Nat.reduceAdd, sA, List.cons_append, List.nil_append] at hM)
                    have hS := hM.tail.tail
                    refine AtT.only (i := 8) (by kernel_rfl) rfl rfl ?_
                    intro K hK
                    refine step_appRM (F := FNote) hM (fun _ => (.there .here)) (hM.oneRec (⟨xu, xq, xa, xn, xc, xl, s⟩ : NoteI) .here rfl HWX.out (by decide)) (by show (q + 1) * 4 ≤ _; omega) j0 (.agg #[.int .i64 0, .int .i64 0, .slice none 0 0, .string ⟨#[]⟩]) 56 hj hy0 hy1 hy2 rfl (by omega) rfl _ _ _ Tryz.underlying24 rfl rfl rfl ?_
                    clear hM
                    intro a7 c7 w7 hM
                    obtain ⟨g7, rfl, -⟩ := (hM.ow (.there .here)).head (by omega)
                    try dsimp only
                    refine hK.out _ _ (hM.tail.tail) ?_
                    clear hK K hS
                    have hS := hM.tail.tail
                    refine AtT.last (by kernel_rfl) rfl (by kernel_rfl) ?_
                    intro K hK
                    clear hS
                    go_simp
                    refine hK.out _ _ ?_
                    clear hK K
                    have hM9 := Lib.hid (Mem.pick (is := [1, 3, 4, 5]) hM (by decide) rfl)
                    clear hM
                    go_wp2
                    go_ret3
                    refine ⟨(k : Int), g7, 0, _, c7, xs1.take q ++ [(⟨xu, xq, xa, xn, xc, xl, s⟩ : NoteI)], d2, m2, e2, xs2, [owE FNote 40 (some ⟨g7, 0, none⟩) (q + 1) c7 (xs1.take q ++ [(⟨xu, xq, xa, xn, xc, xl, s⟩ : NoteI)]), bookE (some ⟨gb, 0, none⟩) k cb bs], ⟨hkI10, fun _ => ⟨[], by simp, few_last1 HCT.out HK1.out.2.1⟩, HZ.out.1, last_len HML.out hmr hqm, HZ.out.2⟩, fun B w h => ⟨⟨(show Ow FNote 40 B w (some ⟨g7, 0, none⟩) (q + 1) c7 (xs1.take q ++ [(⟨xu, xq, xa, xn, xc, xl, s⟩ : NoteI)]) from h.1 _ (List.mem_cons_self ..)).rd, last_cl (HRD.out B w (h.1 _ (List.mem_cons_of_mem _ (List.mem_cons_self ..)))).1 HXM.out⟩, (HRD.out B w (h.1 _ (List.mem_cons_of_mem _ (List.mem_cons_self ..)))).2⟩, rfl, ?_⟩
                    have h8 := HR.out.out1 (Mem.packAt (X := []) (G := [owE FNote 40 (some ⟨g7, 0, none⟩) (q + 1) c7 (xs1.take q ++ [(⟨xu, xq, xa, xn, xc, xl, s⟩ : NoteI)]), bookE (some ⟨gb, 0, none⟩) k cb bs]) hM9.out)
                    exact h8.curMore (A' := A + 200) (.there (HP.out.again _)) (by omega)
                  · skip
                    intro K hK
                    go_simp
                    refine hK.out _ _ (by apply Mem.tail; apply Mem.tail; (exact memA)) ?_
                    clear hK K hS
                    have hMp := hM
                    apply Mem.atT
                    · exact memA
                    clear hM
                    intro hM
                    (try simp only [World.size_alloc, World.size_setCell, World.heap_drewN, heapDrew, Nat.add_assoc, Nat.reduceAdd, sA, List.cons_append, List.nil_append] at hM)
                    have hS := hM.tail.tail
                    refine AtT.only (i := 5) (by kernel_rfl) rfl rfl ?_
                    intro K hK
                    refine step_appRM (F := FNote) (Mem.toOwN hM (.there .here)) (fun _ => (.there .here)) ((HRD.out _ _ (hM.ents _ (show In _ (bookE (some ⟨gb, 0, none⟩) k cb bs) from (.there (.there (.there .here)))).mem)).1.rd.takeO (k := q) (by omega)) (by show (0 + q) * 4 ≤ _; omega) j0 (.agg #[.int .i64 0, .int .i64 0, .slice none 0 0, .string ⟨#[]⟩]) 56 hj hy0 hy1 hy2 rfl (by omega) rfl _ _ _ Tryz.underlying24 rfl rfl rfl ?_
                    clear hM
                    intro a6 c6 w6 hM
                    simp only [Nat.zero_add, List.nil_append] at hM ⊢
                    try dsimp only
                    refine hK.out _ _ (hM.tail.tail) ?_
                    clear hK K hS
                    have hS := hM.tail.tail
                    refine AtT.only (i := 8) (by kernel_rfl) rfl rfl ?_
                    intro K hK
                    refine step_appRM (F := FNote) hM (fun _ => (.there .here)) (hM.oneRec (⟨xu, xq, xa, xn, xc, xl, s⟩ : NoteI) .here rfl HWX.out (by decide)) (by show (q + 1) * 4 ≤ _; omega) j0 (.agg #[.int .i64 0, .int .i64 0, .slice none 0 0, .string ⟨#[]⟩]) 56 hj hy0 hy1 hy2 rfl (by omega) rfl _ _ _ Tryz.underlying24 rfl rfl rfl ?_
                    clear hM
                    intro a7 c7 w7 hM
                    obtain ⟨g7, rfl, -⟩ := (hM.ow (.there .here)).head (by omega)
                    try dsimp only
                    refine hK.out _ _ (hM.tail.tail) ?_
                    clear hK K hS
                    have hS := hM.tail.tail
                    refine AtT.last (by kernel_rfl) rfl (by kernel_rfl) ?_
                    intro K hK
                    clear hS
                    go_simp
                    refine hK.out _ _ ?_
                    clear hK K
                    have hM9 := Lib.hid (Mem.pick (is := [1, 3, 4, 5]) hM (by decide) rfl)
                    clear hM
                    go_wp2
                    go_ret3
                    refine ⟨(k : Int), g7, 0, _, c7, xs1.take q ++ [(⟨xu, xq, xa, xn, xc, xl, s⟩ : NoteI)], d2, m2, e2, xs2, [owE FNote 40 (some ⟨g7, 0, none⟩) (q + 1) c7 (xs1.take q ++ [(⟨xu, xq, xa, xn, xc, xl, s⟩ : NoteI)]), bookE (some ⟨gb, 0, none⟩) k cb bs], ⟨hkI10, fun _ => ⟨[], by simp, few_last1 HCT.out HK1.out.2.1⟩, HZ.out.1, last_len HML.out hmr hqm, HZ.out.2⟩, fun B w h => ⟨⟨(show Ow FNote 40 B w (some ⟨g7, 0, none⟩) (q + 1) c7 (xs1.take q ++ [(⟨xu, xq, xa, xn, xc, xl, s⟩ : NoteI)]) from h.1 _ (List.mem_cons_self ..)).rd, last_cl (HRD.out B w (h.1 _ (List.mem_cons_of_mem _ (List.mem_cons_self ..)))).1 HXM.out⟩, (HRD.out B w (h.1 _ (List.mem_cons_of_mem _ (List.mem_cons_self ..)))).2⟩, rfl, ?_⟩
                    have h8 := HR.out.out1 (Mem.packAt (X := []) (G := [owE FNote 40 (some ⟨g7, 0, none⟩) (q + 1) c7 (xs1.take q ++ [(⟨xu, xq, xa, xn, xc, xl, s⟩ : NoteI)]), bookE (some ⟨gb, 0, none⟩) k cb bs]) hM9.out)
                    exact h8.curMore (A' := A + 200) (.there (HP.out.again _)) (by omega)
                · skip
                  intro K hK
                  go_simp
                  refine hK.out _ _ (by apply Mem.tail; (exact memA)) ?_
                  clear hK K hS
                  have hMp := hM
                  apply Mem.atT
                  · exact memA
                  clear hM
                  intro hM
                  (try simp only [World.size_alloc, World.size_setCell, World.heap_drewN, heapDrew, Nat.add_assoc, Nat.reduceAdd, sA, List.cons_append, List.nil_append] at hM)
                  have hS := hM.tail
                  refine AtT.only (i := 0) (by kernel_rfl) rfl rfl ?_
                  intro K hK
                  go_simp
                  refine hK.out _ _ (by apply Mem.tail; apply Mem.tail; (exact memA)) ?_
                  clear hK K hS
                  have hMp := hM
                  apply Mem.atT
                  · exact memA
                  clear hM
                  intro hM
                  (try simp only [World.size_alloc, World.size_setCell, World.heap_drewN, heapDrew, Nat.add_assoc, Nat.reduceAdd, sA, List.cons_append, List.nil_append] at hM)
                  have hS := hM.tail.tail
                  refine AtT.only (i := 5) (by kernel_rfl) rfl rfl ?_
                  intro K hK
                  refine step_appRM (F := FNote) (Mem.toOwN hM .here) (fun _ => .here) ((HRD.out _ _ (hM.ents _ (show In _ (bookE (some ⟨gb, 0, none⟩) k cb bs) from (.there (.there (.there .here)))).mem)).1.rd.takeO (k := q) (by omega)) (by show (0 + q) * 4 ≤ _; omega) j0 (.agg #[.int .i64 0, .int .i64 0, .slice none 0 0, .string ⟨#[]⟩]) 56 hj hy0 hy1 hy2 rfl (by omega) rfl _ _ _ Tryz.underlying24 rfl rfl rfl ?_
                  clear hM
                  intro a6 c6 w6 hM
                  simp only [Nat.zero_add, List.nil_append] at hM ⊢
                  try dsimp only
                  refine hK.out _ _ (hM.tail.tail) ?_
                  clear hK K hS
                  have hS := hM.tail.tail
                  refine AtT.only (i := 8) (by kernel_rfl) rfl rfl ?_
                  intro K hK
                  refine step_appRM (F := FNote) hM (fun _ => .here) (hM.oneRec (⟨xu, xq, xa, xn, xc, xl, s⟩ : NoteI) (.there .here) rfl HWX.out (by decide)) (by show (q + 1) * 4 ≤ _; omega) j0 (.agg #[.int .i64 0, .int .i64 0, .slice none 0 0, .string ⟨#[]⟩]) 56 hj hy0 hy1 hy2 rfl (by omega) rfl _ _ _ Tryz.underlying24 rfl rfl rfl ?_
                  clear hM
                  intro a7 c7 w7 hM
                  obtain ⟨g7, rfl, -⟩ := (hM.ow .here).head (by omega)
                  try dsimp only
                  refine hK.out _ _ (hM.tail.tail) ?_
                  clear hK K hS
                  have hS := hM.tail.tail
                  refine AtT.last (by kernel_rfl) rfl (by kernel_rfl) ?_
                  intro K hK
                  clear hS
                  go_simp
                  refine hK.out _ _ ?_
                  clear hK K
                  have hM9 := Lib.hid (Mem.pick (is := [0, 3, 4, 5]) hM (by decide) rfl)
                  clear hM
                  go_wp2
                  go_ret3
                  refine ⟨(k : Int), g7, 0, _, c7, xs1.take q ++ [(⟨xu, xq, xa, xn, xc, xl, s⟩ : NoteI)], d2, m2, e2, xs2, [owE FNote 40 (some ⟨g7, 0, none⟩) (q + 1) c7 (xs1.take q ++ [(⟨xu, xq, xa, xn, xc, xl, s⟩ : NoteI)]), bookE (some ⟨gb, 0, none⟩) k cb bs], ⟨hkI10, fun _ => ⟨[], by simp, few_last1 HCT.out HK1.out.2.1⟩, HZ.out.1, last_len HML.out hmr hqm, HZ.out.2⟩, fun B w h => ⟨⟨(show Ow FNote 40 B w (some ⟨g7, 0, none⟩) (q + 1) c7 (xs1.take q ++ [(⟨xu, xq, xa, xn, xc, xl, s⟩ : NoteI)]) from h.1 _ (List.mem_cons_self ..)).rd, last_cl (HRD.out B w (h.1 _ (List.mem_cons_of_mem _ (List.mem_cons_self ..)))).1 HXM.out⟩, (HRD.out B w (h.1 _ (List.mem_cons_of_mem _ (List.mem_cons_self ..)))).2⟩, rfl, ?_⟩
                  have h8 := HR.out.out1 (Mem.packAt (X := []) (G := [owE FNote 40 (some ⟨g7, 0, none⟩) (q + 1) c7 (xs1.take q ++ [(⟨xu, xq, xa, xn, xc, xl, s⟩ : NoteI)]), bookE (some ⟨gb, 0, none⟩) k cb bs]) hM9.out)
                  exact h8.curMore (A' := A + 200) (.there (HP.out.again _)) (by omega)
            by_cases c3 : r = 3
            · subst c3
              clear c0 c1 c2
              by_cases hm0' : m1 = 0
              · subst hm0'
                go_wp2
                go_ret3
                exact ⟨(k : Int), g1, 0, _, _, xs1, d2, m2, e2, xs2, _, HFULL.out, fun B w h => HRD.out B w (h.1 _ (List.mem_cons_self ..)), rfl, HFIN.out _ hM⟩
              · obtain ⟨q, hq⟩ : ∃ q, m1 - 1 = q := ⟨_, rfl⟩
                have hwq : IntKind.i64.wrap ((m1 : Int) - 1) = (q : Int) := by have := HML.out; have := HL1.out; rw [wrap_in (by omega)]; omega
                have hqm : q < m1 := by omega
                have hmr : m1 ≤ 12 := by rw [← HML.out]; exact HL1.out
                have HMQ := Lib.hid (show m1 = q + 1 by omega)
                clear hq hm0'
                have hcl := ((HRD.out _ _ (hM.ents _ In.here.mem)).1.rd.cellNote hqm).2
                have hwf := (HRD.out _ _ (hM.ents _ In.here.mem)).1.rd.wf _ (getD_memO (d := NoteI.zero) (xs := xs1) (k := q) (by rw [HML.out]; exact hqm))
                have hnb := book_note HK1.out.1 (k := q) (by rw [coreN_len]; show q < xs1.length; rw [HML.out]; exact hqm)
                rw [coreN_getD] at hnb
                have hxi := (HRD.out _ _ (hM.ents _ In.here.mem)).1.get hqm
                dsimp only at hnb
                obtain ⟨x, hx⟩ : ∃ x, xs1.getD q NoteI.zero = x := ⟨_, rfl⟩
                rw [hx] at hcl hwf hnb hxi
                have hct := core_take (by rw [HML.out, HMQ.out]) hx
                have hxm : x ∈ xs1 := by rw [← hx]; exact getD_memO (by rw [HML.out]; exact hqm)
                obtain ⟨xu, xq, xa, xn, xc, xl, xw⟩ := x
                dsimp only at hxi
                have hxl := hxi.len
                have hxn : 0 < xn := by have h1 := (noteB_true hnb).1; have h2 : (xl.length : Int) = (k : Int) := h1; omega
                have HXM := Lib.hid hxm; have HCT := Lib.hid hct; have HWF := Lib.hid hwf; have HXL := Lib.hid hxl
                clear hx hxm hct hwf hnb hxi hxl
                rw [Nat.zero_add] at hcl
                obtain ⟨x0, x1, x2, x3⟩ := hcl
                dsimp only at x0 x1 x2 x3
                have q0 : (0 : Int) ≤ (q : Int) := by omega
                have q1 : (q : Int) < (m1 : Int) := by omega
                go_upto_region 35 with fail
                apply Mem.atWpA
                · exact memA
                clear hM
                intro wst hM
                (try simp only [World.size_alloc, World.size_setCell, World.heap_drewN, heapDrew, Nat.add_assoc, Nat.reduceAdd, sA, List.cons_append, List.nil_append] at hM)
                clear x0 x1 x2 x3
                generalize wc5.heap.size = bx at hM ⊢
                obtain ⟨k0, f0, l0⟩ := hM.row .here
                go_wp2_with fail
                clear k0 f0 l0
                apply Mem.atA
                · exact memA
                clear hM
                intro wst hM
                (try simp only [World.size_alloc, World.size_setCell, World.heap_drewN, heapDrew, Nat.add_assoc, Nat.reduceAdd, sA, List.cons_append, List.nil_append] at hM)
                refine (l1Own_any xa xn xc xl _ ((HRD.out _ _ (hM.ents _ (In.there .here).mem)).1.cl _ HXM.out)).mono ?_
                rintro e w7 ⟨a7, c7, rfl, hO, hb⟩
                replace hM := hM.own hb hO
                clear hb hO
                obtain ⟨gc, hgc, -⟩ := (hM.ints .here).head hxn
                subst hgc
                obtain ⟨k1, f1, l1⟩ := hM.row (.there .here)
                go_upto_region 36 with fail
                apply Mem.atWpA
                · exact memA
                clear hM
                intro wst hM
                (try simp only [World.size_alloc, World.size_setCell, World.heap_drewN, heapDrew, Nat.add_assoc, Nat.reduceAdd, sA, List.cons_append, List.nil_append] at hM)
                replace hM := hM.pick (is := [3, 0, 1, 2, 4]) (by decide) rfl
                dsimp only [List.filterMap_cons, List.filterMap_nil, List.getElem?_cons_zero, List.getElem?_cons_succ] at hM
                have hg0 : (0 : Nat) < xn := hxn
                have hg1 : (0 : Int) < (xn : Int) := by omega
                go_cut [] (fun wx => ∃ v : Int, v ∈ [(0 : Int), 3, -1, 13] ∧ Mem w0.heap.size w0 wx [rowE bx 40 #[.int .i64 xu, .int .i64 xq, .slice (some ⟨gc, 0, none⟩) xn c7, .string (bsA xw)], intE (some ⟨gc, 0, none⟩) xn c7 (xl.set 0 v), bookE (some ⟨gb, 0, none⟩) k cb bs, curE g ac nc cc (A2 + 8), packE R])
                case first =>
                  refine AtT.startA hM.tail hM 6 (by kernel_rfl) ?_
                  clear hM
                  intro wd hM
                  have hS := hM.tail
                  refine AtT.tk 0 ?_ 149 ?_ hS ?_
                  rotate_left
                  · (intro wS hSw; (try dsimp only at hSw); go_simp; (try rw [if_neg (by omega)]); try with_reducible rfl)
                  simp only [Act.put, sA]
                  refine AtT.tk 1 ?_ 150 ?_ hS ?_
                  rotate_left
                  · (intro wS hSw; (try dsimp only at hSw); have kr0 := (Mem.row hSw (.there .here)).cell; go_simp; (try rw [if_neg (by omega)]); try with_reducible rfl)
                  simp only [Act.put, sA]
                  refine AtT.tk 2 ?_ 151 ?_ hS ?_
                  rotate_left
                  · (intro wS hSw; (try dsimp only at hSw); go_simp; (try rw [if_neg (by omega)]); try with_reducible rfl)
                  simp only [Act.put, sA]
                  refine AtT.only (i := 3) (by kernel_rfl) rfl rfl ?_
                  intro K hK
                  go_simp
                  refine hK.out _ _ (by apply Mem.tail; apply Mem.tail; (exact memA)) ?_
                  clear hK K hS
                  have hMp := hM
                  apply Mem.atT
                  · exact memA
                  clear hM
                  intro hM
                  (try simp only [World.size_alloc, World.size_setCell, World.heap_drewN, heapDrew, Nat.add_assoc, Nat.reduceAdd, sA, List.cons_append, List.nil_append] at hM)
                  have hS := hM.tail.tail
                  refine AtT.only (i := 4) (by kernel_rfl) rfl rfl ?_
                  intro K hK
                  go_simp
                  refine (among_any [0, 3, -1, 13] HC.out hM (.there .here) (fun _ => .here) rfl (by decide) (by decide) (by omega) (by decide)).mono ?_
                  rintro e w3 ⟨v, hv, rfl, hm⟩
                  have hv64 : I64 v := by simp at hv; unfold I64; omega
                  have HV := Lib.hid hv
                  clear hM hv
                  have hM := hm
                  clear hm
                  try dsimp only at hM
                  try dsimp only
                  refine hK.out _ _ (hM.tail.tail) ?_
                  clear hK K hS
                  have hS := hM.tail.tail
                  refine AtT.tk 5 ?_ 154 ?_ hS ?_
                  rotate_left
                  · (intro wS hSw; (try dsimp only at hSw); have kr0 := (Mem.row hSw (.there .here)).cell; go_simp; (try rw [if_neg (by omega)]); try with_reducible rfl)
                  simp only [Act.put, sA]
                  refine AtT.last (by kernel_rfl) rfl (by kernel_rfl) ?_
                  intro K hK
                  clear hS
                  have kk0 := (hM.row .here).cell
                  have ff0 := (hM.row .here).free
                  have ll0 := (hM.row .here).lt
                  have kk3 := (hM.row (.there (.there (.there .here)))).cell
                  have ff3 := (hM.row (.there (.there (.there .here)))).free
                  have ll3 := (hM.row (.there (.there (.there .here)))).lt
                  have hce := (hM.ints (.there (.there .here))).cellAt hg0
                  have hfe := (hM.ints (.there (.there .here))).freeAt 0
                  go_simp
                  clear kk0 ff0 ll0 kk3 ff3 ll3
                  refine hK.out _ _ ?_
                  clear hK K
                  have hM2 := Lib.hid (Mem.pick (is := [2, 3, 4, 1, 5]) hM (by decide) rfl)
                  clear hM
                  go_wp2_with fail
                  go_meet
                  exact ⟨v, HV.out, by have h5 := hM2.out.set (Sto.int (o := 0) hv64); exact h5.pick (is := [1, 0, 2, 3, 4]) (by decide) rfl⟩
                case rest =>
                  clear hM
                  obtain ⟨v, hv, hM⟩ := hcut
                  have HV := Lib.hid hv
                  clear hv
                  have hcc := HCP.out
                  have hqc : q ≤ e1 := by omega
                  have q2 : (q : Int) ≤ (m1 : Int) := by omega
                  have q3 : (q : Int) ≤ (e1 : Int) := by omega
                  go_upto_region 37 with fail
                  apply Mem.atWpA
                  · exact memA
                  clear hM
                  intro wst hM
                  (try simp only [World.size_alloc, World.size_setCell, World.heap_drewN, heapDrew, Nat.add_assoc, Nat.reduceAdd, sA, List.cons_append, List.nil_append] at hM)
                  refine AtT.startA hM hM 9 (by kernel_rfl) ?_
                  clear hM
                  intro wd hM
                  have hS := hM
                  refine AtT.tk 1 ?_ 156 ?_ hS ?_
                  rotate_left
                  · (intro wS hSw; (try dsimp only at hSw); go_simp; (try rw [if_neg (by omega)]); try with_reducible rfl)
                  simp only [Act.put, sA]
                  refine AtT.tk 2 ?_ 157 ?_ hS ?_
                  rotate_left
                  · (intro wS hSw; (try dsimp only at hSw); go_simp; (try rw [if_neg (by omega)]); try with_reducible rfl)
                  simp only [Act.put, sA]
                  refine AtT.tk 3 ?_ 158 ?_ hS ?_
                  rotate_left
                  · (intro wS hSw; (try dsimp only at hSw); go_simp; (try rw [if_neg (by omega)]); try with_reducible rfl)
                  simp only [Act.put, sA]
                  refine AtT.tk 4 ?_ 159 ?_ hS ?_
                  rotate_left
                  · (intro wS hSw; (try dsimp only at hSw); have kr0 := (Mem.row hSw .here).cell; go_simp; (try rw [if_neg (by omega)]); try with_reducible rfl)
                  simp only [Act.put, sA]
                  refine AtT.tk 6 ?_ 161 ?_ hS ?_
                  rotate_left
                  · (intro wS hSw; (try dsimp only at hSw); have kr0 := (Mem.row hSw .here).cell; go_simp; (try rw [if_neg (by omega)]); try with_reducible rfl)
                  simp only [Act.put, sA]
                  refine AtT.two (i := 0) (j := 7) (by kernel_rfl) rfl rfl rfl rfl ?_ ?_
                  · skip
                    intro K hK
                    go_simp
                    refine hK.out _ _ (by apply Mem.tail; (exact memA)) ?_
                    clear hK K hS
                    have hMp := hM
                    apply Mem.atT
                    · exact memA
                    clear hM
                    intro hM
                    (try simp only [World.size_alloc, World.size_setCell, World.heap_drewN, heapDrew, Nat.add_assoc, Nat.reduceAdd, sA, List.cons_append, List.nil_append] at hM)
                    have hS := hM.tail
                    refine AtT.two (i := 5) (j := 7) (by kernel_rfl) rfl rfl rfl rfl ?_ ?_
                    · skip
                      intro K hK
                      refine step_appRM (F := FNote) (Mem.toOwN hM .here) (fun _ => .here) ((HRD.out _ _ (hM.ents _ (show In _ (bookE (some ⟨gb, 0, none⟩) k cb bs) from (.there (.there (.there .here)))).mem)).1.rd.takeO (k := q) (by omega)) (by show (0 + q) * 4 ≤ _; omega) j0 (.agg #[.int .i64 0, .int .i64 0, .slice none 0 0, .string ⟨#[]⟩]) 56 hj hy0 hy1 hy2 rfl (by omega) rfl _ _ _ Tryz.underlying24 rfl rfl rfl ?_
                      clear hM
                      intro a6 c6 w6 hM
                      simp only [Nat.zero_add, List.nil_append] at hM ⊢
                      try dsimp only
                      refine hK.out _ _ (hM.tail) ?_
                      clear hK K hS
                      have hS := hM.tail
                      refine AtT.only (i := 7) (by kernel_rfl) rfl rfl ?_
                      intro K hK
                      go_simp
                      refine hK.out _ _ (by apply Mem.tail; apply Mem.tail; (exact memA)) ?_
                      clear hK K hS
                      have hMp := hM
                      apply Mem.atT
                      · exact memA
                      clear hM
                      intro hM
                      (try simp only [World.size_alloc, World.size_setCell, World.heap_drewN, heapDrew, Nat.add_assoc, Nat.reduceAdd, sA, List.cons_append, List.nil_append] at hM)
                      have hS := hM.tail.tail
                      refine AtT.only (i := 8) (by kernel_rfl) rfl rfl ?_
                      intro K hK
                      refine step_appRM (F := FNote) hM (fun _ => (.there .here)) (hM.oneRec (⟨xu, xq, some ⟨gc, 0, none⟩, xn, c7, xl.set 0 v, xw⟩ : NoteI) .here rfl HWF.out (by decide)) (by show (q + 1) * 4 ≤ _; omega) j0 (.agg #[.int .i64 0, .int .i64 0, .slice none 0 0, .string ⟨#[]⟩]) 56 hj hy0 hy1 hy2 rfl (by omega) rfl _ _ _ Tryz.underlying24 rfl rfl rfl ?_
                      clear hM
                      intro a8 c8 w8 hM
                      obtain ⟨g8, rfl, -⟩ := (hM.ow (.there .here)).head (by omega)
                      try dsimp only
                      refine hK.out _ _ (hM.tail.tail) ?_
                      clear hK K hS
                      have hS := hM.tail.tail
                      refine AtT.last (by kernel_rfl) rfl (by kernel_rfl) ?_
                      intro K hK
                      clear hS
                      go_simp
                      refine hK.out _ _ ?_
                      clear hK K
                      have hM9 := Lib.hid (Mem.pick (is := [1, 3, 4, 5, 6]) hM (by decide) rfl)
                      clear hM
                      go_wp2
                      go_ret3
                      refine ⟨(k : Int), g8, 0, _, c8, xs1.take q ++ [(⟨xu, xq, some ⟨gc, 0, none⟩, xn, c7, xl.set 0 v, xw⟩ : NoteI)], d2, m2, e2, xs2, [owE FNote 40 (some ⟨g8, 0, none⟩) (q + 1) c8 (xs1.take q ++ [(⟨xu, xq, some ⟨gc, 0, none⟩, xn, c7, xl.set 0 v, xw⟩ : NoteI)]), intE (some ⟨gc, 0, none⟩) xn c7 (xl.set 0 v), bookE (some ⟨gb, 0, none⟩) k cb bs], ⟨hkI10, fun hb => few_last3 HCT.out HK1.out.2.1 HV.out (by rw [HXL.out]; exact hg0) hb, HZ.out.1, last_len HML.out hmr hqm, HZ.out.2⟩, fun B w h => ⟨⟨(show Ow FNote 40 B w (some ⟨g8, 0, none⟩) (q + 1) c8 (xs1.take q ++ [(⟨xu, xq, some ⟨gc, 0, none⟩, xn, c7, xl.set 0 v, xw⟩ : NoteI)]) from h.1 _ (List.mem_cons_self ..)).rd, last_cl3 (HRD.out B w (h.1 _ (List.mem_cons_of_mem _ (List.mem_cons_of_mem _ (List.mem_cons_self ..))))).1 (Own.ints (h.1 _ (List.mem_cons_of_mem _ (List.mem_cons_self ..))))⟩, (HRD.out B w (h.1 _ (List.mem_cons_of_mem _ (List.mem_cons_of_mem _ (List.mem_cons_self ..))))).2⟩, rfl, ?_⟩
                      have h8 := HR.out.out1 (Mem.packAt (X := []) (G := [owE FNote 40 (some ⟨g8, 0, none⟩) (q + 1) c8 (xs1.take q ++ [(⟨xu, xq, some ⟨gc, 0, none⟩, xn, c7, xl.set 0 v, xw⟩ : NoteI)]), intE (some ⟨gc, 0, none⟩) xn c7 (xl.set 0 v), bookE (some ⟨gb, 0, none⟩) k cb bs]) hM9.out)
                      exact h8.curMore (A' := A + 200) (.there (HP.out.again _)) (by omega)
                    · skip
                      intro K hK
                      go_simp
                      refine hK.out _ _ (by apply Mem.tail; apply Mem.tail; (exact memA)) ?_
                      clear hK K hS
                      have hMp := hM
                      apply Mem.atT
                      · exact memA
                      clear hM
                      intro hM
                      (try simp only [World.size_alloc, World.size_setCell, World.heap_drewN, heapDrew, Nat.add_assoc, Nat.reduceAdd, sA, List.cons_append, List.nil_append] at hM)
                      have hS := hM.tail.tail
                      refine AtT.only (i := 5) (by kernel_rfl) rfl rfl ?_
                      intro K hK
                      refine step_appRM (F := FNote) (Mem.toOwN hM (.there .here)) (fun _ => (.there .here)) ((HRD.out _ _ (hM.ents _ (show In _ (bookE (some ⟨gb, 0, none⟩) k cb bs) from (.there (.there (.there (.there .here))))).mem)).1.rd.takeO (k := q) (by omega)) (by show (0 + q) * 4 ≤ _; omega) j0 (.agg #[.int .i64 0, .int .i64 0, .slice none 0 0, .string ⟨#[]⟩]) 56 hj hy0 hy1 hy2 rfl (by omega) rfl _ _ _ Tryz.underlying24 rfl rfl rfl ?_
                      clear hM
                      intro a6 c6 w6 hM
                      simp only [Nat.zero_add, List.nil_append] at hM ⊢
                      try dsimp only
                      refine hK.out _ _ (hM.tail.tail) ?_
                      clear hK K hS
                      have hS := hM.tail.tail
                      refine AtT.only (i := 8) (by kernel_rfl) rfl rfl ?_
                      intro K hK
                      refine step_appRM (F := FNote) hM (fun _ => (.there .here)) (hM.oneRec (⟨xu, xq, some ⟨gc, 0, none⟩, xn, c7, xl.set 0 v, xw⟩ : NoteI) .here rfl HWF.out (by decide)) (by show (q + 1) * 4 ≤ _; omega) j0 (.agg #[.int .i64 0, .int .i64 0, .slice none 0 0, .string ⟨#[]⟩]) 56 hj hy0 hy1 hy2 rfl (by omega) rfl _ _ _ Tryz.underlying24 rfl rfl rfl ?_
                      clear hM
                      intro a8 c8 w8 hM
                      obtain ⟨g8, rfl, -⟩ := (hM.ow (.there .here)).head (by omega)
                      try dsimp only
                      refine hK.out _ _ (hM.tail.tail) ?_
                      clear hK K hS
                      have hS := hM.tail.tail
                      refine AtT.last (by kernel_rfl) rfl (by kernel_rfl) ?_
                      intro K hK
                      clear hS
                      go_simp
                      refine hK.out _ _ ?_
                      clear hK K
                      have hM9 := Lib.hid (Mem.pick (is := [1, 3, 4, 5, 6]) hM (by decide) rfl)
                      clear hM
                      go_wp2
                      go_ret3
                      refine ⟨(k : Int), g8, 0, _, c8, xs1.take q ++ [(⟨xu, xq, some ⟨gc, 0, none⟩, xn, c7, xl.set 0 v, xw⟩ : NoteI)], d2, m2, e2, xs2, [owE FNote 40 (some ⟨g8, 0, none⟩) (q + 1) c8 (xs1.take q ++ [(⟨xu, xq, some ⟨gc, 0, none⟩, xn, c7, xl.set 0 v, xw⟩ : NoteI)]), intE (some ⟨gc, 0, none⟩) xn c7 (xl.set 0 v), bookE (some ⟨gb, 0, none⟩) k cb bs], ⟨hkI10, fun hb => few_last3 HCT.out HK1.out.2.1 HV.out (by rw [HXL.out]; exact hg0) hb, HZ.out.1, last_len HML.out hmr hqm, HZ.out.2⟩, fun B w h => ⟨⟨(show Ow FNote 40 B w (some ⟨g8, 0, none⟩) (q + 1) c8 (xs1.take q ++ [(⟨xu, xq, some ⟨gc, 0, none⟩, xn, c7, xl.set 0 v, xw⟩ : NoteI)]) from h.1 _ (List.mem_cons_self ..)).rd, last_cl3 (HRD.out B w (h.1 _ (List.mem_cons_of_mem _ (List.mem_cons_of_mem _ (List.mem_cons_self ..))))).1 (Own.ints (h.1 _ (List.mem_cons_of_mem _ (List.mem_cons_self ..))))⟩, (HRD.out B w (h.1 _ (List.mem_cons_of_mem _ (List.mem_cons_of_mem _ (List.mem_cons_self ..))))).2⟩, rfl, ?_⟩
                      have h8 := HR.out.out1 (Mem.packAt (X := []) (G := [owE FNote 40 (some ⟨g8, 0, none⟩) (q + 1) c8 (xs1.take q ++ [(⟨xu, xq, some ⟨gc, 0, none⟩, xn, c7, xl.set 0 v, xw⟩ : NoteI)]), intE (some ⟨gc, 0, none⟩) xn c7 (xl.set 0 v), bookE (some ⟨gb, 0, none⟩) k cb bs]) hM9.out)
                      exact h8.curMore (A' := A + 200) (.there (HP.out.again _)) (by omega)
                  · skip
                    intro K hK
                    go_simp
                    refine hK.out _ _ (by apply Mem.tail; (exact memA)) ?_
                    clear hK K hS
                    have hMp := hM
                    apply Mem.atT
                    · exact memA
                    clear hM
                    intro hM
                    (try simp only [World.size_alloc, World.size_setCell, World.heap_drewN, heapDrew, Nat.add_assoc, Nat.reduceAdd, sA, List.cons_append, List.nil_append] at hM)
                    have hS := hM.tail
                    refine AtT.only (i := 0) (by kernel_rfl) rfl rfl ?_
                    intro K hK
                    go_simp
                    refine hK.out _ _ (by apply Mem.tail; apply Mem.tail; (exact memA)) ?_
                    clear hK K hS
                    have hMp := hM
                    apply Mem.atT
                    · exact memA
                    clear hM
                    intro hM
                    (try simp only [World.size_alloc, World.size_setCell, World.heap_drewN, heapDrew, Nat.add_assoc, Nat.reduceAdd, sA, List.cons_append, List.nil_append] at hM)
                    have hS := hM.tail.tail
                    refine AtT.only (i := 5) (by kernel_rfl) rfl rfl ?_
                    intro K hK
                    refine step_appRM (F := FNote) (Mem.toOwN hM .here) (fun _ => .here) ((HRD.out _ _ (hM.ents _ (show In _ (bookE (some ⟨gb, 0, none⟩) k cb bs) from (.there (.there (.there (.there .here))))).mem)).1.rd.takeO (k := q) (by omega)) (by show (0 + q) * 4 ≤ _; omega) j0 (.agg #[.int .i64 0, .int .i64 0, .slice none 0 0, .string ⟨#[]⟩]) 56 hj hy0 hy1 hy2 rfl (by omega) rfl _ _ _ Tryz.underlying24 rfl rfl rfl ?_
                    clear hM
                    intro a6 c6 w6 hM
                    simp only [Nat.zero_add, List.nil_append] at hM ⊢
                    try dsimp only
                    refine hK.out _ _ (hM.tail.tail) ?_
                    clear hK K hS
                    have hS := hM.tail.tail
                    refine AtT.only (i := 8) (by kernel_rfl) rfl rfl ?_
                    intro K hK
                    refine step_appRM (F := FNote) hM (fun _ => .here) (hM.oneRec (⟨xu, xq, some ⟨gc, 0, none⟩, xn, c7, xl.set 0 v, xw⟩ : NoteI) (.there .here) rfl HWF.out (by decide)) (by show (q + 1) * 4 ≤ _; omega) j0 (.agg #[.int .i64 0, .int .i64 0, .slice none 0 0, .string ⟨#[]⟩]) 56 hj hy0 hy1 hy2 rfl (by omega) rfl _ _ _ Tryz.underlying24 rfl rfl rfl ?_
                    clear hM
                    intro a8 c8 w8 hM
                    obtain ⟨g8, rfl, -⟩ := (hM.ow .here).head (by omega)
                    try dsimp only
                    refine hK.out _ _ (hM.tail.tail) ?_
                    clear hK K hS
                    have hS := hM.tail.tail
                    refine AtT.last (by kernel_rfl) rfl (by kernel_rfl) ?_
                    intro K hK
                    clear hS
                    go_simp
                    refine hK.out _ _ ?_
                    clear hK K
                    have hM9 := Lib.hid (Mem.pick (is := [0, 3, 4, 5, 6]) hM (by decide) rfl)
                    clear hM
                    go_wp2
                    go_ret3
                    refine ⟨(k : Int), g8, 0, _, c8, xs1.take q ++ [(⟨xu, xq, some ⟨gc, 0, none⟩, xn, c7, xl.set 0 v, xw⟩ : NoteI)], d2, m2, e2, xs2, [owE FNote 40 (some ⟨g8, 0, none⟩) (q + 1) c8 (xs1.take q ++ [(⟨xu, xq, some ⟨gc, 0, none⟩, xn, c7, xl.set 0 v, xw⟩ : NoteI)]), intE (some ⟨gc, 0, none⟩) xn c7 (xl.set 0 v), bookE (some ⟨gb, 0, none⟩) k cb bs], ⟨hkI10, fun hb => few_last3 HCT.out HK1.out.2.1 HV.out (by rw [HXL.out]; exact hg0) hb, HZ.out.1, last_len HML.out hmr hqm, HZ.out.2⟩, fun B w h => ⟨⟨(show Ow FNote 40 B w (some ⟨g8, 0, none⟩) (q + 1) c8 (xs1.take q ++ [(⟨xu, xq, some ⟨gc, 0, none⟩, xn, c7, xl.set 0 v, xw⟩ : NoteI)]) from h.1 _ (List.mem_cons_self ..)).rd, last_cl3 (HRD.out B w (h.1 _ (List.mem_cons_of_mem _ (List.mem_cons_of_mem _ (List.mem_cons_self ..))))).1 (Own.ints (h.1 _ (List.mem_cons_of_mem _ (List.mem_cons_self ..))))⟩, (HRD.out B w (h.1 _ (List.mem_cons_of_mem _ (List.mem_cons_of_mem _ (List.mem_cons_self ..))))).2⟩, rfl, ?_⟩
                    have h8 := HR.out.out1 (Mem.packAt (X := []) (G := [owE FNote 40 (some ⟨g8, 0, none⟩) (q + 1) c8 (xs1.take q ++ [(⟨xu, xq, some ⟨gc, 0, none⟩, xn, c7, xl.set 0 v, xw⟩ : NoteI)]), intE (some ⟨gc, 0, none⟩) xn c7 (xl.set 0 v), bookE (some ⟨gb, 0, none⟩) k cb bs]) hM9.out)
                    exact h8.curMore (A' := A + 200) (.there (HP.out.again _)) (by omega)
            have d0 : ((r : Int) == 0) = false := by simp; omega
            have d1' : ((r : Int) == 1) = false := by simp; omega
            have d2' : ((r : Int) == 2) = false := by simp; omega
            have d3' : ((r : Int) == 3) = false := by simp; omega
            clear c0 c1 c2 c3
            go_wp2
            go_ret3
            exact ⟨(k : Int), g1, 0, _, _, xs1, d2, m2, e2, xs2, _, HFULL.out, fun B w h => HRD.out B w (h.1 _ (List.mem_cons_self ..)), rfl, HFIN.out _ hM⟩
end Go.Proofs.YtjnbdgldpmmamaaGreat
