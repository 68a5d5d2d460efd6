/-
  The reference's draws of cuts.
-/
import Derived.Test.YtojfbcgfeojdfaaGreatKDrawLin
import Derived.Test.YtojfbcgfeojdfaaGreatKDrawSmk
import Derived.Test.YtojfbcgfeojdfaaGreatKHoldR
import Derived.Deep.DeepCutAuto
/-
  The reference's draws of the laws on lines, whole.
-/
namespace Go.Proofs.YtojfbcgfeojdfaaGreat
set_option linter.unusedSimpArgs false
set_option linter.unusedVariables false
open Go.RowKit

theorem best_len {W H : Int} {xs ss ts : List Int} : (bestR W H xs ss ts).l.length ≤ 3 := by
  unfold bestR
  split
  · rename_i h
    rw [Bool.and_eq_true, decide_eq_true_eq] at h
    dsimp only
    obtain ⟨o, ho⟩ : ∃ o, extL W.toNat xs.length xs ss ts (fewV W.toNat xs.length xs ss ts).toNat [] 0 = o := ⟨_, rfl⟩
    rw [ho]
    cases o with
    | none => simp
    | some r =>
      have := (extL_line _ [] r (setB_iff.2 ⟨List.Pairwise.nil, by simp⟩) ho).2.1
      simp only [Option.getD_some, List.length_nil] at this ⊢
      omega
  · simp
end Go.Proofs.YtojfbcgfeojdfaaGreat

/-
  Appends of a slice of records to an owned one, in terms of entries.
-/
namespace Go.Proofs.YtojfbcgfeojdfaaGreat
set_option linter.unusedSimpArgs false
set_option linter.unusedVariables false
open Go.RowKit

section
variable {B : Nat} {w0 w w' : World} {G : List Ent} {G' : Ent → List Ent} {α : Type} {F : Fl α} {E : TypeId}
theorem wpList_appRM {ops : Array Oper} {rest : List Oper} {o : Oper} {a : Act} {Q : Exit → Act → World → Prop} {va : Option Addr} {na ca : Nat} {xs : List α} {xa : Option Addr} {m cx : Nat} {ys : List α} (hM : Mem B w0 w G) (p : ∀ e', Put G (owE F E va na ca xs) e' (G' e')) (hI : Rd F w xa m cx ys) (hroom : (na + m) * F.sz ≤ 17592186044416)
    (i0 : TypeInfo) (z : Value) (bytes : Nat) (hi : Tryz.prog.info? E = some i0) (hz0 : i0.zero = some z) (hz1 : i0.size = F.sz) (hz2 : i0.bytes = bytes) (hzs : z.cells.size = F.sz) (hby : (na + m) * bytes ≤ 140737488355328)
    (hgd : o.guard = none) (s v : Operand) (t : TypeId) (ht : Tryz.prog.underlying t = some (.slice E)) (ho : o.op = .call { callee := .builtin .append, args := #[s, v], argTypes := #[t, t] }) (hs : a.eval s = .slice va na ca) (hv : a.eval v = .slice xa m cx)
    (h : ∀ a' c' w', Mem B w0 w' (G' (owE F E a' (na + m) c' (xs ++ ys))) → wpList Tryz.prog ops Q rest (a.put o.dst (.slice a' (na + m) c')) w') : wpList Tryz.prog ops Q (o :: rest) a w := by
  have ho1 : Ow F E B w va na ca xs := hM.ents _ (p (rowE 0 0 #[])).mem
  refine wpList_appendR hgd s v t ho E i0 z bytes ht hi hz0 hz1 hz2 hzs B va na ca xs hs ho1 xa m cx ys hv hI hroom hby hM.size ?_
  intro a' c' w' h1 h2 h3
  refine h a' c' w' ?_
  exact hM.put (p _) ((Keeps.grown h2).mono (fun k _ hk => ownBlock_blockOf hk)) (e' := owE F E a' (na + m) c' (xs ++ ys)) h1 (fun k hk => (h3 k hk).imp id (fun e => by omega))
theorem step_appRM {ops : Array Oper} {o : Oper} {a : Act} {K : Act → World → Prop} {Q : Exit → Act → World → Prop} {R : Prop} {va : Option Addr} {na ca : Nat} {xs : List α} {xa : Option Addr} {m cx : Nat} {ys : List α} (hM : Mem B w0 w G) (p : ∀ e', Put G (owE F E va na ca xs) e' (G' e')) (hI : Rd F w xa m cx ys) (hroom : (na + m) * F.sz ≤ 17592186044416)
    (i0 : TypeInfo) (z : Value) (bytes : Nat) (hi : Tryz.prog.info? E = some i0) (hz0 : i0.zero = some z) (hz1 : i0.size = F.sz) (hz2 : i0.bytes = bytes) (hzs : z.cells.size = F.sz) (hby : (na + m) * bytes ≤ 140737488355328)
    (hgd : o.guard = none) (s v : Operand) (t : TypeId) (ht : Tryz.prog.underlying t = some (.slice E)) (ho : o.op = .call { callee := .builtin .append, args := #[s, v], argTypes := #[t, t] }) (hs : a.eval s = .slice va na ca) (hv : a.eval v = .slice xa m cx)
    (h : ∀ a' c' w', Mem B w0 w' (G' (owE F E a' (na + m) c' (xs ++ ys))) → K (a.put o.dst (.slice a' (na + m) c')) w') :
    if Region.wanted o (yielded ops a.tmps) = true then Oper.wp Tryz.prog o a w K Q else R := by
  have hw : Region.wanted o (yielded ops a.tmps) = true := by simp [Region.wanted, hgd]
  rw [if_pos hw]
  have ho1 : Ow F E B w va na ca xs := hM.ents _ (p (rowE 0 0 #[])).mem
  refine wp_appendR s v t ho E i0 z bytes ht hi hz0 hz1 hz2 hzs B va na ca xs hs ho1 xa m cx ys hv hI hroom hby hM.size ?_
  intro a' c' w' h1 h2 h3
  refine h a' c' w' ?_
  exact hM.put (p _) ((Keeps.grown h2).mono (fun k _ hk => ownBlock_blockOf hk)) (e' := owE F E a' (na + m) c' (xs ++ ys)) h1 (fun k hk => (h3 k hk).imp id (fun e => by omega))
end
end Go.Proofs.YtojfbcgfeojdfaaGreat

/-
  The reference's draws of cuts.
-/
namespace Go.Proofs.YtojfbcgfeojdfaaGreat
set_option linter.unusedSimpArgs false
set_option linter.unusedVariables false
open Go.RowKit

def okCu (l : List CutI) : Prop := ∀ c ∈ l, -2 ≤ c.tick ∧ c.tick ≤ 10002
theorem okCu_nil : okCu [] := by intro c hc; cases hc
theorem okCu_snoc {l : List CutI} {y : CutI} (h : okCu l) (hy : -2 ≤ y.tick ∧ y.tick ≤ 10002) : okCu (l ++ [y]) := by
  intro c hc
  rcases List.mem_append.1 hc with hc | hc
  · exact h c hc
  · obtain rfl := List.mem_singleton.1 hc
    exact hy
theorem okCu_set {l : List CutI} {k : Nat} {y : CutI} (h : okCu l) (hy : -2 ≤ y.tick ∧ y.tick ≤ 10002) : okCu (l.set k y) := by
  intro c hc
  rcases List.mem_or_eq_of_mem_set hc with hc | rfl
  · exact h c hc
  · exact hy
theorem okCu_get {l : List CutI} (h : okCu l) {k : Nat} (hk : k < l.length) : -2 ≤ (l.getD k CutI.zero).tick ∧ (l.getD k CutI.zero).tick ≤ 10002 := by
  refine h _ ?_
  rw [List.getD_eq_getElem?_getD, List.getElem?_eq_getElem hk]
  exact List.getElem_mem _
theorem cutL {l : List CutI} {y : CutI} : (l ++ [y]).length = l.length + 1 := by simp
theorem cutI {x y : Int} (hx : I64 x) (hy : -100000 ≤ y ∧ y ≤ 100000) : FCut.wf ⟨x, y⟩ := by
  refine ⟨hx, ?_⟩
  dsimp only
  unfold I64
  omega
set_option maxRecDepth 100000 in
set_option maxHeartbeats 30000000 in
theorem latest_any (W H : Int) (a : Option Addr) (n c : Nat) (xs : List Int) (a1 : Option Addr) (n1 c1 : Nat) (ph : List PhaseI) (a2 : Option Addr) (n2 c2 : Nat) (ss : List Int) (start : Int) (a3 : Option Addr) (n3 c3 : Nat) (cl : List Int) (w : World) (h : Ints w a n c xs) (h1 : Rd FPhase w a1 n1 c1 ph) (h2 : Ints w a2 n2 c2 ss) (h3 : Ints w a3 n3 c3 cl) (hn3 : n3 ≤ 30) :
    Calls Tryz.prog 115 #[.agg #[.int .i64 W, .int .i64 H, .slice a n c], .slice a1 n1 c1, .slice a2 n2 c2, .int .i64 start, .slice a3 n3 c3] w (fun e w' => ∃ (a' : Option Addr) (c' : Nat) (cu : List CutI) (ok : Bool), (cu.length ≤ n3 ∧ okCu cu) ∧ e = .returned (.tuple #[.slice a' cu.length c', .bool ok]) ∧ Mem w.heap.size w w' [owE FCut 37 a' cu.length c' cu]) := by
  have hM := Mem.start w
  have HL := Lib.hid h.len
  obtain ⟨i0, hi, hz0, hz1, hz2⟩ := info_parts Tryz.info37
  obtain ⟨q1, hq1⟩ : ∃ q, askB W H xs n ph ss start = q := ⟨_, rfl⟩
  obtain ⟨q2, hq2⟩ : ∃ q, (goodB 20 W H xs && setB n cl) = q := ⟨_, rfl⟩
  have HQ1 := Lib.hid hq1; have HQ2 := Lib.hid hq2
  cases q1
  · clear hq1 hq2
    go_enter Tryz.func115, Tryz.ntmps115
    go_wp2_with fail
    apply Mem.atA
    · exact memA
    clear hM
    intro wst hM
    (try simp only [World.size_alloc, World.size_setCell, World.heap_drewN, heapDrew, Nat.add_assoc, Nat.reduceAdd, sA, List.cons_append, List.nil_append] at hM)
    apply Calls.mono
    · (apply l4Asked_any) <;> (first | (show (_ : Prop); with_reducible assumption) | (apply Hid.out; with_reducible assumption) | (apply Mem.intsR hM; (repeat' (first | with_reducible exact In.here | with_reducible apply In.there)); done) | (apply Ints.ext (hb := hM.below); with_reducible assumption) | (apply Rd.ext (hb := hM.below); with_reducible assumption) | (apply Mem.row hM; (repeat' (first | with_reducible exact In.here | with_reducible apply In.there)); done) | (apply Row.ext (hb := hM.below); with_reducible assumption) | exact ⟨by omega, by omega⟩ | omega | (trace_state; fail))
    rw [HQ1.out]
    rintro e wc1 ⟨rfl, hb⟩
    replace hM := hM.ext hb
    clear hb
    replace hM := Mem.toOwR (F := FCut) hM
    go_wp2
    go_ret2
    exact ⟨_, _, [], false, ⟨by simp, okCu_nil⟩, rfl, hM.first⟩
  cases q2
  · clear hq1 hq2
    go_enter Tryz.func115, Tryz.ntmps115
    go_wp2_with fail
    apply Mem.atA
    · exact memA
    clear hM
    intro wst hM
    (try simp only [World.size_alloc, World.size_setCell, World.heap_drewN, heapDrew, Nat.add_assoc, Nat.reduceAdd, sA, List.cons_append, List.nil_append] at hM)
    apply Calls.mono
    · (apply l4Asked_any) <;> (first | (show (_ : Prop); with_reducible assumption) | (apply Hid.out; with_reducible assumption) | (apply Mem.intsR hM; (repeat' (first | with_reducible exact In.here | with_reducible apply In.there)); done) | (apply Ints.ext (hb := hM.below); with_reducible assumption) | (apply Rd.ext (hb := hM.below); with_reducible assumption) | (apply Mem.row hM; (repeat' (first | with_reducible exact In.here | with_reducible apply In.there)); done) | (apply Row.ext (hb := hM.below); with_reducible assumption) | exact ⟨by omega, by omega⟩ | omega | (trace_state; fail))
    rw [HQ1.out]
    rintro e wc2 ⟨rfl, hb⟩
    replace hM := hM.ext hb
    clear hb
    obtain ⟨k1, f1, l1⟩ := hM.row (.there .here)
    go_wp2_with fail
    clear k1 f1 l1
    apply Mem.atA
    · exact memA
    clear hM
    intro wst hM
    (try simp only [World.size_alloc, World.size_setCell, World.heap_drewN, heapDrew, Nat.add_assoc, Nat.reduceAdd, sA, List.cons_append, List.nil_append] at hM)
    (first | refine (l2Set_any W H a n c xs a3 n3 c3 cl _ (h.ext hM.below) (h3.ext hM.below)).mono ?_)
    rw [HQ2.out]
    rintro e wc3 ⟨rfl, hb⟩
    replace hM := hM.ext hb
    clear hb
    replace hM := Mem.toOwR (F := FCut) hM
    go_wp2
    go_ret2
    exact ⟨_, _, [], false, ⟨by simp, okCu_nil⟩, rfl, hM.first⟩
  obtain ⟨hg, hp, hs, hst⟩ := askB_true hq1
  rw [hg, Bool.true_and] at hq2
  obtain ⟨Wn, Hn, rfl, rfl, p1, p2, p3, p4, hlen, h25, hx⟩ := goodB_true hg
  have hn25 : n ≤ 25 := by rw [← HL.out]; exact h25
  have hnp : 0 < n := by rw [← HL.out, hlen]; exact Nat.mul_pos p1 p3
  have hW : 1 ≤ Wn ∧ Wn ≤ 5 := ⟨p1, p2⟩
  have hbd := arrT_bnd (W := Wn) (n := n) (xs := xs) (ss := ss) (l := ph) (start := start) hx HL.out hn25 hp hst
  have hlt5 := arrT_len (W := Wn) (n := n) (xs := xs) (ss := ss) (l := ph) hst.1
  have hge := fun (c : Nat) (hcn : c < n) => arrT_ge (W := Wn) (xs := xs) (ss := ss) (l := ph) hst.1 hcn
  obtain ⟨tm, htm⟩ : ∃ tm, arrT Wn n xs ss ph start = tm := ⟨_, rfl⟩
  rw [htm] at hbd hlt5 hge
  have HBD := Lib.hid (fun (c : Nat) (hc : c < n) => hbd.max hn25 hc)
  have HTL := Lib.hid hlt5; have HGE := Lib.hid hge; have HTM := Lib.hid htm
  have HP := Lib.hid hp; have HX := Lib.hid hx
  have HCI := Lib.hid (fun k (hk : k < cl.length) => set_fact hq2 hk)
  have HCL := Lib.hid h3.len
  clear hg hp hs hlen h25 hx hq1 hq2 hbd hlt5 hge htm
  go_enter Tryz.func115, Tryz.ntmps115
  go_wp2_with fail
  apply Mem.atA
  · exact memA
  clear hM
  intro wst hM
  (try simp only [World.size_alloc, World.size_setCell, World.heap_drewN, heapDrew, Nat.add_assoc, Nat.reduceAdd, sA, List.cons_append, List.nil_append] at hM)
  apply Calls.mono
  · (apply l4Asked_any) <;> (first | (show (_ : Prop); with_reducible assumption) | (apply Hid.out; with_reducible assumption) | (apply Mem.intsR hM; (repeat' (first | with_reducible exact In.here | with_reducible apply In.there)); done) | (apply Ints.ext (hb := hM.below); with_reducible assumption) | (apply Rd.ext (hb := hM.below); with_reducible assumption) | (apply Mem.row hM; (repeat' (first | with_reducible exact In.here | with_reducible apply In.there)); done) | (apply Row.ext (hb := hM.below); with_reducible assumption) | exact ⟨by omega, by omega⟩ | omega | (trace_state; fail))
  rw [HQ1.out]
  rintro e wc4 ⟨rfl, hb⟩
  replace hM := hM.ext hb
  clear hb
  obtain ⟨k1, f1, l1⟩ := hM.row (.there .here)
  go_wp2_with fail
  clear k1 f1 l1
  apply Mem.atA
  · exact memA
  clear hM
  intro wst hM
  (try simp only [World.size_alloc, World.size_setCell, World.heap_drewN, heapDrew, Nat.add_assoc, Nat.reduceAdd, sA, List.cons_append, List.nil_append] at hM)
  (first | refine (l2Set_any Wn Hn a n c xs a3 n3 c3 cl _ (h.ext hM.below) (h3.ext hM.below)).mono ?_)
  rw [HQ2.out]
  rintro e wc5 ⟨rfl, hb⟩
  replace hM := hM.ext hb
  clear hb
  obtain ⟨k1, f1, l1⟩ := hM.row (.there .here)
  go_wp2_with fail
  clear k1 f1 l1
  apply Mem.atA
  · exact memA
  clear hM
  intro wst hM
  (try simp only [World.size_alloc, World.size_setCell, World.heap_drewN, heapDrew, Nat.add_assoc, Nat.reduceAdd, sA, List.cons_append, List.nil_append] at hM)
  apply Calls.mono
  · (apply l4Arrivals_any) <;> (first | (show (_ : Prop); with_reducible assumption) | (apply Hid.out; with_reducible assumption) | (apply Mem.intsR hM; (repeat' (first | with_reducible exact In.here | with_reducible apply In.there)); done) | (apply Ints.ext (hb := hM.below); with_reducible assumption) | (apply Rd.ext (hb := hM.below); with_reducible assumption) | (apply Mem.row hM; (repeat' (first | with_reducible exact In.here | with_reducible apply In.there)); done) | (apply Row.ext (hb := hM.below); with_reducible assumption) | exact ⟨by omega, by omega⟩ | omega | (trace_state; fail))
  rintro e wc6 ⟨a6, m6, c6, rfl, hm⟩
  replace hM := hM.join hm
  clear hm
  (try simp only [World.size_alloc, World.size_setCell, World.heap_drewN, heapDrew, Nat.add_assoc, Nat.reduceAdd, sA, List.cons_append, List.nil_append] at hM)
  rw [HTM.out] at hM
  obtain rfl : n = m6 := by rw [← HTL.out]; exact (hM.ints .here).len
  obtain ⟨g, rfl, -⟩ := (hM.ints .here).head hnp
  go_wp2_with fail
  apply Mem.atWpA
  · exact memA
  clear hM
  intro wst hM
  (try simp only [World.size_alloc, World.size_setCell, World.heap_drewN, heapDrew, Nat.add_assoc, Nat.reduceAdd, sA, List.cons_append, List.nil_append] at hM)
  replace hM := Mem.toOwR (F := FCut) hM.swap
  go_loopw [12, 14] (fun s12 s14 wr => ∃ (k : Nat) (a' : Option Addr) (c' : Nat) (cu : List CutI), k ≤ n3 ∧ s14 = .int .i64 k ∧ s12 = .slice a' cu.length c' ∧ Hid (cu.length = k) ∧ Hid (okCu cu) ∧ Mem w.heap.size w wr [owE FCut 37 a' cu.length c' cu, intE (some ⟨g, 0, none⟩) n c6 tm, rowE w.heap.size 26 #[.int .i64 Wn, .int .i64 Hn, .slice a n c]]) (fun _ s14 _ => n3 - (intOf s14).toNat)
  case atStart => exact ⟨0, _, _, [], Nat.zero_le _, rfl, rfl, Lib.hid rfl, Lib.hid okCu_nil, hM⟩
  case round =>
    clear hM
    obtain ⟨k, a', c', cu, hk, rfl, rfl, HCK, HOK, hM⟩ := hrel
    have hck1 : cu.length ≤ k ∧ k ≤ cu.length := by have := HCK.out; omega
    by_cases hlt : k < n3
    · obtain ⟨bl, offl, rfl, -, -⟩ := h3.at' _ hlt
      have hcl := (h3.ext hM.below).get hlt
      have hin := HCI.out k (by rw [HCL.out]; exact hlt)
      have hrm := (h3.wf _ (getD_mem (xs := cl) (k := k) (by rw [HCL.out]; exact hlt)))
      obtain ⟨v, hv⟩ : ∃ v, cl.getD k 0 = v := ⟨_, rfl⟩
      rw [hv] at hcl hin hrm
      clear hv
      have HI := Lib.hid hrm
      clear hrm
      obtain ⟨j, rfl⟩ : ∃ j : Nat, v = (j : Int) := Int.eq_ofNat_of_zero_le (by omega)
      have hjn : j < n := by omega
      have hu0 := HGE.out j hjn
      have hu1 := HBD.out j hjn
      obtain ⟨u, hu⟩ : ∃ u, tm.getD j 0 = u := ⟨_, rfl⟩
      have hcell := (hM.ints (.there .here)).cellAt hjn
      rw [hu] at hu0 hu1 hcell
      clear hu hin
      have i0' : (0 : Int) ≤ (k : Int) := by omega
      have i1 : (k : Int) < (n3 : Int) := by omega
      have i2 : (0 : Int) ≤ (j : Int) := by omega
      have i3 : (j : Int) < (n : Int) := by omega
      obtain ⟨y, hy, hyb⟩ : ∃ y : Int, (if u = -1 then 10000 else u) - 1 = y ∧ (-2 ≤ y ∧ y ≤ 10002) := ⟨_, rfl, by split <;> omega⟩
      by_cases hne : u = -1
      · subst hne
        have hw0 : IntKind.i64.wrap (10000 - 1) = 9999 := wrap_in (by omega)
        obtain rfl : y = 9999 := by rw [← hy]; rfl
        clear hy
        go_wp2_with (at_builtin; apply Mem.atL; (focus ((exact memA); done)); clear hM; intro hM; refine wpList_pushR (F := FCut) (⟨(j : Int), 9999⟩ : CutI) hM (fun _ => .here) rfl (cutI HI.out (by omega)) (by decide) (by show (cu.length + 1) * 2 ≤ _; omega) i0 (.agg #[.int .i64 0, .int .i64 0]) 16 hi hz0 hz1 hz2 rfl (by omega) rfl _ _ _ Tryz.underlying28 rfl rfl rfl ?_)
        intro a3 c3 w3 hM
        go_wp2
        go_roundw
        case rel => exact ⟨k + 1, a3, c3, cu ++ [⟨(j : Int), 9999⟩], by omega, by go_num, by rw [cutL], Lib.hid (by rw [cutL, HCK.out]), Lib.hid (okCu_snoc HOK.out hyb), by rw [cutL]; exact hM⟩
        case measure => simp [intOf]; omega
      · have hw0 : IntKind.i64.wrap (u - 1) = u - 1 := wrap_in (by omega)
        have hbe : (u == -1) = false := by simpa using hne
        rw [if_neg hne] at hy
        subst hy
        go_wp2_with (at_builtin; apply Mem.atL; (focus ((exact memA); done)); clear hM; intro hM; refine wpList_pushR (F := FCut) (⟨(j : Int), u - 1⟩ : CutI) hM (fun _ => .here) rfl (cutI HI.out (by omega)) (by decide) (by show (cu.length + 1) * 2 ≤ _; omega) i0 (.agg #[.int .i64 0, .int .i64 0]) 16 hi hz0 hz1 hz2 rfl (by omega) rfl _ _ _ Tryz.underlying28 rfl rfl rfl ?_)
        intro a3 c3 w3 hM
        go_wp2
        go_roundw
        case rel => exact ⟨k + 1, a3, c3, cu ++ [⟨(j : Int), u - 1⟩], by omega, by go_num, by rw [cutL], Lib.hid (by rw [cutL, HCK.out]), Lib.hid (okCu_snoc HOK.out hyb), by rw [cutL]; exact hM⟩
        case measure => simp [intOf]; omega
    · obtain rfl : k = n3 := by omega
      obtain ⟨b, hb⟩ : ∃ b, cutsB Wn Hn xs cu = b := ⟨_, rfl⟩
      have HB := Lib.hid hb
      clear hb
      obtain ⟨k2, f2, l2⟩ := hM.row (.there (.there .here))
      go_wp2_with fail
      clear k2 f2 l2
      apply Mem.atA
      · exact memA
      clear hM
      intro wst hM
      (try simp only [World.size_alloc, World.size_setCell, World.heap_drewN, heapDrew, Nat.add_assoc, Nat.reduceAdd, sA, List.cons_append, List.nil_append] at hM)
      (first | refine (l25Good_any Wn Hn a n c xs a' cu.length c' cu _ (h.ext hM.below) (hM.ow .here).rd).mono ?_)
      rw [HB.out]
      rintro e wc7 ⟨rfl, hb⟩
      replace hM := hM.ext hb
      clear hb
      cases b
      · go_wp2
        go_ret2
        refine ⟨_, _, [], false, ⟨by simp, okCu_nil⟩, rfl, ?_⟩
        apply Mem.toOwR
        apply Mem.pick (is := [0])
        · exact memA
        · decide
        · rfl
      · go_wp2
        go_ret2
        refine ⟨a', c', cu, true, ⟨by omega, HOK.out⟩, rfl, ?_⟩
        apply Mem.pick (is := [0])
        · exact memA
        · decide
        · rfl
end Go.Proofs.YtojfbcgfeojdfaaGreat
