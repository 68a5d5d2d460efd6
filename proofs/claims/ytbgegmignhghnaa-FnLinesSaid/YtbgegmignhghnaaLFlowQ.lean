/-
  The program's net, and what the law on lines asks for: plain Lean.
-/
import Derived.Test.YtbgegmignhghnaaLLst
import Derived.Test.YtbgegmignhghnaaLRd
import Derived.Test.YtbgegmignhghnaaLDrawSmk
import Derived.Test.YtbgegmignhghnaaLFlowE
import Derived.Test.YtbgegmignhghnaaLTrim
import Derived.Test.YtbgegmignhghnaaLFlowG
/-
  Small functions of the laws over numbers: same lists, members, sums.
-/
namespace Go.Proofs.Ytbgegmignhghnaa
set_option linter.unusedSimpArgs false
set_option linter.unusedVariables false
open Go.RowKit

set_option maxRecDepth 100000 in
set_option maxHeartbeats 1000000 in
theorem vInts_any (a : Option Addr) (n c : Nat) (xs : List Int) (a2 : Option Addr) (n2 c2 : Nat) (ys : List Int) (w : World) (h : Ints w a n c xs) (h2 : Ints w a2 n2 c2 ys) :
    Calls Try.prog 13 #[.slice a n c, .slice a2 n2 c2] w fun e w' => e = .returned (.bool (xs == ys)) ∧ Below w.heap.size w w' := by
  have hn := h.cap
  have hc := h.room
  have HL := Lib.hid h.len
  have HL2 := Lib.hid h2.len
  by_cases hne : n = n2
  · subst hne
    go_enter Try.func13, Try.ntmps13
    go_wp2
    go_loopw [5] (fun i wr => ∃ k : Nat, k ≤ n ∧ i = .int .i64 k ∧ xs.take k = ys.take k ∧ Below w.heap.size w wr) (fun i _ => n - (intOf i).toNat)
    case atStart => exact ⟨0, Nat.zero_le _, rfl, by simp, Below.refl _ _⟩
    case round =>
      obtain ⟨k, hk, rfl, hall, hbr⟩ := hrel
      have HA := Lib.hid hall; clear hall
      by_cases hlt : k < n
      · obtain ⟨b, off, rfl, hb, hcell⟩ := (h.below hbr).at' _ hlt
        obtain ⟨b2, off2, rfl, hb2, hcell2⟩ := (h2.below hbr).at' _ hlt
        have hck := hcell k hlt
        have hck2 := hcell2 k hlt
        clear hcell hcell2
        obtain ⟨x, hx⟩ : ∃ x, xs.getD k 0 = x := ⟨_, rfl⟩
        obtain ⟨y, hy⟩ : ∃ y, ys.getD k 0 = y := ⟨_, rfl⟩
        rw [hx] at hck
        rw [hy] at hck2
        have HX := Lib.hid hx; clear hx
        have HY := Lib.hid hy; clear hy
        by_cases he : x = y
        · subst he
          go_wp2
          go_quiet (fail)
          go_wp2
          go_roundw
          case rel => exact ⟨k + 1, by omega, by go_num, by rw [take_succ' (by rw [HL.out]; exact hlt), take_succ' (by rw [HL2.out]; exact hlt), HA.out, HX.out, HY.out], bdrewN hbr _⟩
          case measure => simp [intOf]; omega
        · go_wp2
          go_quiet (fail)
          go_wp2
          go_ret
          refine ⟨rb ?_, bdrewN hbr _⟩
          symm
          rw [beq_eq_false_iff_ne]
          rintro rfl
          exact he (HX.out.symm.trans HY.out)
      · go_wp2
        go_ret
        obtain rfl : k = n := by omega
        refine ⟨rb ?_, hbr⟩
        symm
        rw [beq_iff_eq, ← List.take_of_length_le (show xs.length ≤ k by rw [HL.out]; exact Nat.le_refl _), HA.out, List.take_of_length_le (by rw [HL2.out]; exact Nat.le_refl _)]
  · have hne' : ((n : Int) != n2) = true := by simp; omega
    go_enter Try.func13, Try.ntmps13
    go_wp2
    go_ret
    refine ⟨rb ?_, Below.refl _ _⟩
    symm
    rw [beq_eq_false_iff_ne]
    rintro rfl
    exact hne (HL.out.symm.trans HL2.out)
theorem vInts_same (a : Option Addr) (n c : Nat) (xs : List Int) (a2 : Option Addr) (n2 c2 : Nat) (w : World) (h : Ints w a n c xs) (h2 : Ints w a2 n2 c2 xs) :
    Calls Try.prog 13 #[.slice a n c, .slice a2 n2 c2] w fun e w' => e = .returned (.bool true) ∧ Below w.heap.size w w' := by
  have := vInts_any a n c xs a2 n2 c2 xs w h h2
  rw [beq_self_eq_true] at this
  exact this
end Go.Proofs.Ytbgegmignhghnaa

/-
  Plain laws of trimmed lines.
-/
namespace Go.Proofs.Ytbgegmignhghnaa
set_option linter.unusedSimpArgs false
set_option linter.unusedVariables false
open Go.RowKit

section
variable {W n : Nat} {xs ss ts : List Int}
theorem lineB_mono {A B : List Int} (hA : setB n A = true) (hB : setB n B = true) (ht : setB n ts = true) (hl : lineB W n xs ss ts A = true) (hs : ∀ x ∈ A, x ∈ B) (hf : ∀ c : Nat, c < n → hasI B c = true → freeN xs ss ts c = true) : lineB W n xs ss ts B = true := by
  obtain ⟨h1, h2⟩ := (lineB_iff hA ht).1 hl
  refine (lineB_iff hB ht).2 ⟨hf, fun c hc hct hr => h2 c hc hct ?_⟩
  refine hr.least (T := fun c => Reach n (nearN W) (fun k => brn xs k && !hasI A (k : Nat)) (fun k => hasI ss (k : Nat)) c) (fun c h3 h4 h5 => Reach.base h3 h4 ?_) (fun d c hd h3 h4 h5 => Reach.step hd h3 ?_ h5)
  all_goals
    first
    | (rename_i h6; skip)
    | skip
    have key : ∀ c : Nat, (brn xs c && !hasI B (c : Int)) = true → (brn xs c && !hasI A (c : Int)) = true := fun c h => by
      rw [Bool.and_eq_true, Bool.not_eq_true'] at h ⊢
      refine ⟨h.1, ?_⟩
      cases e : hasI A (c : Int)
      · rfl
      · rw [hasI_iff.2 (hs _ (hasI_iff.1 e))] at h
        exact absurd h.2 (by decide)
    exact key c (by assumption)
theorem trim_inv (ht : setB n ts = true) : ∀ (cs out : List Int), setB n out = true → lineB W n xs ss ts out = true →
    setB n (cs.foldl (trimS W n xs ss ts) out) = true ∧ lineB W n xs ss ts (cs.foldl (trimS W n xs ss ts) out) = true ∧ (∀ x ∈ cs.foldl (trimS W n xs ss ts) out, x ∈ out) ∧ ∀ c ∈ cs, c ∈ cs.foldl (trimS W n xs ss ts) out → lineB W n xs ss ts ((cs.foldl (trimS W n xs ss ts) out).filter (neI c)) = false
  | [], out, h1, h2 => ⟨h1, h2, fun _ h => h, fun c hc => by cases hc⟩
  | c :: cs, out, h1, h2 => by
    rw [List.foldl_cons]
    have h3 : setB n (trimS W n xs ss ts out c) = true := by
      unfold trimS
      split
      · exact setB_filter _ h1
      · exact h1
    have h4 : lineB W n xs ss ts (trimS W n xs ss ts out c) = true := by
      unfold trimS
      split
      · assumption
      · exact h2
    have h5 : ∀ x ∈ trimS W n xs ss ts out c, x ∈ out := by
      intro x hx
      unfold trimS at hx
      split at hx
      · exact (List.mem_filter.1 hx).1
      · exact hx
    obtain ⟨i1, i2, i3, i4⟩ := trim_inv ht cs _ h3 h4
    refine ⟨i1, i2, fun x hx => h5 x (i3 x hx), fun d hd hdr => ?_⟩
    rcases List.mem_cons.1 hd with rfl | hd
    · have h6 := i3 d hdr
      by_cases e : lineB W n xs ss ts (out.filter (neI d)) = true
      · unfold trimS at h6
        rw [if_pos e] at h6
        have := (List.mem_filter.1 h6).2
        simp [neI] at this
      · cases e2 : lineB W n xs ss ts ((cs.foldl (trimS W n xs ss ts) (trimS W n xs ss ts out d)).filter (neI d))
        · rfl
        · refine absurd (lineB_mono (setB_filter _ i1) (setB_filter _ h1) ht e2 (fun x hx => ?_) (fun c hc hcl => ?_)) e
          · obtain ⟨hx1, hx2⟩ := List.mem_filter.1 hx
            exact List.mem_filter.2 ⟨h5 x (i3 x hx1), hx2⟩
          · exact lineB_free h2 c hc (hasI_iff.2 (List.mem_filter.1 (hasI_iff.1 hcl)).1)
    · exact i4 d hd hdr
end
end Go.Proofs.Ytbgegmignhghnaa

/-
  The program's net, and what the law on lines asks for: plain Lean.
-/
namespace Go.Proofs.Ytbgegmignhghnaa
set_option linter.unusedSimpArgs false
set_option linter.unusedVariables false
open Go.RowKit

/-- the net of the program: x and n + x are the beginning and the end of x -/
theorem net_impl (n : Nat) : Net (2 * n + 2) n (2 * n) (2 * n + 1) (fun x => x) (fun x => n + x) (fun a => if a < n then a else a - n) := by
  refine ⟨fun x hx => by omega, fun x hx => by omega, fun x hx => ?_, fun x hx => ?_, fun x y hx hy => by omega, fun x hx => by omega, fun x hx => by omega, fun x hx => by omega, fun x hx => by omega, by omega, by omega, by omega⟩
  · rw [if_pos hx]
  · rw [if_neg (by omega)]; omega
section
variable {n : Nat} {near : Nat → Nat → Bool} {burn src snk : Nat → Bool} {s t : Nat} {i o : Nat → Nat}
/-- the arcs of a cell towards one neighbour -/
def NbrX (burn src snk : Nat → Bool) (s t : Nat) (i o : Nat → Nat) (c y p q : Nat) : Prop := (freeP burn src snk y = true ∧ p = o c ∧ q = i y) ∨ (burn y = true ∧ src y = true ∧ p = s ∧ q = i c) ∨ (burn y = true ∧ snk y = true ∧ p = o c ∧ q = t)
def NbrP (burn src snk : Nat → Bool) (s t : Nat) (i o : Nat → Nat) (c : Nat) (ys : List Int) (j p q : Nat) : Prop := ∃ m, m < j ∧ NbrX burn src snk s t i o c (ys.getD m 0).toNat p q
theorem nbrP_succ {c : Nat} {ys : List Int} {j p q : Nat} : NbrP burn src snk s t i o c ys (j + 1) p q ↔ NbrP burn src snk s t i o c ys j p q ∨ NbrX burn src snk s t i o c (ys.getD j 0).toNat p q := by
  constructor
  · rintro ⟨m, hm, h1⟩
    by_cases e : m = j
    · subst e; exact .inr h1
    · exact .inl ⟨m, by omega, h1⟩
  · rintro (⟨m, hm, h1⟩ | h1)
    · exact ⟨m, by omega, h1⟩
    · exact ⟨j, by omega, h1⟩
def ArcM (n : Nat) (near : Nat → Nat → Bool) (burn src snk : Nat → Bool) (s t : Nat) (i o : Nat → Nat) (may : List Int) (k p q : Nat) : Prop := ∃ m, m < k ∧ ArcX n near burn src snk s t i o (may.getD m 0).toNat p q
theorem arcX_nbr {c : Nat} (hf : freeP burn src snk c = true) {ys : List Int} (hys : ys = cellsN n (near c)) (p q : Nat) : ArcX n near burn src snk s t i o c p q ↔ (p = i c ∧ q = o c) ∨ NbrP burn src snk s t i o c ys ys.length p q := by
  have hy : ∀ m, m < ys.length → ∃ y : Nat, ys.getD m 0 = y ∧ y < n ∧ near c y = true := fun m hm => by
    have := getD_mem hm
    rw [hys] at this
    obtain ⟨y, e, h1, h2⟩ := cellsN_mem.1 this
    rw [← hys] at e
    exact ⟨y, e, h1, h2⟩
  have hy2 : ∀ y : Nat, y < n → near c y = true → ∃ m, m < ys.length ∧ ys.getD m 0 = y := fun y h1 h2 => by
    have hmem : (y : Int) ∈ ys := by rw [hys]; exact cellsN_mem.2 ⟨y, rfl, h1, h2⟩
    obtain ⟨m, hm, e⟩ := List.getElem_of_mem hmem
    exact ⟨m, hm, by rw [List.getD_eq_getElem?_getD, List.getElem?_eq_getElem hm, e]; rfl⟩
  constructor
  · rintro ⟨-, h | ⟨h1, h2, d, hd, h3, h4, h5⟩ | ⟨h1, h2, d, hd, h3, h4, h5⟩ | ⟨h1, y, h2, h3, h4, h5⟩⟩
    · exact .inl h
    · obtain ⟨m, hm, e⟩ := hy2 d hd h3
      exact .inr ⟨m, hm, by rw [e, Int.toNat_natCast]; exact .inr (.inl ⟨h4, h5, h1, h2⟩)⟩
    · obtain ⟨m, hm, e⟩ := hy2 d hd h3
      exact .inr ⟨m, hm, by rw [e, Int.toNat_natCast]; exact .inr (.inr ⟨h4, h5, h1, h2⟩)⟩
    · obtain ⟨m, hm, e⟩ := hy2 y h2 h4
      exact .inr ⟨m, hm, by rw [e, Int.toNat_natCast]; exact .inl ⟨h3, h1, h5⟩⟩
  · rintro (h | ⟨m, hm, h⟩)
    · exact ⟨hf, .inl h⟩
    · obtain ⟨y, e, h1, h2⟩ := hy m hm
      rw [e, Int.toNat_natCast] at h
      rcases h with ⟨h3, h4, h5⟩ | ⟨h3, h4, h5, h6⟩ | ⟨h3, h4, h5, h6⟩
      · exact ⟨hf, .inr (.inr (.inr ⟨h4, y, h1, h3, h2, h5⟩))⟩
      · exact ⟨hf, .inr (.inl ⟨h5, h6, y, h1, h2, h3, h4⟩)⟩
      · exact ⟨hf, .inr (.inr (.inl ⟨h5, h6, y, h1, h2, h3, h4⟩))⟩
theorem arcM_succ {may : List Int} {k p q : Nat} : ArcM n near burn src snk s t i o may (k + 1) p q ↔ ArcM n near burn src snk s t i o may k p q ∨ ArcX n near burn src snk s t i o (may.getD k 0).toNat p q := by
  constructor
  · rintro ⟨m, hm, h1⟩
    by_cases e : m = k
    · subst e; exact .inr h1
    · exact .inl ⟨m, by omega, h1⟩
  · rintro (⟨m, hm, h1⟩ | h1)
    · exact ⟨m, by omega, h1⟩
    · exact ⟨k, by omega, h1⟩
theorem arcM_all {may : List Int} (hm : may = cellsN n (freeP burn src snk)) (p q : Nat) : ArcM n near burn src snk s t i o may may.length p q ↔ ArcK n near burn src snk s t i o n p q := by
  constructor
  · rintro ⟨m, h1, h2⟩
    have := getD_mem h1
    rw [hm] at this
    obtain ⟨y, e, h3, h4⟩ := cellsN_mem.1 this
    rw [← hm] at e
    rw [e, Int.toNat_natCast] at h2
    exact ⟨y, h3, h2⟩
  · rintro ⟨y, h1, h2⟩
    have hmem : (y : Int) ∈ may := by rw [hm]; exact cellsN_mem.2 ⟨y, rfl, h1, h2.1⟩
    obtain ⟨m, h3, e⟩ := List.getElem_of_mem hmem
    exact ⟨m, h3, by rw [List.getD_eq_getElem?_getD, List.getElem?_eq_getElem h3, e]; exact h2⟩
end
section
variable {W n : Nat} {xs ss ts : List Int}
def touchesB (W : Nat) (xs ss ts : List Int) : Bool := (ss.filter fun c => brn xs c.toNat).any fun s => (ts.filter fun c => brn xs c.toNat).any fun a => apI W s.toNat a.toNat == 1
theorem touches_open (ht : setB n ts = true) : touchesB W xs ss ts = openB W n xs ss ts := by
  have htm := (setB_iff.1 ht).2
  rw [Bool.eq_iff_iff]
  unfold touchesB openB
  simp only [List.any_eq_true, List.mem_filter, Bool.and_eq_true]
  constructor
  · rintro ⟨x, ⟨hx, hb⟩, y, ⟨hy, hb2⟩, hn⟩
    obtain ⟨y0, y1⟩ := htm y hy
    obtain ⟨d, rfl⟩ := Int.eq_ofNat_of_zero_le y0
    rw [Int.toNat_natCast] at hb2 hn
    exact ⟨x, hx, hb, touch_tch.2 ⟨d, by omega, hn, hb2, hasI_iff.2 hy⟩⟩
  · rintro ⟨x, hx, hb, ht2⟩
    obtain ⟨d, hd, h1, h2, h3⟩ := touch_tch.1 ht2
    exact ⟨x, ⟨hx, hb⟩, d, ⟨hasI_iff.1 h3, by rw [Int.toNat_natCast]; exact h2⟩, by rw [Int.toNat_natCast]; exact h1⟩
/-- where there is a line no source stands beside an asset -/
theorem line_open {line : List Int} (hl : setB n line = true) (hs : setB n ss = true) (ht : setB n ts = true) (hb : lineB W n xs ss ts line = true) : openB W n xs ss ts = false := by
  obtain ⟨h1, h2⟩ := (lineB_iff hl ht).1 hb
  have hsm := (setB_iff.1 hs).2
  cases e : openB W n xs ss ts
  · rfl
  · exfalso
    unfold openB at e
    rw [List.any_eq_true] at e
    obtain ⟨x, hx, hxb⟩ := e
    rw [Bool.and_eq_true] at hxb
    obtain ⟨x0, x1⟩ := hsm x hx
    obtain ⟨c, rfl⟩ := Int.eq_ofNat_of_zero_le x0
    rw [Int.toNat_natCast] at hxb
    obtain ⟨d, hd, h3, h4, h5⟩ := touch_tch.1 hxb.2
    have hno : ∀ y : Nat, y < n → (hasI ss (y : Int) = true ∨ hasI ts (y : Int) = true) → hasI line (y : Int) = false := fun y hy h => by
      cases e2 : hasI line (y : Int)
      · rfl
      · have h6 := freeP_iff.1 (h1 y hy e2)
        rw [h6.2.1, h6.2.2] at h
        simp at h
    have hc : Reach n (nearN W) (fun k => brn xs k && !hasI line (k : Nat)) (fun k => hasI ss (k : Nat)) c := Reach.base (by omega) (hasI_iff.2 hx) (by simp [hxb.1, hno c (by omega) (.inl (hasI_iff.2 hx))])
    exact h2 d hd h5 (hc.step hd (by simp [h4, hno d hd (.inr h5)]) h3)
/-- a smallest line cannot be trimmed -/
theorem trim_min {line : List Int} (hl : setB n line = true) (ht : setB n ts = true) (hb : lineB W n xs ss ts line = true) (hf : FewT W n xs ss ts line.length) : ∀ cs : List Int, (∀ c ∈ cs, c ∈ line) → cs.foldl (trimS W n xs ss ts) line = line
  | [], _ => rfl
  | c :: cs, h => by
    rw [List.foldl_cons]
    have hno : lineB W n xs ss ts (line.filter (neI c)) = false := by
      cases e : lineB W n xs ss ts (line.filter (neI c))
      · rfl
      · have h1 := few_le hf (setB_filter _ hl) ht e
        have h2 : (line.filter (neI c)).length < line.length := by
          have h3 := h c (by simp)
          refine Nat.lt_of_le_of_ne (List.length_filter_le _ _) (fun e2 => ?_)
          have h4 := List.filter_sublist.eq_of_length e2
          rw [← h4] at h3
          have := (List.mem_filter.1 h3).2
          simp [neI] at this
        omega
    have : trimS W n xs ss ts line c = line := by unfold trimS; rw [if_neg (by rw [hno]; decide)]
    rw [this]
    exact trim_min hl ht hb hf cs (fun d hd => h d (by simp [hd]))
end
end Go.Proofs.Ytbgegmignhghnaa
