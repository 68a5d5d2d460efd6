/- Lemmas. -/
import Derived.Test.YtpoabdmapbdmfaaDoorPSeason
import Derived.Test.YtpoabdmapbdmfaaDoorPFrac
import Derived.Deep.QuietTactic
namespace Go.Proofs.YtpoabdmapbdmfaaDoor
set_option linter.unusedSimpArgs false
set_option linter.unusedVariables false
open Go.RowKit

set_option maxRecDepth 100000 in
set_option maxHeartbeats 1000000 in
theorem hectares_any (a : Option Addr) (n c : Nat) (xs : List FireI) (w : World) (h : Rd FFire w a n c xs) (h15 : n ≤ 15) (hv : ∀ x ∈ xs, fireB x = true) :
    Calls Tryd.prog 49 #[.slice a n c] w fun e w' => e = .returned (.int .i64 (sumH xs)) ∧ Below w.heap.size w w' := by
  have hn := h.cap
  have hc := h.nroom
  have HL := Lib.hid h.len
  have HV := Lib.hid hv; clear hv
  go_enter Tryd.func49, Tryd.ntmps49
  go_wp2
  go_loopw [3, 8] (fun t i wr => ∃ k : Nat, k ≤ n ∧ i = .int .i64 k ∧ t = .int .i64 (sumH (xs.take k)) ∧ Below w.heap.size w wr) (fun _ i _ => n - (intOf i).toNat)
  case atStart => exact ⟨0, Nat.zero_le _, rfl, rfl, Below.refl _ _⟩
  case round =>
    obtain ⟨k, hk, rfl, rfl, hbr⟩ := hrel
    have hb2 := sumH_bound (xs := xs.take k) (fun x hx => HV.out x (List.mem_of_mem_take hx))
    have hlk : (xs.take k).length ≤ 15 := by rw [List.length_take]; omega
    obtain ⟨t, ht⟩ : ∃ t, sumH (xs.take k) = t := ⟨_, rfl⟩
    rw [ht] at hb2
    rw [ht]
    have HT := Lib.hid ht; clear ht
    obtain ⟨t0, t1⟩ := hb2
    by_cases hlt : k < n
    · obtain ⟨b, off, rfl, _⟩ := (h.ext hbr).at' _ hlt
      obtain ⟨hb, hc0, hc1, hc2, hc3⟩ := (h.ext hbr).cellFire hlt
      have hkl : k < xs.length := by rw [HL.out]; exact hlt
      have hmem : xs.getD k FireI.zero ∈ xs := by rw [List.getD_eq_getElem?_getD, List.getElem?_eq_getElem hkl]; exact List.getElem_mem _
      have hs := sumH_succ hkl
      obtain ⟨v, hvx⟩ : ∃ v, xs.getD k FireI.zero = v := ⟨_, rfl⟩
      rw [hvx] at hc0 hc1 hc2 hc3 hmem hs
      obtain ⟨v0, v1⟩ := (fireB_true (HV.out v hmem)).2.2.1
      have HS := Lib.hid hs
      clear hvx hs hkl
      go_wp2
      go_roundw
      case rel => exact ⟨k + 1, by omega, by go_num, by rw [HS.out, HT.out], hbr.alloc hbr.size _⟩
      case measure => simp [intOf]; omega
    · obtain rfl : k = n := by omega
      go_wp2
      go_ret
      exact ⟨ri (by rw [← HT.out, List.take_of_length_le (by rw [HL.out]; exact Nat.le_refl _)]), hbr⟩

set_option maxRecDepth 100000 in
set_option maxHeartbeats 1000000 in
theorem l26Sum_any (a : Option Addr) (n c : Nat) (xs : List FireI) (w : World) (h : Rd FFire w a n c xs) (h15 : n ≤ 15) (hv : ∀ x ∈ xs, fireB x = true) :
    Calls Tryd.prog 60 #[.slice a n c] w fun e w' => e = .returned (.int .i64 (sumH xs)) ∧ w = w' := by
  have hn := h.cap
  have hc := h.nroom
  have HL := Lib.hid h.len
  have HV := Lib.hid hv; clear hv
  go_enter Tryd.func60, Tryd.ntmps60
  go_wp2
  go_loop [3, 4] (fun t i => ∃ k : Nat, k ≤ n ∧ i = .int .i64 k ∧ t = .int .i64 (sumH (xs.take k))) (fun _ i => n - (intOf i).toNat)
  case atStart => exact ⟨0, Nat.zero_le _, rfl, rfl⟩
  case round =>
    obtain ⟨k, hk, rfl, rfl⟩ := hrel
    have hb2 := sumH_bound (xs := xs.take k) (fun x hx => HV.out x (List.mem_of_mem_take hx))
    have hlk : (xs.take k).length ≤ 15 := by rw [List.length_take]; omega
    obtain ⟨t, ht⟩ : ∃ t, sumH (xs.take k) = t := ⟨_, rfl⟩
    rw [ht] at hb2
    rw [ht]
    have HT := Lib.hid ht; clear ht
    obtain ⟨t0, t1⟩ := hb2
    by_cases hlt : k < n
    · obtain ⟨b, off, rfl, _⟩ := h.at' _ hlt
      obtain ⟨hb, hc0, hc1, hc2, hc3⟩ := h.cellFire hlt
      have hkl : k < xs.length := by rw [HL.out]; exact hlt
      have hmem : xs.getD k FireI.zero ∈ xs := by rw [List.getD_eq_getElem?_getD, List.getElem?_eq_getElem hkl]; exact List.getElem_mem _
      have hs := sumH_succ hkl
      obtain ⟨v, hvx⟩ : ∃ v, xs.getD k FireI.zero = v := ⟨_, rfl⟩
      rw [hvx] at hc0 hc1 hc2 hc3 hmem hs
      obtain ⟨v0, v1⟩ := (fireB_true (HV.out v hmem)).2.2.1
      have HS := Lib.hid hs
      clear hvx hs hkl
      go_wp2
      go_round
      case rel => exact ⟨k + 1, by omega, by go_num, by rw [HS.out, HT.out]⟩
      case measure => simp [intOf]; omega
    · obtain rfl : k = n := by omega
      go_wp2
      go_ret
      exact ⟨ri (by rw [← HT.out, List.take_of_length_le (by rw [HL.out]; exact Nat.le_refl _)]), rfl⟩

structure Share3 where
  a : Int
  b : Int
  ok : Bool
def ofCause (p : Int) (x : FireI) : Bool := x.cause == p
def shareR (xs : List FireI) (p : Int) : Share3 := if seasonB xs && inB p 0 4 && !(sumH xs == 0) then ⟨redA (sumH (xs.filter (ofCause p))) (sumH xs), redB (sumH (xs.filter (ofCause p))) (sumH xs), true⟩ else ⟨0, 0, false⟩

theorem sumH_filter {xs : List FireI} (p : FireI → Bool) (h : seasonB xs = true) : 0 ≤ sumH (xs.filter p) ∧ sumH (xs.filter p) ≤ 1500000 := by
  obtain ⟨h1, h2⟩ := seasonB_true h
  have h3 := sumH_bound (xs := xs.filter p) (fun x hx => h2 x ((List.mem_filter.1 hx).1))
  have h4 := List.length_filter_le p xs
  omega

set_option maxHeartbeats 400000 in
theorem share1_any (x : FireI) (p : Int) (b : Nat) (w : World) (hb : b < w.heap.size) (hc : w.cell? ⟨b, 0, none⟩ = some (.int .i64 p)) : Calls Tryd.prog 52 #[x.val, .pointer (some ⟨b, 0, none⟩)] w fun e w' => e = .returned (.bool (ofCause p x)) ∧ Below w.heap.size w w' := by
  have HF := Lib.hid (show ofCause p x = (x.cause == p) from rfl)
  have hne : w.heap.size ≠ b := by omega
  go_enter Tryd.func52, Tryd.ntmps52
  go_wp2
  go_ret
  exact ⟨rb HF.out.symm, by (repeat' (first | exact Below.refl _ _ | with_reducible refine Below.setCell ?_ (by first | omega | (simp; done) | (simp; omega)) _ | with_reducible refine Below.alloc ?_ (by first | omega | (simp; done) | (simp; omega)) _ | with_reducible refine Below.drew ?_ | with_reducible refine bdrewN ?_ _))⟩

set_option maxRecDepth 100000 in
set_option maxHeartbeats 2000000 in
theorem implShare_any (a : Option Addr) (n c : Nat) (xs : List FireI) (p : Int) (w : World) (h : Rd FFire w a n c xs) (_hp : I64 p) :
    Calls Tryd.prog 12 #[.slice a n c, .int .i64 p] w fun e w' => e = .returned (.tuple #[.int .i64 (shareR xs p).a, .int .i64 (shareR xs p).b, .bool (shareR xs p).ok]) ∧ Below w.heap.size w w' := by
  have hn := h.cap
  have hc := h.nroom
  have HL := Lib.hid h.len
  have hM := Mem.start w
  have hmf : ∀ (fn : Fn) (first cap : Array Value) (w : World), (Instr.makeFunc fn first cap).run Tryd.prog w = .ok (.func fn first cap) w := fun _ _ _ _ => rfl
  cases hs : seasonB xs
  · have HF := Lib.hid (show shareR xs p = ⟨0, 0, false⟩ by simp [shareR, hs])
    go_enter Tryd.func12, Tryd.ntmps12
    go_wp2_with fail
    apply Mem.at
    · (repeat' (first | with_reducible exact hM | with_reducible exact hMp | with_reducible apply Mem.drew | with_reducible apply Mem.drewN | with_reducible apply Mem.alloc | with_reducible apply Mem.set | with_reducible exact Sto.row | ((with_reducible refine Sto.rowEq2 ?_ ?_); omega; rfl) | ((with_reducible refine Sto.rowEq ?_); omega) | with_reducible apply Sto.int | with_reducible apply Sto.there | with_reducible assumption | (unfold I64; omega) | (with_reducible (have hMx := Mem.undrew hM; exact hMx)) | (with_reducible (have hMx := Mem.undrew hMp; exact hMx))))
    clear hM
    intro hM
    (try simp only [World.size_alloc, World.size_setCell, World.heap_drewN, heapDrew, Nat.add_assoc, Nat.reduceAdd, List.setIfInBounds_toArray, List.set_cons_zero, List.set_cons_succ, List.cons_append, List.nil_append] at hM)
    refine (isSeason_any a n c xs _ (h.ext hM.below)).mono ?_
    rw [hs]
    rintro e w1 ⟨rfl, hb⟩
    replace hM := hM.ext hb
    clear hb
    go_wp2
    go_ret3
    exact ⟨by rw [HF.out]; rfl, (by apply Mem.below; (repeat' (first | with_reducible exact hM | with_reducible exact hMp | with_reducible apply Mem.drew | with_reducible apply Mem.drewN | with_reducible apply Mem.alloc | with_reducible apply Mem.set | with_reducible exact Sto.row | ((with_reducible refine Sto.rowEq2 ?_ ?_); omega; rfl) | ((with_reducible refine Sto.rowEq ?_); omega) | with_reducible apply Sto.int | with_reducible apply Sto.there | with_reducible assumption | (unfold I64; omega) | (with_reducible (have hMx := Mem.undrew hM; exact hMx)) | (with_reducible (have hMx := Mem.undrew hMp; exact hMx)))))⟩
  cases hp : inB p 0 4
  · have HF := Lib.hid (show shareR xs p = ⟨0, 0, false⟩ by simp [shareR, hp])
    go_enter Tryd.func12, Tryd.ntmps12
    go_wp2_with fail
    apply Mem.at
    · (repeat' (first | with_reducible exact hM | with_reducible exact hMp | with_reducible apply Mem.drew | with_reducible apply Mem.drewN | with_reducible apply Mem.alloc | with_reducible apply Mem.set | with_reducible exact Sto.row | ((with_reducible refine Sto.rowEq2 ?_ ?_); omega; rfl) | ((with_reducible refine Sto.rowEq ?_); omega) | with_reducible apply Sto.int | with_reducible apply Sto.there | with_reducible assumption | (unfold I64; omega) | (with_reducible (have hMx := Mem.undrew hM; exact hMx)) | (with_reducible (have hMx := Mem.undrew hMp; exact hMx))))
    clear hM
    intro hM
    (try simp only [World.size_alloc, World.size_setCell, World.heap_drewN, heapDrew, Nat.add_assoc, Nat.reduceAdd, List.setIfInBounds_toArray, List.set_cons_zero, List.set_cons_succ, List.cons_append, List.nil_append] at hM)
    refine (isSeason_any a n c xs _ (h.ext hM.below)).mono ?_
    rw [hs]
    rintro e w1 ⟨rfl, hb⟩
    replace hM := hM.ext hb
    clear hb
    obtain ⟨k0, f0, l0⟩ := hM.row .here
    go_wp2_with fail
    clear k0 f0 l0
    apply Mem.at
    · (repeat' (first | with_reducible exact hM | with_reducible exact hMp | with_reducible apply Mem.drew | with_reducible apply Mem.drewN | with_reducible apply Mem.alloc | with_reducible apply Mem.set | with_reducible exact Sto.row | ((with_reducible refine Sto.rowEq2 ?_ ?_); omega; rfl) | ((with_reducible refine Sto.rowEq ?_); omega) | with_reducible apply Sto.int | with_reducible apply Sto.there | with_reducible assumption | (unfold I64; omega) | (with_reducible (have hMx := Mem.undrew hM; exact hMx)) | (with_reducible (have hMx := Mem.undrew hMp; exact hMx))))
    clear hM
    intro hM
    (try simp only [World.size_alloc, World.size_setCell, World.heap_drewN, heapDrew, Nat.add_assoc, Nat.reduceAdd, List.setIfInBounds_toArray, List.set_cons_zero, List.set_cons_succ, List.cons_append, List.nil_append] at hM)
    refine (in_any _ _ _ _).mono ?_
    rw [hp]
    rintro e w2 ⟨rfl, rfl⟩
    go_wp2
    go_ret3
    exact ⟨by rw [HF.out]; rfl, (by apply Mem.below; (repeat' (first | with_reducible exact hM | with_reducible exact hMp | with_reducible apply Mem.drew | with_reducible apply Mem.drewN | with_reducible apply Mem.alloc | with_reducible apply Mem.set | with_reducible exact Sto.row | ((with_reducible refine Sto.rowEq2 ?_ ?_); omega; rfl) | ((with_reducible refine Sto.rowEq ?_); omega) | with_reducible apply Sto.int | with_reducible apply Sto.there | with_reducible assumption | (unfold I64; omega) | (with_reducible (have hMx := Mem.undrew hM; exact hMx)) | (with_reducible (have hMx := Mem.undrew hMp; exact hMx)))))⟩
  obtain ⟨v15, vall⟩ := seasonB_true hs
  have hsb := sumH_filter (fun _ => true) hs
  have hcb := sumH_filter (ofCause p) hs
  rw [show xs.filter (fun _ => true) = xs from List.filter_eq_self.2 (by simp)] at hsb
  rw [h.len] at v15
  have HV := Lib.hid vall; clear vall
  obtain ⟨t, ht⟩ : ∃ t, sumH xs = t := ⟨_, rfl⟩
  rw [ht] at hsb
  obtain ⟨t0, t1⟩ := hsb
  by_cases h0 : t = 0
  · have HF := Lib.hid (show shareR xs p = ⟨0, 0, false⟩ by simp [shareR, ht, h0])
    have HT := Lib.hid ht; clear ht
    subst h0
    have HS := Lib.hid hs; have HP := Lib.hid hp; clear hs hp
    go_enter Tryd.func12, Tryd.ntmps12
    go_wp2_with fail
    apply Mem.at
    · (repeat' (first | with_reducible exact hM | with_reducible exact hMp | with_reducible apply Mem.drew | with_reducible apply Mem.drewN | with_reducible apply Mem.alloc | with_reducible apply Mem.set | with_reducible exact Sto.row | ((with_reducible refine Sto.rowEq2 ?_ ?_); omega; rfl) | ((with_reducible refine Sto.rowEq ?_); omega) | with_reducible apply Sto.int | with_reducible apply Sto.there | with_reducible assumption | (unfold I64; omega) | (with_reducible (have hMx := Mem.undrew hM; exact hMx)) | (with_reducible (have hMx := Mem.undrew hMp; exact hMx))))
    clear hM
    intro hM
    (try simp only [World.size_alloc, World.size_setCell, World.heap_drewN, heapDrew, Nat.add_assoc, Nat.reduceAdd, List.setIfInBounds_toArray, List.set_cons_zero, List.set_cons_succ, List.cons_append, List.nil_append] at hM)
    refine (isSeason_any a n c xs _ (h.ext hM.below)).mono ?_
    rw [HS.out]
    rintro e w1 ⟨rfl, hb⟩
    replace hM := hM.ext hb
    clear hb
    obtain ⟨k0, f0, l0⟩ := hM.row .here
    go_wp2_with fail
    clear k0 f0 l0
    apply Mem.at
    · (repeat' (first | with_reducible exact hM | with_reducible exact hMp | with_reducible apply Mem.drew | with_reducible apply Mem.drewN | with_reducible apply Mem.alloc | with_reducible apply Mem.set | with_reducible exact Sto.row | ((with_reducible refine Sto.rowEq2 ?_ ?_); omega; rfl) | ((with_reducible refine Sto.rowEq ?_); omega) | with_reducible apply Sto.int | with_reducible apply Sto.there | with_reducible assumption | (unfold I64; omega) | (with_reducible (have hMx := Mem.undrew hM; exact hMx)) | (with_reducible (have hMx := Mem.undrew hMp; exact hMx))))
    clear hM
    intro hM
    (try simp only [World.size_alloc, World.size_setCell, World.heap_drewN, heapDrew, Nat.add_assoc, Nat.reduceAdd, List.setIfInBounds_toArray, List.set_cons_zero, List.set_cons_succ, List.cons_append, List.nil_append] at hM)
    refine (in_any _ _ _ _).mono ?_
    rw [HP.out]
    rintro e w2 ⟨rfl, rfl⟩
    go_wp2_with fail
    apply Mem.at
    · (repeat' (first | with_reducible exact hM | with_reducible exact hMp | with_reducible apply Mem.drew | with_reducible apply Mem.drewN | with_reducible apply Mem.alloc | with_reducible apply Mem.set | with_reducible exact Sto.row | ((with_reducible refine Sto.rowEq2 ?_ ?_); omega; rfl) | ((with_reducible refine Sto.rowEq ?_); omega) | with_reducible apply Sto.int | with_reducible apply Sto.there | with_reducible assumption | (unfold I64; omega) | (with_reducible (have hMx := Mem.undrew hM; exact hMx)) | (with_reducible (have hMx := Mem.undrew hMp; exact hMx))))
    clear hM
    intro hM
    (try simp only [World.size_alloc, World.size_setCell, World.heap_drewN, heapDrew, Nat.add_assoc, Nat.reduceAdd, List.setIfInBounds_toArray, List.set_cons_zero, List.set_cons_succ, List.cons_append, List.nil_append] at hM)
    refine (hectares_any a n c xs _ (h.ext hM.below) v15 HV.out).mono ?_
    rw [HT.out]
    rintro e w3 ⟨rfl, hb⟩
    replace hM := hM.ext hb
    clear hb
    go_wp2
    go_ret3
    exact ⟨by rw [HF.out]; rfl, (by apply Mem.below; (repeat' (first | with_reducible exact hM | with_reducible exact hMp | with_reducible apply Mem.drew | with_reducible apply Mem.drewN | with_reducible apply Mem.alloc | with_reducible apply Mem.set | with_reducible exact Sto.row | ((with_reducible refine Sto.rowEq2 ?_ ?_); omega; rfl) | ((with_reducible refine Sto.rowEq ?_); omega) | with_reducible apply Sto.int | with_reducible apply Sto.there | with_reducible assumption | (unfold I64; omega) | (with_reducible (have hMx := Mem.undrew hM; exact hMx)) | (with_reducible (have hMx := Mem.undrew hMp; exact hMx)))))⟩
  · have HF := Lib.hid (show shareR xs p = ⟨redA (sumH (xs.filter (ofCause p))) t, redB (sumH (xs.filter (ofCause p))) t, true⟩ by simp [shareR, hs, hp, ht, h0])
    have HT := Lib.hid ht; clear ht
    have HS := Lib.hid hs; have HP := Lib.hid hp; clear hs hp
    have htz : (t == 0) = false := by simpa using h0
    have tp : 0 < t := by omega
    have hfl : (xs.filter (ofCause p)).length ≤ 15 := Nat.le_trans (List.length_filter_le _ _) (by rw [HL.out]; exact v15)
    obtain ⟨ys, hys⟩ : ∃ ys, xs.filter (ofCause p) = ys := ⟨_, rfl⟩
    have HVY : Hid (∀ x ∈ ys, fireB x = true) := by rw [← hys]; exact fun x hx => HV.out x ((List.mem_filter.1 hx).1)
    rw [hys] at HF hcb hfl
    have HY := Lib.hid hys; clear hys
    obtain ⟨s, hsy⟩ : ∃ s, sumH ys = s := ⟨_, rfl⟩
    rw [hsy] at HF hcb
    have HSY := Lib.hid hsy; clear hsy
    obtain ⟨s0, s1⟩ := hcb
    go_enter Tryd.func12, Tryd.ntmps12
    go_wp2_with fail
    apply Mem.at
    · (repeat' (first | with_reducible exact hM | with_reducible exact hMp | with_reducible apply Mem.drew | with_reducible apply Mem.drewN | with_reducible apply Mem.alloc | with_reducible apply Mem.set | with_reducible exact Sto.row | ((with_reducible refine Sto.rowEq2 ?_ ?_); omega; rfl) | ((with_reducible refine Sto.rowEq ?_); omega) | with_reducible apply Sto.int | with_reducible apply Sto.there | with_reducible assumption | (unfold I64; omega) | (with_reducible (have hMx := Mem.undrew hM; exact hMx)) | (with_reducible (have hMx := Mem.undrew hMp; exact hMx))))
    clear hM
    intro hM
    (try simp only [World.size_alloc, World.size_setCell, World.heap_drewN, heapDrew, Nat.add_assoc, Nat.reduceAdd, List.setIfInBounds_toArray, List.set_cons_zero, List.set_cons_succ, List.cons_append, List.nil_append] at hM)
    refine (isSeason_any a n c xs _ (h.ext hM.below)).mono ?_
    rw [HS.out]
    rintro e w1 ⟨rfl, hb⟩
    replace hM := hM.ext hb
    clear hb
    obtain ⟨k0, f0, l0⟩ := hM.row .here
    go_wp2_with fail
    clear k0 f0 l0
    apply Mem.at
    · (repeat' (first | with_reducible exact hM | with_reducible exact hMp | with_reducible apply Mem.drew | with_reducible apply Mem.drewN | with_reducible apply Mem.alloc | with_reducible apply Mem.set | with_reducible exact Sto.row | ((with_reducible refine Sto.rowEq2 ?_ ?_); omega; rfl) | ((with_reducible refine Sto.rowEq ?_); omega) | with_reducible apply Sto.int | with_reducible apply Sto.there | with_reducible assumption | (unfold I64; omega) | (with_reducible (have hMx := Mem.undrew hM; exact hMx)) | (with_reducible (have hMx := Mem.undrew hMp; exact hMx))))
    clear hM
    intro hM
    (try simp only [World.size_alloc, World.size_setCell, World.heap_drewN, heapDrew, Nat.add_assoc, Nat.reduceAdd, List.setIfInBounds_toArray, List.set_cons_zero, List.set_cons_succ, List.cons_append, List.nil_append] at hM)
    refine (in_any _ _ _ _).mono ?_
    rw [HP.out]
    rintro e w2 ⟨rfl, rfl⟩
    go_wp2_with fail
    apply Mem.at
    · (repeat' (first | with_reducible exact hM | with_reducible exact hMp | with_reducible apply Mem.drew | with_reducible apply Mem.drewN | with_reducible apply Mem.alloc | with_reducible apply Mem.set | with_reducible exact Sto.row | ((with_reducible refine Sto.rowEq2 ?_ ?_); omega; rfl) | ((with_reducible refine Sto.rowEq ?_); omega) | with_reducible apply Sto.int | with_reducible apply Sto.there | with_reducible assumption | (unfold I64; omega) | (with_reducible (have hMx := Mem.undrew hM; exact hMx)) | (with_reducible (have hMx := Mem.undrew hMp; exact hMx))))
    clear hM
    intro hM
    (try simp only [World.size_alloc, World.size_setCell, World.heap_drewN, heapDrew, Nat.add_assoc, Nat.reduceAdd, List.setIfInBounds_toArray, List.set_cons_zero, List.set_cons_succ, List.cons_append, List.nil_append] at hM)
    refine (hectares_any a n c xs _ (h.ext hM.below) v15 HV.out).mono ?_
    rw [HT.out]
    rintro e w3 ⟨rfl, hb⟩
    replace hM := hM.ext hb
    clear hb
    go_wp2_with fail
    apply Mem.at
    · (repeat' (first | with_reducible exact hM | with_reducible exact hMp | with_reducible apply Mem.drew | with_reducible apply Mem.drewN | with_reducible apply Mem.alloc | with_reducible apply Mem.set | with_reducible exact Sto.row | ((with_reducible refine Sto.rowEq2 ?_ ?_); omega; rfl) | ((with_reducible refine Sto.rowEq ?_); omega) | with_reducible apply Sto.int | with_reducible apply Sto.there | with_reducible assumption | (unfold I64; omega) | (with_reducible (have hMx := Mem.undrew hM; exact hMx)) | (with_reducible (have hMx := Mem.undrew hMp; exact hMx))))
    clear hM
    intro hM
    (try simp only [World.size_alloc, World.size_setCell, World.heap_drewN, heapDrew, Nat.add_assoc, Nat.reduceAdd, List.setIfInBounds_toArray, List.set_cons_zero, List.set_cons_succ, List.cons_append, List.nil_append] at hM)
    refine (filterFire_any _ _ (ofCause p) a n c xs _ (h.ext hM.below) (enters Tryd.func52 (by kernel_rfl) rfl) (fun v _ w' hb => by
      have hr := (hM.row .here).ext hb
      exact share1_any v p _ w' hr.lt (hr.cell 0))).mono ?_
    rw [HY.out]
    rintro e w4 ⟨a', c', rfl, hO, hb⟩
    replace hM := hM.owned hb hO
    clear hb hO
    go_wp2_with fail
    apply Mem.at
    · (repeat' (first | with_reducible exact hM | with_reducible exact hMp | with_reducible apply Mem.drew | with_reducible apply Mem.drewN | with_reducible apply Mem.alloc | with_reducible apply Mem.set | with_reducible exact Sto.row | ((with_reducible refine Sto.rowEq2 ?_ ?_); omega; rfl) | ((with_reducible refine Sto.rowEq ?_); omega) | with_reducible apply Sto.int | with_reducible apply Sto.there | with_reducible assumption | (unfold I64; omega) | (with_reducible (have hMx := Mem.undrew hM; exact hMx)) | (with_reducible (have hMx := Mem.undrew hMp; exact hMx))))
    clear hM
    intro hM
    (try simp only [World.size_alloc, World.size_setCell, World.heap_drewN, heapDrew, Nat.add_assoc, Nat.reduceAdd, List.setIfInBounds_toArray, List.set_cons_zero, List.set_cons_succ, List.cons_append, List.nil_append] at hM)
    refine (hectares_any a' _ c' ys _ (hM.ow .here).rd hfl HVY.out).mono ?_
    rw [HSY.out]
    rintro e w5 ⟨rfl, hb⟩
    replace hM := hM.ext hb
    clear hb
    go_wp2_with fail
    apply Mem.at
    · (repeat' (first | with_reducible exact hM | with_reducible exact hMp | with_reducible apply Mem.drew | with_reducible apply Mem.drewN | with_reducible apply Mem.alloc | with_reducible apply Mem.set | with_reducible exact Sto.row | ((with_reducible refine Sto.rowEq2 ?_ ?_); omega; rfl) | ((with_reducible refine Sto.rowEq ?_); omega) | with_reducible apply Sto.int | with_reducible apply Sto.there | with_reducible assumption | (unfold I64; omega) | (with_reducible (have hMx := Mem.undrew hM; exact hMx)) | (with_reducible (have hMx := Mem.undrew hMp; exact hMx))))
    clear hM
    intro hM
    (try simp only [World.size_alloc, World.size_setCell, World.heap_drewN, heapDrew, Nat.add_assoc, Nat.reduceAdd, List.setIfInBounds_toArray, List.set_cons_zero, List.set_cons_succ, List.cons_append, List.nil_append] at hM)
    refine (hectares_any a n c xs _ (h.ext hM.below) v15 HV.out).mono ?_
    rw [HT.out]
    rintro e w6 ⟨rfl, hb⟩
    replace hM := hM.ext hb
    clear hb
    go_wp2_with fail
    apply Mem.at
    · (repeat' (first | with_reducible exact hM | with_reducible exact hMp | with_reducible apply Mem.drew | with_reducible apply Mem.drewN | with_reducible apply Mem.alloc | with_reducible apply Mem.set | with_reducible exact Sto.row | ((with_reducible refine Sto.rowEq2 ?_ ?_); omega; rfl) | ((with_reducible refine Sto.rowEq ?_); omega) | with_reducible apply Sto.int | with_reducible apply Sto.there | with_reducible assumption | (unfold I64; omega) | (with_reducible (have hMx := Mem.undrew hM; exact hMx)) | (with_reducible (have hMx := Mem.undrew hMp; exact hMx))))
    clear hM
    intro hM
    (try simp only [World.size_alloc, World.size_setCell, World.heap_drewN, heapDrew, Nat.add_assoc, Nat.reduceAdd, List.setIfInBounds_toArray, List.set_cons_zero, List.set_cons_succ, List.cons_append, List.nil_append] at hM)
    refine (fraction_any s t _ ⟨s0, by omega⟩ ⟨tp, by omega⟩).mono ?_
    rintro e w7 ⟨rfl, hb⟩
    replace hM := hM.ext hb
    clear hb
    go_wp2
    go_ret3
    exact ⟨by rw [HF.out]; rfl, (by apply Mem.below; (repeat' (first | with_reducible exact hM | with_reducible exact hMp | with_reducible apply Mem.drew | with_reducible apply Mem.drewN | with_reducible apply Mem.alloc | with_reducible apply Mem.set | with_reducible exact Sto.row | ((with_reducible refine Sto.rowEq2 ?_ ?_); omega; rfl) | ((with_reducible refine Sto.rowEq ?_); omega) | with_reducible apply Sto.int | with_reducible apply Sto.there | with_reducible assumption | (unfold I64; omega) | (with_reducible (have hMx := Mem.undrew hM; exact hMx)) | (with_reducible (have hMx := Mem.undrew hMp; exact hMx)))))⟩

set_option maxRecDepth 100000 in
set_option maxHeartbeats 2000000 in
theorem specShare_any (a : Option Addr) (n c : Nat) (xs : List FireI) (p : Int) (w : World) (h : Rd FFire w a n c xs) (_hp : I64 p) :
    Calls Tryd.prog 18 #[.slice a n c, .int .i64 p] w fun e w' => e = .returned (.tuple #[.int .i64 (shareR xs p).a, .int .i64 (shareR xs p).b, .bool (shareR xs p).ok]) ∧ Below w.heap.size w w' := by
  have hn := h.cap
  have hc := h.nroom
  have HL := Lib.hid h.len
  have hM := Mem.start w
  cases hs : seasonB xs
  · have HF := Lib.hid (show shareR xs p = ⟨0, 0, false⟩ by simp [shareR, hs])
    go_enter Tryd.func18, Tryd.ntmps18
    go_wp2_with fail
    apply Mem.at
    · (repeat' (first | with_reducible exact hM | with_reducible exact hMp | with_reducible apply Mem.drew | with_reducible apply Mem.drewN | with_reducible apply Mem.alloc | with_reducible apply Mem.set | with_reducible exact Sto.row | ((with_reducible refine Sto.rowEq2 ?_ ?_); omega; rfl) | ((with_reducible refine Sto.rowEq ?_); omega) | with_reducible apply Sto.int | with_reducible apply Sto.there | with_reducible assumption | (unfold I64; omega) | (with_reducible (have hMx := Mem.undrew hM; exact hMx)) | (with_reducible (have hMx := Mem.undrew hMp; exact hMx))))
    clear hM
    intro hM
    (try simp only [World.size_alloc, World.size_setCell, World.heap_drewN, heapDrew, Nat.add_assoc, Nat.reduceAdd, List.setIfInBounds_toArray, List.set_cons_zero, List.set_cons_succ, List.cons_append, List.nil_append] at hM)
    refine (l26Good_any a n c xs _ (h.ext hM.below)).mono ?_
    rw [hs]
    rintro e w1 ⟨rfl, hb⟩
    replace hM := hM.ext hb
    clear hb
    go_wp2
    go_ret3
    exact ⟨by rw [HF.out]; rfl, (by apply Mem.below; (repeat' (first | with_reducible exact hM | with_reducible exact hMp | with_reducible apply Mem.drew | with_reducible apply Mem.drewN | with_reducible apply Mem.alloc | with_reducible apply Mem.set | with_reducible exact Sto.row | ((with_reducible refine Sto.rowEq2 ?_ ?_); omega; rfl) | ((with_reducible refine Sto.rowEq ?_); omega) | with_reducible apply Sto.int | with_reducible apply Sto.there | with_reducible assumption | (unfold I64; omega) | (with_reducible (have hMx := Mem.undrew hM; exact hMx)) | (with_reducible (have hMx := Mem.undrew hMp; exact hMx)))))⟩
  cases hp : inB p 0 4
  · have HF := Lib.hid (show shareR xs p = ⟨0, 0, false⟩ by simp [shareR, hp])
    go_enter Tryd.func18, Tryd.ntmps18
    go_wp2_with fail
    apply Mem.at
    · (repeat' (first | with_reducible exact hM | with_reducible exact hMp | with_reducible apply Mem.drew | with_reducible apply Mem.drewN | with_reducible apply Mem.alloc | with_reducible apply Mem.set | with_reducible exact Sto.row | ((with_reducible refine Sto.rowEq2 ?_ ?_); omega; rfl) | ((with_reducible refine Sto.rowEq ?_); omega) | with_reducible apply Sto.int | with_reducible apply Sto.there | with_reducible assumption | (unfold I64; omega) | (with_reducible (have hMx := Mem.undrew hM; exact hMx)) | (with_reducible (have hMx := Mem.undrew hMp; exact hMx))))
    clear hM
    intro hM
    (try simp only [World.size_alloc, World.size_setCell, World.heap_drewN, heapDrew, Nat.add_assoc, Nat.reduceAdd, List.setIfInBounds_toArray, List.set_cons_zero, List.set_cons_succ, List.cons_append, List.nil_append] at hM)
    refine (l26Good_any a n c xs _ (h.ext hM.below)).mono ?_
    rw [hs]
    rintro e w1 ⟨rfl, hb⟩
    replace hM := hM.ext hb
    clear hb
    go_wp2_with fail
    apply Mem.at
    · (repeat' (first | with_reducible exact hM | with_reducible exact hMp | with_reducible apply Mem.drew | with_reducible apply Mem.drewN | with_reducible apply Mem.alloc | with_reducible apply Mem.set | with_reducible exact Sto.row | ((with_reducible refine Sto.rowEq2 ?_ ?_); omega; rfl) | ((with_reducible refine Sto.rowEq ?_); omega) | with_reducible apply Sto.int | with_reducible apply Sto.there | with_reducible assumption | (unfold I64; omega) | (with_reducible (have hMx := Mem.undrew hM; exact hMx)) | (with_reducible (have hMx := Mem.undrew hMp; exact hMx))))
    clear hM
    intro hM
    (try simp only [World.size_alloc, World.size_setCell, World.heap_drewN, heapDrew, Nat.add_assoc, Nat.reduceAdd, List.setIfInBounds_toArray, List.set_cons_zero, List.set_cons_succ, List.cons_append, List.nil_append] at hM)
    refine (l1In_any _ _ _ _).mono ?_
    rw [hp]
    rintro e w2 ⟨rfl, rfl⟩
    go_wp2
    go_ret3
    exact ⟨by rw [HF.out]; rfl, (by apply Mem.below; (repeat' (first | with_reducible exact hM | with_reducible exact hMp | with_reducible apply Mem.drew | with_reducible apply Mem.drewN | with_reducible apply Mem.alloc | with_reducible apply Mem.set | with_reducible exact Sto.row | ((with_reducible refine Sto.rowEq2 ?_ ?_); omega; rfl) | ((with_reducible refine Sto.rowEq ?_); omega) | with_reducible apply Sto.int | with_reducible apply Sto.there | with_reducible assumption | (unfold I64; omega) | (with_reducible (have hMx := Mem.undrew hM; exact hMx)) | (with_reducible (have hMx := Mem.undrew hMp; exact hMx)))))⟩
  obtain ⟨v15, vall⟩ := seasonB_true hs
  have hsb := sumH_filter (fun _ => true) hs
  have hcb := sumH_filter (ofCause p) hs
  rw [show xs.filter (fun _ => true) = xs from List.filter_eq_self.2 (by simp)] at hsb
  rw [h.len] at v15
  have HV := Lib.hid vall; clear vall
  obtain ⟨t, ht⟩ : ∃ t, sumH xs = t := ⟨_, rfl⟩
  rw [ht] at hsb
  obtain ⟨t0, t1⟩ := hsb
  by_cases h0 : t = 0
  · have HF := Lib.hid (show shareR xs p = ⟨0, 0, false⟩ by simp [shareR, ht, h0])
    have HT := Lib.hid ht; clear ht
    subst h0
    have HS := Lib.hid hs; have HP := Lib.hid hp; clear hs hp
    go_enter Tryd.func18, Tryd.ntmps18
    go_wp2_with fail
    apply Mem.at
    · (repeat' (first | with_reducible exact hM | with_reducible exact hMp | with_reducible apply Mem.drew | with_reducible apply Mem.drewN | with_reducible apply Mem.alloc | with_reducible apply Mem.set | with_reducible exact Sto.row | ((with_reducible refine Sto.rowEq2 ?_ ?_); omega; rfl) | ((with_reducible refine Sto.rowEq ?_); omega) | with_reducible apply Sto.int | with_reducible apply Sto.there | with_reducible assumption | (unfold I64; omega) | (with_reducible (have hMx := Mem.undrew hM; exact hMx)) | (with_reducible (have hMx := Mem.undrew hMp; exact hMx))))
    clear hM
    intro hM
    (try simp only [World.size_alloc, World.size_setCell, World.heap_drewN, heapDrew, Nat.add_assoc, Nat.reduceAdd, List.setIfInBounds_toArray, List.set_cons_zero, List.set_cons_succ, List.cons_append, List.nil_append] at hM)
    refine (l26Good_any a n c xs _ (h.ext hM.below)).mono ?_
    rw [HS.out]
    rintro e w1 ⟨rfl, hb⟩
    replace hM := hM.ext hb
    clear hb
    go_wp2_with fail
    apply Mem.at
    · (repeat' (first | with_reducible exact hM | with_reducible exact hMp | with_reducible apply Mem.drew | with_reducible apply Mem.drewN | with_reducible apply Mem.alloc | with_reducible apply Mem.set | with_reducible exact Sto.row | ((with_reducible refine Sto.rowEq2 ?_ ?_); omega; rfl) | ((with_reducible refine Sto.rowEq ?_); omega) | with_reducible apply Sto.int | with_reducible apply Sto.there | with_reducible assumption | (unfold I64; omega) | (with_reducible (have hMx := Mem.undrew hM; exact hMx)) | (with_reducible (have hMx := Mem.undrew hMp; exact hMx))))
    clear hM
    intro hM
    (try simp only [World.size_alloc, World.size_setCell, World.heap_drewN, heapDrew, Nat.add_assoc, Nat.reduceAdd, List.setIfInBounds_toArray, List.set_cons_zero, List.set_cons_succ, List.cons_append, List.nil_append] at hM)
    refine (l1In_any _ _ _ _).mono ?_
    rw [HP.out]
    rintro e w2 ⟨rfl, rfl⟩
    go_wp2_with fail
    apply Mem.at
    · (repeat' (first | with_reducible exact hM | with_reducible exact hMp | with_reducible apply Mem.drew | with_reducible apply Mem.drewN | with_reducible apply Mem.alloc | with_reducible apply Mem.set | with_reducible exact Sto.row | ((with_reducible refine Sto.rowEq2 ?_ ?_); omega; rfl) | ((with_reducible refine Sto.rowEq ?_); omega) | with_reducible apply Sto.int | with_reducible apply Sto.there | with_reducible assumption | (unfold I64; omega) | (with_reducible (have hMx := Mem.undrew hM; exact hMx)) | (with_reducible (have hMx := Mem.undrew hMp; exact hMx))))
    clear hM
    intro hM
    (try simp only [World.size_alloc, World.size_setCell, World.heap_drewN, heapDrew, Nat.add_assoc, Nat.reduceAdd, List.setIfInBounds_toArray, List.set_cons_zero, List.set_cons_succ, List.cons_append, List.nil_append] at hM)
    refine (l26Sum_any a n c xs _ (h.ext hM.below) v15 HV.out).mono ?_
    rw [HT.out]
    rintro e w3 ⟨rfl, rfl⟩
    go_wp2
    go_ret3
    exact ⟨by rw [HF.out]; rfl, (by apply Mem.below; (repeat' (first | with_reducible exact hM | with_reducible exact hMp | with_reducible apply Mem.drew | with_reducible apply Mem.drewN | with_reducible apply Mem.alloc | with_reducible apply Mem.set | with_reducible exact Sto.row | ((with_reducible refine Sto.rowEq2 ?_ ?_); omega; rfl) | ((with_reducible refine Sto.rowEq ?_); omega) | with_reducible apply Sto.int | with_reducible apply Sto.there | with_reducible assumption | (unfold I64; omega) | (with_reducible (have hMx := Mem.undrew hM; exact hMx)) | (with_reducible (have hMx := Mem.undrew hMp; exact hMx)))))⟩
  · have HF := Lib.hid (show shareR xs p = ⟨redA (sumH (xs.filter (ofCause p))) t, redB (sumH (xs.filter (ofCause p))) t, true⟩ by simp [shareR, hs, hp, ht, h0])
    have HT := Lib.hid ht; clear ht
    have HC : Hid (∀ k, 0 ≤ sumH ((xs.take k).filter (ofCause p)) ∧ sumH ((xs.take k).filter (ofCause p)) ≤ 100000 * k) := fun k => by
      have h3 := sumH_bound (xs := (xs.take k).filter (ofCause p)) (fun x hx => HV.out x (List.mem_of_mem_take ((List.mem_filter.1 hx).1)))
      have h4 := List.length_filter_le (ofCause p) (xs.take k)
      have h5 : (xs.take k).length ≤ k := List.length_take_le _ _
      omega
    have HS := Lib.hid hs; have HP := Lib.hid hp; clear hs hp
    have htz : (t == 0) = false := by simpa using h0
    have tp : 0 < t := by omega
    obtain ⟨s, hsy⟩ : ∃ s, sumH (xs.filter (ofCause p)) = s := ⟨_, rfl⟩
    rw [hsy] at HF hcb
    have HSY := Lib.hid hsy; clear hsy
    obtain ⟨s0, s1⟩ := hcb
    go_enter Tryd.func18, Tryd.ntmps18
    go_wp2_with fail
    apply Mem.at
    · (repeat' (first | with_reducible exact hM | with_reducible exact hMp | with_reducible apply Mem.drew | with_reducible apply Mem.drewN | with_reducible apply Mem.alloc | with_reducible apply Mem.set | with_reducible exact Sto.row | ((with_reducible refine Sto.rowEq2 ?_ ?_); omega; rfl) | ((with_reducible refine Sto.rowEq ?_); omega) | with_reducible apply Sto.int | with_reducible apply Sto.there | with_reducible assumption | (unfold I64; omega) | (with_reducible (have hMx := Mem.undrew hM; exact hMx)) | (with_reducible (have hMx := Mem.undrew hMp; exact hMx))))
    clear hM
    intro hM
    (try simp only [World.size_alloc, World.size_setCell, World.heap_drewN, heapDrew, Nat.add_assoc, Nat.reduceAdd, List.setIfInBounds_toArray, List.set_cons_zero, List.set_cons_succ, List.cons_append, List.nil_append] at hM)
    refine (l26Good_any a n c xs _ (h.ext hM.below)).mono ?_
    rw [HS.out]
    rintro e w1 ⟨rfl, hb⟩
    replace hM := hM.ext hb
    clear hb
    go_wp2_with fail
    apply Mem.at
    · (repeat' (first | with_reducible exact hM | with_reducible exact hMp | with_reducible apply Mem.drew | with_reducible apply Mem.drewN | with_reducible apply Mem.alloc | with_reducible apply Mem.set | with_reducible exact Sto.row | ((with_reducible refine Sto.rowEq2 ?_ ?_); omega; rfl) | ((with_reducible refine Sto.rowEq ?_); omega) | with_reducible apply Sto.int | with_reducible apply Sto.there | with_reducible assumption | (unfold I64; omega) | (with_reducible (have hMx := Mem.undrew hM; exact hMx)) | (with_reducible (have hMx := Mem.undrew hMp; exact hMx))))
    clear hM
    intro hM
    (try simp only [World.size_alloc, World.size_setCell, World.heap_drewN, heapDrew, Nat.add_assoc, Nat.reduceAdd, List.setIfInBounds_toArray, List.set_cons_zero, List.set_cons_succ, List.cons_append, List.nil_append] at hM)
    refine (l1In_any _ _ _ _).mono ?_
    rw [HP.out]
    rintro e w2 ⟨rfl, rfl⟩
    go_wp2_with fail
    apply Mem.at
    · (repeat' (first | with_reducible exact hM | with_reducible exact hMp | with_reducible apply Mem.drew | with_reducible apply Mem.drewN | with_reducible apply Mem.alloc | with_reducible apply Mem.set | with_reducible exact Sto.row | ((with_reducible refine Sto.rowEq2 ?_ ?_); omega; rfl) | ((with_reducible refine Sto.rowEq ?_); omega) | with_reducible apply Sto.int | with_reducible apply Sto.there | with_reducible assumption | (unfold I64; omega) | (with_reducible (have hMx := Mem.undrew hM; exact hMx)) | (with_reducible (have hMx := Mem.undrew hMp; exact hMx))))
    clear hM
    intro hM
    (try simp only [World.size_alloc, World.size_setCell, World.heap_drewN, heapDrew, Nat.add_assoc, Nat.reduceAdd, List.setIfInBounds_toArray, List.set_cons_zero, List.set_cons_succ, List.cons_append, List.nil_append] at hM)
    refine (l26Sum_any a n c xs _ (h.ext hM.below) v15 HV.out).mono ?_
    rw [HT.out]
    rintro e w3 ⟨rfl, rfl⟩
    go_wp2
    go_loop [7, 8] (fun t i => ∃ k : Nat, k ≤ n ∧ i = .int .i64 k ∧ t = .int .i64 (sumH ((xs.take k).filter (ofCause p)))) (fun _ i => n - (intOf i).toNat)
    case atStart => exact ⟨0, Nat.zero_le _, rfl, rfl⟩
    case round =>
      obtain ⟨k, hk, rfl, rfl⟩ := hrel
      obtain ⟨q, hq⟩ : ∃ q, sumH ((xs.take k).filter (ofCause p)) = q := ⟨_, rfl⟩
      have hqb := HC.out k
      rw [hq] at hqb
      rw [hq]
      have HQ := Lib.hid hq; clear hq
      obtain ⟨q0, q1⟩ := hqb
      by_cases hlt : k < n
      · obtain ⟨b, off, rfl, _⟩ := (h.ext hM.below).at' _ hlt
        obtain ⟨hb, hc0, hc1, hc2, hc3⟩ := (h.ext hM.below).cellFire hlt
        have hkl : k < xs.length := by rw [HL.out]; exact hlt
        have hmem : xs.getD k FireI.zero ∈ xs := by rw [List.getD_eq_getElem?_getD, List.getElem?_eq_getElem hkl]; exact List.getElem_mem _
        have htk := take_succV hkl (z := FireI.zero)
        obtain ⟨v, hvx⟩ : ∃ v, xs.getD k FireI.zero = v := ⟨_, rfl⟩
        rw [hvx] at hc0 hc1 hc2 hc3 hmem htk
        obtain ⟨v0, v1⟩ := (fireB_true (HV.out v hmem)).2.2.1
        have HTK := Lib.hid htk
        clear hvx htk hkl hc0 hc3
        cases hcp : ofCause p v
        · have hcc : (v.cause == p) = false := hcp
          go_wp2
          go_round
          case rel => exact ⟨k + 1, by omega, by go_num, by rw [HTK.out, List.filter_append, ← HQ.out]; simp [hcp]⟩
          case measure => simp [intOf]; omega
        · have hcc : (v.cause == p) = true := hcp
          go_wp2
          go_round
          case rel => exact ⟨k + 1, by omega, by go_num, by rw [HTK.out, List.filter_append, ← HQ.out]; simp [hcp, sumH]⟩
          case measure => simp [intOf]; omega
      · obtain rfl : k = n := by omega
        have hqs : q = s := by rw [← HQ.out, List.take_of_length_le (by rw [HL.out]; exact Nat.le_refl _), HSY.out]
        subst hqs
        go_wp2_with fail
        apply Mem.at
        · (repeat' (first | with_reducible exact hM | with_reducible exact hMp | with_reducible apply Mem.drew | with_reducible apply Mem.drewN | with_reducible apply Mem.alloc | with_reducible apply Mem.set | with_reducible exact Sto.row | ((with_reducible refine Sto.rowEq2 ?_ ?_); omega; rfl) | ((with_reducible refine Sto.rowEq ?_); omega) | with_reducible apply Sto.int | with_reducible apply Sto.there | with_reducible assumption | (unfold I64; omega) | (with_reducible (have hMx := Mem.undrew hM; exact hMx)) | (with_reducible (have hMx := Mem.undrew hMp; exact hMx))))
        clear hM
        intro hM
        (try simp only [World.size_alloc, World.size_setCell, World.heap_drewN, heapDrew, Nat.add_assoc, Nat.reduceAdd, List.setIfInBounds_toArray, List.set_cons_zero, List.set_cons_succ, List.cons_append, List.nil_append] at hM)
        refine (l26Sum_any a _ c xs _ (h.ext hM.below) v15 HV.out).mono ?_
        rw [HT.out]
        rintro e w6 ⟨rfl, rfl⟩
        go_wp2_with fail
        apply Mem.at
        · (repeat' (first | with_reducible exact hM | with_reducible exact hMp | with_reducible apply Mem.drew | with_reducible apply Mem.drewN | with_reducible apply Mem.alloc | with_reducible apply Mem.set | with_reducible exact Sto.row | ((with_reducible refine Sto.rowEq2 ?_ ?_); omega; rfl) | ((with_reducible refine Sto.rowEq ?_); omega) | with_reducible apply Sto.int | with_reducible apply Sto.there | with_reducible assumption | (unfold I64; omega) | (with_reducible (have hMx := Mem.undrew hM; exact hMx)) | (with_reducible (have hMx := Mem.undrew hMp; exact hMx))))
        clear hM
        intro hM
        (try simp only [World.size_alloc, World.size_setCell, World.heap_drewN, heapDrew, Nat.add_assoc, Nat.reduceAdd, List.setIfInBounds_toArray, List.set_cons_zero, List.set_cons_succ, List.cons_append, List.nil_append] at hM)
        refine (l24Reduce_any q t _ ⟨s0, by omega⟩ ⟨tp, by omega⟩).mono ?_
        rintro e w7 ⟨rfl, hb⟩
        replace hM := hM.ext hb
        clear hb
        go_wp2
        go_ret3
        exact ⟨by rw [HF.out]; rfl, (by apply Mem.below; (repeat' (first | with_reducible exact hM | with_reducible exact hMp | with_reducible apply Mem.drew | with_reducible apply Mem.drewN | with_reducible apply Mem.alloc | with_reducible apply Mem.set | with_reducible exact Sto.row | ((with_reducible refine Sto.rowEq2 ?_ ?_); omega; rfl) | ((with_reducible refine Sto.rowEq ?_); omega) | with_reducible apply Sto.int | with_reducible apply Sto.there | with_reducible assumption | (unfold I64; omega) | (with_reducible (have hMx := Mem.undrew hM; exact hMx)) | (with_reducible (have hMx := Mem.undrew hMp; exact hMx)))))⟩
end Go.Proofs.YtpoabdmapbdmfaaDoor
