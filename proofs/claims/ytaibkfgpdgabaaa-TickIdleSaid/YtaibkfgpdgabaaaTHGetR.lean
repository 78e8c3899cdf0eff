/- A part of the proof of T: what its last text uses; conditions: see there. -/
import Derived.Test.YtaibkfgpdgabaaaTHGet
import Derived.Test.YtaibkfgpdgabaaaTHPut
section
namespace Go.Proofs.Ytaibkfgpdgabaaa.P
open Go.RowKit Go.Proofs.YtaibkfgpdgabaaaW.PrintWords Go.Proofs.YtaibkfgpdgabaaaW.PrintLast Go.Proofs.YtaibkfgpdgabaaaW.PrintMore
set_option linter.unusedVariables false
set_option linter.unusedSimpArgs false
def getRR (s : ByteArray) : Int × Int × Int × Int := (numB (s.extract 0 4), bt s 4, numB (s.extract 6 8), numB (s.extract 8 12))
def getRB (s : ByteArray) : Bool := decide (s.size = 24) && recMayB (getRR s).1 (getRR s).2.1 (getRR s).2.2.1 (getRR s).2.2.2 && ((entB (getRR s).1 (getRR s).2.1 (getRR s).2.2.1 (getRR s).2.2.2).toList == s.toList)
def skiffref1_GetEntry.f (a0 : ByteArray) : Option (Int × Int × Int × Int × Int) := if getRB a0 = true then some ((getRR a0).1, (getRR a0).2.1, (getRR a0).2.2.1, (getRR a0).2.2.2, 0) else some (0, 0, 0, 0, 400)
set_option maxHeartbeats 1600000 in
set_option maxRecDepth 100000 in
theorem getr_size (s : ByteArray) (h : ¬ s.size = 24) (w : World) : Calls Try.prog 92 #[.string s] w fun e w' => e = .returned (.tuple #[.agg #[.int .i64 0, .int .i64 0, .int .i64 0, .int .i64 0], .int .i64 400]) ∧ Below w.heap.size w w' := by
  have HW := Aside0.mk (recW w)
  have h2 : ¬ ((s.size : Int) = 24) := by omega
  have h3 : ((s.size : Int) != 24) = true := by simp [h2]
  have h4 : ((s.size : Int) == 24) = false := by simp [h2]
  obtain ⟨_, hb, k0, k1, k2, k3, kf⟩ := HW.out
  go_enter Try.func92, Try.ntmps92
  go_wp2
  refine bodyPost_ret (v := .tuple #[.agg #[.int .i64 0, .int .i64 0, .int .i64 0, .int .i64 0], .int .i64 400]) (by simp [results, Try.results92, go_sem, *]) rfl ⟨rfl, ?_⟩
  repeat (first | (with_reducible exact hb) | (with_reducible refine below_set ?_ (Nat.le_refl _)) | (with_reducible apply pw_below_drewN) | (with_reducible apply below_drew1))
set_option maxHeartbeats 1600000 in
set_option maxRecDepth 100000 in
theorem getr_more (s : ByteArray) (h24 : s.size = 24) (b c : Bool) (hm : recMayB (getRR s).1 (getRR s).2.1 (getRR s).2.2.1 (getRR s).2.2.2 = b) (hc : ((entB (getRR s).1 (getRR s).2.1 (getRR s).2.2.1 (getRR s).2.2.2).toList == s.toList) = c) (w : World) : Calls Try.prog 92 #[.string s] w fun e w' => e = .returned (if b = true ∧ c = true then (.tuple #[.agg #[.int .i64 (getRR s).1, .int .i64 (getRR s).2.1, .int .i64 (getRR s).2.2.1, .int .i64 (getRR s).2.2.2], .int .i64 0]) else (.tuple #[.agg #[.int .i64 0, .int .i64 0, .int .i64 0, .int .i64 0], .int .i64 400])) ∧ Below w.heap.size w w' := by
  have HW := Aside0.mk (recW w)
  have h2 : (s.size : Int) = 24 := by omega
  have HM := Lib.hid hm
  have HC := Aside0.mk hc
  have HR : Aside0 (getRR s = (numB (s.extract 0 4), bt s 4, numB (s.extract 6 8), numB (s.extract 8 12))) := ⟨rfl⟩
  have hbr := bt_range s 4
  have hat := bt_at s 4
  have hbt : wrap64 (bt s 4) = bt s 4 := by unfold wrap64; omega
  clear hm hc
  generalize getRR s = R at *
  obtain ⟨x0, x1, x2, x3⟩ := R
  go_enter Try.func92, Try.ntmps92
  go_wp2_with (fail)
  generalize w.alloc (Obj.cells #[.int .i64 0, .int .i64 0, .int .i64 0, .int .i64 0] 36) = W at *
  have hz : w.heap.size + 1 ≤ W.heap.size := Nat.le_of_eq HW.out.size.symm
  go_region_held3 (fun w' => True) (trivial) ((go_at_call 114; refine (of_calls _ (by rw [ByteArray.size_extract]; omega) _).mono ?_; rintro e w' ⟨rfl, rfl⟩))
  all_goals
    injection HR.out with r0 r1
    injection r1 with r1 r2
    injection r2 with r2 r3
    have hs4 : ∀ h : 4 < s.size, IntKind.i64.wrap ((s[4]'h).toNat : Int) = x1 := fun h => (i64_w _).trans ((congrArg wrap64 (hat h)).trans (hbt.trans r1.symm))
    simp only [hs4]
    rw [← r0, ← r2, ← r3]
    clear hs4 r0 r1 r2 r3 HR hat hbr hbt
    cases b with
    | true =>
      have HP := (show skiffref1_PutEntry.f x0 x1 x2 x3 = some (entB x0 x1 x2 x3, 0) by rw [skiffref1_PutEntry.f, if_pos HM.out])
      cases c with
      | true =>
        have hct : ((entB x0 x1 x2 x3).toList == s.toList) = true := HC.out
        have hct2 : (entB x0 x1 x2 x3).toList = s.toList := beq_iff_eq.mp hct
        go_wp2_with (go_at_call 75; refine (skiffref1_PutEntry.calls x0 x1 x2 x3 _ _ _ HP).mono ?_; rintro e w5 ⟨rfl, hb5⟩; have d0 : w5.cell? ⟨W.heap.size, 0, none⟩ = some (.int .i64 x0) := ((bcell hb5).1 _ _ (by simp)).trans (by simp); have d1 : w5.cell? ⟨W.heap.size, 1, none⟩ = some (.int .i64 x1) := ((bcell hb5).1 _ _ (by simp)).trans (by simp); have d2 : w5.cell? ⟨W.heap.size, 2, none⟩ = some (.int .i64 x2) := ((bcell hb5).1 _ _ (by simp)).trans (by simp); have d3 : w5.cell? ⟨W.heap.size, 3, none⟩ = some (.int .i64 x3) := ((bcell hb5).1 _ _ (by simp)).trans (by simp); have HB6 := Aside0.mk (below5 (Below.refl (w.heap.size + 1) W) hb5 (by repeat (first | (with_reducible exact Below.refl _ _) | (with_reducible apply below_alloc) | (with_reducible apply below_drew1) | (with_reducible refine below_set ?_ (Nat.le_refl _)))) hz); obtain ⟨⟨c0, c1, c2, c3⟩, cf, hb⟩ := HW.out.res HB6.out; clear hb5)
        refine bodyPost_ret (v := .tuple #[.agg #[.int .i64 x0, .int .i64 x1, .int .i64 x2, .int .i64 x3], .int .i64 0]) (by simp [results, Try.results92, go_sem, *]) rfl ⟨rfl, ?_⟩
        repeat (first | (with_reducible exact hb) | (with_reducible refine below_set ?_ (Nat.le_refl _)) | (with_reducible apply pw_below_drewN) | (with_reducible apply below_drew1))
      | false =>
        have hct : ((entB x0 x1 x2 x3).toList == s.toList) = false := HC.out
        have hct2 : ¬ (entB x0 x1 x2 x3).toList = s.toList := beq_eq_false_iff_ne.mp hct
        go_wp2_with (go_at_call 75; refine (skiffref1_PutEntry.calls x0 x1 x2 x3 _ _ _ HP).mono ?_; rintro e w5 ⟨rfl, hb5⟩; have d0 : w5.cell? ⟨W.heap.size, 0, none⟩ = some (.int .i64 x0) := ((bcell hb5).1 _ _ (by simp)).trans (by simp); have d1 : w5.cell? ⟨W.heap.size, 1, none⟩ = some (.int .i64 x1) := ((bcell hb5).1 _ _ (by simp)).trans (by simp); have d2 : w5.cell? ⟨W.heap.size, 2, none⟩ = some (.int .i64 x2) := ((bcell hb5).1 _ _ (by simp)).trans (by simp); have d3 : w5.cell? ⟨W.heap.size, 3, none⟩ = some (.int .i64 x3) := ((bcell hb5).1 _ _ (by simp)).trans (by simp); have HB6 := Aside0.mk (below5 (Below.refl (w.heap.size + 1) W) hb5 (by repeat (first | (with_reducible exact Below.refl _ _) | (with_reducible apply below_alloc) | (with_reducible apply below_drew1) | (with_reducible refine below_set ?_ (Nat.le_refl _)))) hz); obtain ⟨⟨c0, c1, c2, c3⟩, cf, hb⟩ := HW.out.res HB6.out; clear hb5)
        refine bodyPost_ret (v := .tuple #[.agg #[.int .i64 0, .int .i64 0, .int .i64 0, .int .i64 0], .int .i64 400]) (by simp [results, Try.results92, go_sem, *]) rfl ⟨by simp, ?_⟩
        repeat (first | (with_reducible exact hb) | (with_reducible refine below_set ?_ (Nat.le_refl _)) | (with_reducible apply pw_below_drewN) | (with_reducible apply below_drew1))
    | false =>
      have HP := (show skiffref1_PutEntry.f x0 x1 x2 x3 = some (⟨#[]⟩, 400) by rw [skiffref1_PutEntry.f, if_neg (by rw [HM.out]; decide)])
      cases c with
      | true =>
        go_wp2_with (go_at_call 75; refine (skiffref1_PutEntry.calls x0 x1 x2 x3 _ _ _ HP).mono ?_; rintro e w5 ⟨rfl, hb5⟩; have d0 : w5.cell? ⟨W.heap.size, 0, none⟩ = some (.int .i64 x0) := ((bcell hb5).1 _ _ (by simp)).trans (by simp); have d1 : w5.cell? ⟨W.heap.size, 1, none⟩ = some (.int .i64 x1) := ((bcell hb5).1 _ _ (by simp)).trans (by simp); have d2 : w5.cell? ⟨W.heap.size, 2, none⟩ = some (.int .i64 x2) := ((bcell hb5).1 _ _ (by simp)).trans (by simp); have d3 : w5.cell? ⟨W.heap.size, 3, none⟩ = some (.int .i64 x3) := ((bcell hb5).1 _ _ (by simp)).trans (by simp); have HB6 := Aside0.mk (below5 (Below.refl (w.heap.size + 1) W) hb5 (by repeat (first | (with_reducible exact Below.refl _ _) | (with_reducible apply below_alloc) | (with_reducible apply below_drew1) | (with_reducible refine below_set ?_ (Nat.le_refl _)))) hz); obtain ⟨⟨c0, c1, c2, c3⟩, cf, hb⟩ := HW.out.res HB6.out; clear hb5)
        refine bodyPost_ret (v := .tuple #[.agg #[.int .i64 0, .int .i64 0, .int .i64 0, .int .i64 0], .int .i64 400]) (by simp [results, Try.results92, go_sem, *]) rfl ⟨by simp, ?_⟩
        repeat (first | (with_reducible exact hb) | (with_reducible refine below_set ?_ (Nat.le_refl _)) | (with_reducible apply pw_below_drewN) | (with_reducible apply below_drew1))
      | false =>
        go_wp2_with (go_at_call 75; refine (skiffref1_PutEntry.calls x0 x1 x2 x3 _ _ _ HP).mono ?_; rintro e w5 ⟨rfl, hb5⟩; have d0 : w5.cell? ⟨W.heap.size, 0, none⟩ = some (.int .i64 x0) := ((bcell hb5).1 _ _ (by simp)).trans (by simp); have d1 : w5.cell? ⟨W.heap.size, 1, none⟩ = some (.int .i64 x1) := ((bcell hb5).1 _ _ (by simp)).trans (by simp); have d2 : w5.cell? ⟨W.heap.size, 2, none⟩ = some (.int .i64 x2) := ((bcell hb5).1 _ _ (by simp)).trans (by simp); have d3 : w5.cell? ⟨W.heap.size, 3, none⟩ = some (.int .i64 x3) := ((bcell hb5).1 _ _ (by simp)).trans (by simp); have HB6 := Aside0.mk (below5 (Below.refl (w.heap.size + 1) W) hb5 (by repeat (first | (with_reducible exact Below.refl _ _) | (with_reducible apply below_alloc) | (with_reducible apply below_drew1) | (with_reducible refine below_set ?_ (Nat.le_refl _)))) hz); obtain ⟨⟨c0, c1, c2, c3⟩, cf, hb⟩ := HW.out.res HB6.out; clear hb5)
        refine bodyPost_ret (v := .tuple #[.agg #[.int .i64 0, .int .i64 0, .int .i64 0, .int .i64 0], .int .i64 400]) (by simp [results, Try.results92, go_sem, *]) rfl ⟨by simp, ?_⟩
        repeat (first | (with_reducible exact hb) | (with_reducible refine below_set ?_ (Nat.le_refl _)) | (with_reducible apply pw_below_drewN) | (with_reducible apply below_drew1))
theorem skiffref1_GetEntry.calls (a0 : ByteArray) (r1 r2 r3 r4 r5 : Int) (w : World) (h : skiffref1_GetEntry.f a0 = some (r1, r2, r3, r4, r5)) :
    Calls Try.prog 92 #[.string a0] w fun e w' => e = .returned (.tuple #[.agg #[.int .i64 r1, .int .i64 r2, .int .i64 r3, .int .i64 r4], .int .i64 r5]) ∧ Below w.heap.size w w' := by
  rw [skiffref1_GetEntry.f] at h
  by_cases h24 : a0.size = 24
  · have hg := getr_more a0 h24 _ _ rfl rfl w
    by_cases hb : getRB a0 = true
    · rw [if_pos hb] at h
      simp only [Option.some.injEq, Prod.mk.injEq] at h
      obtain ⟨rfl, rfl, rfl, rfl, rfl⟩ := h
      simp only [getRB, Bool.and_eq_true, decide_eq_true_eq] at hb
      rw [if_pos ⟨hb.1.2, hb.2⟩] at hg
      exact hg
    · rw [if_neg hb] at h
      simp only [Option.some.injEq, Prod.mk.injEq] at h
      obtain ⟨rfl, rfl, rfl, rfl, rfl⟩ := h
      rw [if_neg (fun k => hb (by rw [getRB, k.1, k.2, h24]; rfl))] at hg
      exact hg
  · rw [if_neg (by rw [getRB]; simp [h24])] at h
    simp only [Option.some.injEq, Prod.mk.injEq] at h
    obtain ⟨rfl, rfl, rfl, rfl, rfl⟩ := h
    exact getr_size a0 h24 w
end Go.Proofs.Ytaibkfgpdgabaaa.P
end
