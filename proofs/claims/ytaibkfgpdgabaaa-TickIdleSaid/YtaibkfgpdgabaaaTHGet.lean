/- A part of the proof of T: what its last text uses; conditions: see there. -/
import Derived.Deep.RegionHeld3
import Derived.Deep.QuietTactic
import Derived.BigQuiet
import Derived.Test.YtaibkfgpdgabaaaTHNum
import Derived.Test.YtaibkfgpdgabaaaTHComp
import Derived.Test.YtaibkfgpdgabaaaTHRec
section
namespace Go.Proofs.Ytaibkfgpdgabaaa.P
open Go.RowKit Go.Proofs.YtaibkfgpdgabaaaW.PrintWords Go.Proofs.YtaibkfgpdgabaaaW.PrintLast Go.Proofs.YtaibkfgpdgabaaaW.PrintMore
set_option linter.unusedVariables false
set_option linter.unusedSimpArgs false
def getR (s : ByteArray) : Int × Int × Int × Int := (numB (s.extract 0 4), numB (s.extract 4 6), numB (s.extract 6 8), numB (s.extract 8 12))
def compOk (s : ByteArray) : Bool := (compB (s.extract 0 12)).toList == (s.extract 12 s.size).toList
def getB (s : ByteArray) : Bool := decide (s.size = 24) && compOk s && recMayB (getR s).1 (getR s).2.1 (getR s).2.2.1 (getR s).2.2.2
def entry_Get.f (a0 : ByteArray) : Option (Int × Int × Int × Int × Int) := if getB a0 = true then some ((getR a0).1, (getR a0).2.1, (getR a0).2.2.1, (getR a0).2.2.2, 0) else some (0, 0, 0, 0, 400)
theorem comp_calls (a0 : ByteArray) (h : a0.size ≤ 9223372036854775807) (w : World) : Calls Try.prog 119 #[.string a0] w fun e w' => e = .returned (.string (compB a0)) ∧ Below w.heap.size w w' := entry_complement.calls a0 _ w (by rw [entry_complement.f, if_pos h])
structure RecW (w W : World) : Prop where
  size : W.heap.size = w.heap.size + 1
  below : Below w.heap.size w W
  c0 : W.cell? ⟨w.heap.size, 0, none⟩ = some (.int .i64 0)
  c1 : W.cell? ⟨w.heap.size, 1, none⟩ = some (.int .i64 0)
  c2 : W.cell? ⟨w.heap.size, 2, none⟩ = some (.int .i64 0)
  c3 : W.cell? ⟨w.heap.size, 3, none⟩ = some (.int .i64 0)
  free : ∀ o, W.frozen? ⟨w.heap.size, o, none⟩ = false
theorem recW (w : World) : RecW w (w.alloc (Obj.cells #[.int .i64 0, .int .i64 0, .int .i64 0, .int .i64 0] 36)) := by
  refine ⟨Array.size_push _, below_alloc (Below.refl _ _) _, ?_, ?_, ?_, ?_, fun o => World.frozen?_alloc_new _ _ _ _⟩ <;> exact World.cell?_alloc_new _ _ _ _
theorem RecW.res {w W wr : World} (k : RecW w W) (h : Below (w.heap.size + 1) W wr) :
    (wr.cell? ⟨w.heap.size, 0, none⟩ = some (.int .i64 0) ∧ wr.cell? ⟨w.heap.size, 1, none⟩ = some (.int .i64 0) ∧ wr.cell? ⟨w.heap.size, 2, none⟩ = some (.int .i64 0) ∧ wr.cell? ⟨w.heap.size, 3, none⟩ = some (.int .i64 0)) ∧ (∀ o, wr.frozen? ⟨w.heap.size, o, none⟩ = false) ∧ Below w.heap.size w wr := by
  have hc : ∀ o, wr.cell? ⟨w.heap.size, o, none⟩ = W.cell? ⟨w.heap.size, o, none⟩ := fun o => h.cell (p := ⟨w.heap.size, o, none⟩) (Nat.lt_succ_self _)
  have hf : ∀ o, wr.frozen? ⟨w.heap.size, o, none⟩ = W.frozen? ⟨w.heap.size, o, none⟩ := fun o => h.frozen (p := ⟨w.heap.size, o, none⟩) (Nat.lt_succ_self _)
  exact ⟨⟨(hc 0).trans k.c0, (hc 1).trans k.c1, (hc 2).trans k.c2, (hc 3).trans k.c3⟩, fun o => (hf o).trans (k.free o), k.below.trans (h.mono (Nat.le_succ _))⟩
theorem rec_step {n : Nat} {W w1 : World} (hz : n ≤ W.heap.size) (h : Below W.drew.heap.size W.drew w1) : Below n W w1 := (below_drew1 (Below.refl _ _)).trans (h.mono hz)
theorem below5 {n : Nat} {W w1 X w5 : World} (h : Below n W w1) (h5 : Below X.heap.size X w5) (hX : Below w1.heap.size w1 X) (hn : n ≤ w1.heap.size) : Below n W w5 :=
  (h.trans (hX.mono hn)).trans (h5.mono (Nat.le_trans hn hX.size))
set_option maxHeartbeats 1600000 in
set_option maxRecDepth 100000 in
theorem get_bad (s : ByteArray) (h : (decide (s.size = 24) && compOk s) = false) (w : World) : Calls Try.prog 108 #[.string s] w fun e w' => e = .returned (.tuple #[.agg #[.int .i64 0, .int .i64 0, .int .i64 0, .int .i64 0], .int .i64 400]) ∧ Below w.heap.size w w' := by
  have HW := Aside0.mk (recW w)
  by_cases h24 : s.size = 24
  · have hc : ((compB (s.extract 0 12)).toList == (s.extract 12 24).toList) = false := by
      simpa [compOk, h24] using h
    have h2 : (s.size : Int) = 24 := by omega
    have q1 : (12 : Int) ≤ (s.size : Int) := by omega
    have q2 : (0 : Int) ≤ 12 := by omega
    go_enter Try.func108, Try.ntmps108
    go_wp2_with (fail)
    generalize w.alloc (Obj.cells #[.int .i64 0, .int .i64 0, .int .i64 0, .int .i64 0] 36) = W at *
    have hz : w.heap.size + 1 ≤ W.heap.size := Nat.le_of_eq HW.out.size.symm
    go_region_held3 (fun w' => Below (w.heap.size + 1) W w') (first | exact Below.refl _ _ | exact below_drew1 (Below.refl _ _) | exact rec_step hz hb1) ((go_at_call 119; refine (comp_calls _ (by rw [ByteArray.size_extract]; omega) _).mono ?_; rintro e w1 ⟨rfl, hb1⟩))
    all_goals
      obtain ⟨⟨c0, c1, c2, c3⟩, cf, hb⟩ := HW.out.res (by assumption)
      obtain ⟨_, _, k0, k1, k2, k3, kf⟩ := HW.out
      go_wp2
      refine bodyPost_ret (v := .tuple #[.agg #[.int .i64 0, .int .i64 0, .int .i64 0, .int .i64 0], .int .i64 400]) (by simp [results, Try.results108, go_sem, *]) rfl ⟨rfl, ?_⟩
      repeat (first | (with_reducible exact hb) | (with_reducible refine below_set ?_ (Nat.le_refl _)) | (with_reducible apply pw_below_drewN))
  · have h2 : ¬ ((s.size : Int) = 24) := by omega
    have h3 : ((s.size : Int) != 24) = true := by simp [h2]
    have h4 : ((s.size : Int) == 24) = false := by simp [h2]
    go_enter Try.func108, Try.ntmps108
    go_wp2_with (fail)
    generalize w.alloc (Obj.cells #[.int .i64 0, .int .i64 0, .int .i64 0, .int .i64 0] 36) = W at *
    have hz : w.heap.size + 1 ≤ W.heap.size := Nat.le_of_eq HW.out.size.symm
    go_quiet (fail)
    obtain ⟨_, hb, k0, k1, k2, k3, kf⟩ := HW.out
    go_wp2
    refine bodyPost_ret (v := .tuple #[.agg #[.int .i64 0, .int .i64 0, .int .i64 0, .int .i64 0], .int .i64 400]) (by simp [results, Try.results108, go_sem, *]) rfl ⟨rfl, ?_⟩
    repeat (first | (with_reducible exact hb) | (with_reducible refine below_set ?_ (Nat.le_refl _)) | (with_reducible apply pw_below_drewN))
set_option maxHeartbeats 1600000 in
set_option maxRecDepth 100000 in
theorem get_good (s : ByteArray) (h24 : s.size = 24) (hok : compOk s = true) (b : Bool) (hm : recMayB (getR s).1 (getR s).2.1 (getR s).2.2.1 (getR s).2.2.2 = b) (w : World) : Calls Try.prog 108 #[.string s] w fun e w' => e = .returned (if b = true then (.tuple #[.agg #[.int .i64 (getR s).1, .int .i64 (getR s).2.1, .int .i64 (getR s).2.2.1, .int .i64 (getR s).2.2.2], .int .i64 0]) else (.tuple #[.agg #[.int .i64 0, .int .i64 0, .int .i64 0, .int .i64 0], .int .i64 400])) ∧ Below w.heap.size w w' := by
  have HW := Aside0.mk (recW w)
  have hc : ((compB (s.extract 0 12)).toList == (s.extract 12 24).toList) = true := by
    simpa [compOk, h24] using hok
  have h2 : (s.size : Int) = 24 := by omega
  have q1 : (12 : Int) ≤ (s.size : Int) := by omega
  have q2 : (0 : Int) ≤ 12 := by omega
  have HM := Lib.hid hm
  have HR : Aside0 (getR s = (numB (s.extract 0 4), numB (s.extract 4 6), numB (s.extract 6 8), numB (s.extract 8 12))) := ⟨rfl⟩
  clear hok hm
  generalize getR s = R at *
  obtain ⟨x0, x1, x2, x3⟩ := R
  go_enter Try.func108, Try.ntmps108
  go_wp2_with (fail)
  generalize w.alloc (Obj.cells #[.int .i64 0, .int .i64 0, .int .i64 0, .int .i64 0] 36) = W at *
  have hz : w.heap.size + 1 ≤ W.heap.size := Nat.le_of_eq HW.out.size.symm
  go_region_held3 (fun w' => Below (w.heap.size + 1) W w') (first | exact Below.refl _ _ | exact below_drew1 (Below.refl _ _) | exact rec_step hz hb1) ((go_at_call 119; refine (comp_calls _ (by rw [ByteArray.size_extract]; omega) _).mono ?_; rintro e w1 ⟨rfl, hb1⟩))
  all_goals
    go_wp2
    go_region_held3 (fun w' => True) (trivial) ((go_at_call 120; refine (num_calls _ (by rw [ByteArray.size_extract]; omega) _).mono ?_; rintro e w' ⟨rfl, rfl⟩))
  all_goals
    have HH : Aside0 (Below (w.heap.size + 1) W w1) := ⟨rec_step hz hb1⟩
    have hz1 : w.heap.size + 1 ≤ w1.heap.size := Nat.le_trans hz HH.out.size
    injection HR.out with r0 r1
    injection r1 with r1 r2
    injection r2 with r2 r3
    rw [← r0, ← r1, ← r2, ← r3]
    clear r0 r1 r2 r3 HR
    cases b with
    | true =>
      go_wp2_with (go_at_call 90; refine (recMay_calls x0 x1 x2 x3 _).mono ?_; rintro e w5 ⟨rfl, hb5⟩; rw [HM.out]; have d0 : w5.cell? ⟨w1.heap.size, 0, none⟩ = some (.int .i64 x0) := ((bcell hb5).1 _ _ (by simp)).trans (by simp); have d1 : w5.cell? ⟨w1.heap.size, 1, none⟩ = some (.int .i64 x1) := ((bcell hb5).1 _ _ (by simp)).trans (by simp); have d2 : w5.cell? ⟨w1.heap.size, 2, none⟩ = some (.int .i64 x2) := ((bcell hb5).1 _ _ (by simp)).trans (by simp); have d3 : w5.cell? ⟨w1.heap.size, 3, none⟩ = some (.int .i64 x3) := ((bcell hb5).1 _ _ (by simp)).trans (by simp); have HB6 := Aside0.mk (below5 HH.out hb5 (by repeat (first | (with_reducible exact Below.refl _ _) | (with_reducible apply below_alloc) | (with_reducible apply below_drew1) | (with_reducible refine below_set ?_ (Nat.le_refl _)))) hz1); obtain ⟨⟨c0, c1, c2, c3⟩, cf, hb⟩ := HW.out.res HB6.out; clear hb5)
      refine bodyPost_ret (v := .tuple #[.agg #[.int .i64 x0, .int .i64 x1, .int .i64 x2, .int .i64 x3], .int .i64 0]) (by simp [results, Try.results108, go_sem, *]) rfl ⟨rfl, ?_⟩
      repeat (first | (with_reducible exact hb) | (with_reducible refine below_set ?_ (Nat.le_refl _)) | (with_reducible apply pw_below_drewN) | (with_reducible apply below_drew1))
    | false =>
      go_wp2_with (go_at_call 90; refine (recMay_calls x0 x1 x2 x3 _).mono ?_; rintro e w5 ⟨rfl, hb5⟩; rw [HM.out]; have d0 : w5.cell? ⟨w1.heap.size, 0, none⟩ = some (.int .i64 x0) := ((bcell hb5).1 _ _ (by simp)).trans (by simp); have d1 : w5.cell? ⟨w1.heap.size, 1, none⟩ = some (.int .i64 x1) := ((bcell hb5).1 _ _ (by simp)).trans (by simp); have d2 : w5.cell? ⟨w1.heap.size, 2, none⟩ = some (.int .i64 x2) := ((bcell hb5).1 _ _ (by simp)).trans (by simp); have d3 : w5.cell? ⟨w1.heap.size, 3, none⟩ = some (.int .i64 x3) := ((bcell hb5).1 _ _ (by simp)).trans (by simp); have HB6 := Aside0.mk (below5 HH.out hb5 (by repeat (first | (with_reducible exact Below.refl _ _) | (with_reducible apply below_alloc) | (with_reducible apply below_drew1) | (with_reducible refine below_set ?_ (Nat.le_refl _)))) hz1); obtain ⟨⟨c0, c1, c2, c3⟩, cf, hb⟩ := HW.out.res HB6.out; clear hb5)
      refine bodyPost_ret (v := .tuple #[.agg #[.int .i64 0, .int .i64 0, .int .i64 0, .int .i64 0], .int .i64 400]) (by simp [results, Try.results108, go_sem, *]) rfl ⟨rfl, ?_⟩
      repeat (first | (with_reducible exact hb) | (with_reducible refine below_set ?_ (Nat.le_refl _)) | (with_reducible apply pw_below_drewN) | (with_reducible apply below_drew1))
theorem entry_Get.calls (a0 : ByteArray) (r1 r2 r3 r4 r5 : Int) (w : World) (h : entry_Get.f a0 = some (r1, r2, r3, r4, r5)) :
    Calls Try.prog 108 #[.string a0] w fun e w' => e = .returned (.tuple #[.agg #[.int .i64 r1, .int .i64 r2, .int .i64 r3, .int .i64 r4], .int .i64 r5]) ∧ Below w.heap.size w w' := by
  rw [entry_Get.f] at h
  by_cases h1 : (decide (a0.size = 24) && compOk a0) = true
  · have h2 := h1
    simp only [Bool.and_eq_true, decide_eq_true_eq] at h2
    cases hm : recMayB (getR a0).1 (getR a0).2.1 (getR a0).2.2.1 (getR a0).2.2.2
    · rw [if_neg (by rw [getB, h1, hm]; decide)] at h
      simp only [Option.some.injEq, Prod.mk.injEq] at h
      obtain ⟨rfl, rfl, rfl, rfl, rfl⟩ := h
      exact (get_good a0 h2.1 h2.2 false hm w)
    · rw [if_pos (by rw [getB, h1, hm]; rfl)] at h
      simp only [Option.some.injEq, Prod.mk.injEq] at h
      obtain ⟨rfl, rfl, rfl, rfl, rfl⟩ := h
      exact (get_good a0 h2.1 h2.2 true hm w)
  · replace h1 := Bool.eq_false_iff.mpr h1
    rw [if_neg (by rw [getB, h1]; simp)] at h
    simp only [Option.some.injEq, Prod.mk.injEq] at h
    obtain ⟨rfl, rfl, rfl, rfl, rfl⟩ := h
    exact get_bad a0 h1 w
end Go.Proofs.Ytaibkfgpdgabaaa.P
end
