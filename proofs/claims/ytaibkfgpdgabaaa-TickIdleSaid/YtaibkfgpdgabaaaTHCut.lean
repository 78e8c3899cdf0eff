/- A part of the proof of T: what its last text uses; conditions: see there. -/
import Derived.Test.YtaibkfgpdgabaaaTHStep
section
namespace Go.Proofs.Ytaibkfgpdgabaaa.P
open Go.RowKit Go.Proofs.YtaibkfgpdgabaaaW.PrintWords Go.Proofs.YtaibkfgpdgabaaaW.PrintLast Go.Proofs.YtaibkfgpdgabaaaW.PrintMore
set_option linter.unusedVariables false
set_option linter.unusedSimpArgs false
set_option maxHeartbeats 2000000 in
set_option maxRecDepth 100000 in
theorem cut_no (f : ByteArray) (a0 a1 a2 a3 a4 : Int) (A : Option Addr) (c : Nat) (l : List SOp) (n : Int) (w : World) (hr : Kd.C k59 w A l.length l) (hc : l.length ≤ c) (h : bothB f a0 a1 a2 a3 a4 l = false ∨ n < 0 ∨ 96 < n) :
    Calls Try.prog 27 #[.string f, .agg #[.int .i64 a0, .int .i64 a1, .int .i64 a2, .int .i64 a3, .int .i64 a4, .slice A l.length c], .int .i64 n] w fun e w' => e = .returned (.tuple #[.string ⟨#[]⟩, .agg #[.int .i64 0, .int .i64 0, .int .i64 0, .int .i64 0, .int .i64 0, .slice none 0 0], .int .i64 1800]) ∧ Below w.heap.size w w' := by
  have H := Aside0.mk h
  clear h
  have HR := Aside0.mk hr
  clear hr
  obtain ⟨W, hW⟩ : ∃ W, W = (w.alloc (.cells #[.int .i64 a0, .int .i64 a1, .int .i64 a2, .int .i64 a3, .int .i64 a4, .slice A l.length c] 26)).alloc (.cells #[.int .i64 0, .int .i64 0, .int .i64 0, .int .i64 0, .int .i64 0, .slice none 0 0] 26) := ⟨_, rfl⟩
  have H2 := Aside0.mk (two_devs w a0 a1 a2 a3 a4 (.slice A l.length c) W hW)
  have HW := Lib.hid hW
  clear hW
  go_enter Try.func27, Try.ntmps27
  go_upto_region 1 with (fail)
  rw [← HW.out]
  clear HW
  obtain ⟨⟨d0, d1, d2, d3, d4, d5⟩, ⟨z0, z1, z2, z3, z4, z5⟩, ⟨y0, y1, y2, y3, y4, y5⟩⟩ := And.intro H2.out.1.cells (And.intro H2.out.2.1.cells H2.out.2.1.free)
  by_cases hf : (f.size : Int) = 768
  · have h1 : (decide ((f.size : Int) = 768)) = true := by simp [hf]
    cases hm : devMayB a0 a1 a2 a3 a4 l with
    | false =>
      clear hf H
      go_wp2_with (first | (go_at_call 42; refine (norMay_calls _ _).mono ?_; rintro e w' ⟨rfl, rfl⟩; rw [h1]) | (go_at_call 43; refine (device_may a0 a1 a2 a3 a4 A c l W (Kd.C_below HR.out H2.out.2.2)).mono ?_; rintro e w1 ⟨rfl, hb1⟩; rw [hm]; have HD0 := Aside0.mk (H2.out.1.below hb1); have HD := Aside0.mk (H2.out.2.1.below hb1); have HB1 := Aside0.mk (bthen H2.out.2.2 hb1); clear hb1; clear d0 d1 d2 d3 d4 d5 z0 z1 z2 z3 z4 z5 y0 y1 y2 y3 y4 y5; obtain ⟨⟨d0, d1, d2, d3, d4, d5⟩, ⟨z0, z1, z2, z3, z4, z5⟩, ⟨y0, y1, y2, y3, y4, y5⟩⟩ := And.intro HD0.out.cells (And.intro HD.out.cells HD.out.free)))
      refine bodyPost_ret (v := .tuple #[.string ⟨#[]⟩, .agg #[.int .i64 0, .int .i64 0, .int .i64 0, .int .i64 0, .int .i64 0, .slice none 0 0], .int .i64 1800]) (by simp [results, Try.results27, go_sem, *]) rfl ⟨rfl, ?_⟩
      have hbb := HB1.out
      repeat (first | (with_reducible exact hbb) | (with_reducible refine below_set ?_ (Nat.le_succ _)))
    | true =>
      have hn : n < 0 ∨ 96 < n := by
        rcases H.out with h | h
        · rw [bothB, hm, h1] at h
          cases h
        · exact h
      clear hf H
      rcases hn with hn | hn
      · go_wp2_with (first | (go_at_call 42; refine (norMay_calls _ _).mono ?_; rintro e w' ⟨rfl, rfl⟩; rw [h1]) | (go_at_call 43; refine (device_may a0 a1 a2 a3 a4 A c l W (Kd.C_below HR.out H2.out.2.2)).mono ?_; rintro e w1 ⟨rfl, hb1⟩; rw [hm]; have HD0 := Aside0.mk (H2.out.1.below hb1); have HD := Aside0.mk (H2.out.2.1.below hb1); have HB1 := Aside0.mk (bthen H2.out.2.2 hb1); clear hb1; clear d0 d1 d2 d3 d4 d5 z0 z1 z2 z3 z4 z5 y0 y1 y2 y3 y4 y5; obtain ⟨⟨d0, d1, d2, d3, d4, d5⟩, ⟨z0, z1, z2, z3, z4, z5⟩, ⟨y0, y1, y2, y3, y4, y5⟩⟩ := And.intro HD0.out.cells (And.intro HD.out.cells HD.out.free)))
        refine bodyPost_ret (v := .tuple #[.string ⟨#[]⟩, .agg #[.int .i64 0, .int .i64 0, .int .i64 0, .int .i64 0, .int .i64 0, .slice none 0 0], .int .i64 1800]) (by simp [results, Try.results27, go_sem, *]) rfl ⟨rfl, ?_⟩
        have hbb := HB1.out
        repeat (first | (with_reducible exact hbb) | (with_reducible refine below_set ?_ (Nat.le_succ _)))
      · have hn2 : ¬ n < 0 := by omega
        go_wp2_with (first | (go_at_call 42; refine (norMay_calls _ _).mono ?_; rintro e w' ⟨rfl, rfl⟩; rw [h1]) | (go_at_call 43; refine (device_may a0 a1 a2 a3 a4 A c l W (Kd.C_below HR.out H2.out.2.2)).mono ?_; rintro e w1 ⟨rfl, hb1⟩; rw [hm]; have HD0 := Aside0.mk (H2.out.1.below hb1); have HD := Aside0.mk (H2.out.2.1.below hb1); have HB1 := Aside0.mk (bthen H2.out.2.2 hb1); clear hb1; clear d0 d1 d2 d3 d4 d5 z0 z1 z2 z3 z4 z5 y0 y1 y2 y3 y4 y5; obtain ⟨⟨d0, d1, d2, d3, d4, d5⟩, ⟨z0, z1, z2, z3, z4, z5⟩, ⟨y0, y1, y2, y3, y4, y5⟩⟩ := And.intro HD0.out.cells (And.intro HD.out.cells HD.out.free)))
        refine bodyPost_ret (v := .tuple #[.string ⟨#[]⟩, .agg #[.int .i64 0, .int .i64 0, .int .i64 0, .int .i64 0, .int .i64 0, .slice none 0 0], .int .i64 1800]) (by simp [results, Try.results27, go_sem, *]) rfl ⟨rfl, ?_⟩
        have hbb := HB1.out
        repeat (first | (with_reducible exact hbb) | (with_reducible refine below_set ?_ (Nat.le_succ _)))
  · have h1 : (decide ((f.size : Int) = 768)) = false := by simp [hf]
    have HB1 := Aside0.mk H2.out.2.2
    clear hf H
    go_wp2_with (go_at_call 42; refine (norMay_calls _ _).mono ?_; rintro e w' ⟨rfl, rfl⟩; rw [h1])
    refine bodyPost_ret (v := .tuple #[.string ⟨#[]⟩, .agg #[.int .i64 0, .int .i64 0, .int .i64 0, .int .i64 0, .int .i64 0, .slice none 0 0], .int .i64 1800]) (by simp [results, Try.results27, go_sem, *]) rfl ⟨rfl, ?_⟩
    have hbb := HB1.out
    repeat (first | (with_reducible exact hbb) | (with_reducible refine below_set ?_ (Nat.le_succ _)))
set_option maxHeartbeats 2000000 in
set_option maxRecDepth 100000 in
theorem cut_idle (f : ByteArray) (a0 a1 a2 a3 a4 : Int) (A : Option Addr) (c : Nat) (l : List SOp) (n : Int) (w : World) (hr : Kd.C k59 w A l.length l) (hc : l.length ≤ c) (hf : (f.size : Int) = 768) (hm : devMayB a0 a1 a2 a3 a4 l = true) (hn0 : 0 ≤ n) (hn1 : n ≤ 96) (hw : worksB a0 = false ∨ l.length = 0) :
    Calls Try.prog 27 #[.string f, .agg #[.int .i64 a0, .int .i64 a1, .int .i64 a2, .int .i64 a3, .int .i64 a4, .slice A l.length c], .int .i64 n] w fun e w' => e = .returned (.tuple #[.string f, .agg #[.int .i64 0, .int .i64 0, .int .i64 0, .int .i64 0, .int .i64 0, .slice none 0 0], .int .i64 0]) ∧ Below w.heap.size w w' := by
  have h1 : (decide ((f.size : Int) = 768)) = true := by simp [hf]
  have HWK := Aside0.mk hw
  clear hf hw
  have HR := Aside0.mk hr
  clear hr
  obtain ⟨W, hW⟩ : ∃ W, W = (w.alloc (.cells #[.int .i64 a0, .int .i64 a1, .int .i64 a2, .int .i64 a3, .int .i64 a4, .slice A l.length c] 26)).alloc (.cells #[.int .i64 0, .int .i64 0, .int .i64 0, .int .i64 0, .int .i64 0, .slice none 0 0] 26) := ⟨_, rfl⟩
  have H2 := Aside0.mk (two_devs w a0 a1 a2 a3 a4 (.slice A l.length c) W hW)
  have HW := Lib.hid hW
  clear hW
  go_enter Try.func27, Try.ntmps27
  go_upto_region 1 with (fail)
  rw [← HW.out]
  clear HW
  obtain ⟨⟨d0, d1, d2, d3, d4, d5⟩, ⟨z0, z1, z2, z3, z4, z5⟩, ⟨y0, y1, y2, y3, y4, y5⟩⟩ := And.intro H2.out.1.cells (And.intro H2.out.2.1.cells H2.out.2.1.free)
  rcases HWK.out with hw | hw
  · go_wp2_with (first | (go_at_call 42; refine (norMay_calls _ _).mono ?_; rintro e w' ⟨rfl, rfl⟩; rw [h1]) | (go_at_call 43; refine (device_may a0 a1 a2 a3 a4 A c l W (Kd.C_below HR.out H2.out.2.2)).mono ?_; rintro e w1 ⟨rfl, hb1⟩; rw [hm]; have HD0 := Aside0.mk (H2.out.1.below hb1); have HD := Aside0.mk (H2.out.2.1.below hb1); have HB1 := Aside0.mk (bthen H2.out.2.2 hb1); clear hb1; clear d0 d1 d2 d3 d4 d5 z0 z1 z2 z3 z4 z5 y0 y1 y2 y3 y4 y5; obtain ⟨⟨d0, d1, d2, d3, d4, d5⟩, ⟨z0, z1, z2, z3, z4, z5⟩, ⟨y0, y1, y2, y3, y4, y5⟩⟩ := And.intro HD0.out.cells (And.intro HD.out.cells HD.out.free)) | (go_at_call 56; refine (works_calls w.heap.size a0 w1 d0).mono ?_; rintro e w' ⟨rfl, rfl⟩; rw [hw]) | (go_at_call 50; refine (new_calls _).mono ?_; rintro e w6 ⟨rfl, hb6⟩; have HD6 := Aside0.mk (HD.out.below hb6); have HB6 := Aside0.mk (bthen HB1.out hb6); clear hb6 z0 z1 z2 z3 z4 z5 y0 y1 y2 y3 y4 y5; obtain ⟨⟨z0, z1, z2, z3, z4, z5⟩, ⟨y0, y1, y2, y3, y4, y5⟩⟩ := And.intro HD6.out.cells HD6.out.free))
    refine bodyPost_ret (v := .tuple #[.string f, .agg #[.int .i64 0, .int .i64 0, .int .i64 0, .int .i64 0, .int .i64 0, .slice none 0 0], .int .i64 0]) (by simp [results, Try.results27, go_sem, *]) rfl ⟨rfl, ?_⟩
    have hbb := HB6.out
    repeat (first | (with_reducible exact hbb) | (with_reducible refine below_set ?_ (Nat.le_succ _)))
  · have hli : decide ((0 : Int) < (l.length : Int)) = false := by rw [hw]; rfl
    have hln : decide (0 < l.length) = false := by rw [hw]; rfl
    have hl0 : ¬ 0 < l.length := by omega
    clear hw
    cases hwk : worksB a0
    all_goals
      go_wp2_with (first | (go_at_call 42; refine (norMay_calls _ _).mono ?_; rintro e w' ⟨rfl, rfl⟩; rw [h1]) | (go_at_call 43; refine (device_may a0 a1 a2 a3 a4 A c l W (Kd.C_below HR.out H2.out.2.2)).mono ?_; rintro e w1 ⟨rfl, hb1⟩; rw [hm]; have HD0 := Aside0.mk (H2.out.1.below hb1); have HD := Aside0.mk (H2.out.2.1.below hb1); have HB1 := Aside0.mk (bthen H2.out.2.2 hb1); clear hb1; clear d0 d1 d2 d3 d4 d5 z0 z1 z2 z3 z4 z5 y0 y1 y2 y3 y4 y5; obtain ⟨⟨d0, d1, d2, d3, d4, d5⟩, ⟨z0, z1, z2, z3, z4, z5⟩, ⟨y0, y1, y2, y3, y4, y5⟩⟩ := And.intro HD0.out.cells (And.intro HD.out.cells HD.out.free)) | (go_at_call 56; refine (works_calls w.heap.size a0 w1 d0).mono ?_; rintro e w' ⟨rfl, rfl⟩; rw [hwk]) | (go_at_call 50; refine (new_calls _).mono ?_; rintro e w6 ⟨rfl, hb6⟩; have HD6 := Aside0.mk (HD.out.below hb6); have HB6 := Aside0.mk (bthen HB1.out hb6); clear hb6 z0 z1 z2 z3 z4 z5 y0 y1 y2 y3 y4 y5; obtain ⟨⟨z0, z1, z2, z3, z4, z5⟩, ⟨y0, y1, y2, y3, y4, y5⟩⟩ := And.intro HD6.out.cells HD6.out.free))
      refine bodyPost_ret (v := .tuple #[.string f, .agg #[.int .i64 0, .int .i64 0, .int .i64 0, .int .i64 0, .int .i64 0, .slice none 0 0], .int .i64 0]) (by simp [results, Try.results27, go_sem, *]) rfl ⟨rfl, ?_⟩
      have hbb := HB6.out
      repeat (first | (with_reducible exact hbb) | (with_reducible refine below_set ?_ (Nat.le_succ _)))
set_option maxHeartbeats 2000000 in
set_option maxRecDepth 100000 in
theorem cut_works (f : ByteArray) (a0 a1 a2 a3 a4 : Int) (A : Option Addr) (c : Nat) (l : List SOp) (n : Int) (w : World) (hr : Kd.C k59 w A l.length l) (hc : l.length ≤ c) (hf : (f.size : Int) = 768) (hm : devMayB a0 a1 a2 a3 a4 l = true) (hn0 : 0 ≤ n) (hn1 : n ≤ 96) (hw : worksB a0 = true) (hl : 0 < l.length) (f' : ByteArray) (hd : ops_Cut.f 2 f (rd_T59 l 0).f0 (rd_T59 l 0).f1 (rd_T59 l 0).f2 n = some (f', 0)) :
    Calls Try.prog 27 #[.string f, .agg #[.int .i64 a0, .int .i64 a1, .int .i64 a2, .int .i64 a3, .int .i64 a4, .slice A l.length c], .int .i64 n] w fun e w' => e = .returned (.tuple #[.string f', .agg #[.int .i64 0, .int .i64 0, .int .i64 0, .int .i64 0, .int .i64 0, .slice none 0 0], .int .i64 0]) ∧ Below w.heap.size w w' := by
  have h1 : (decide ((f.size : Int) = 768)) = true := by simp [hf]
  have HCT := Aside0.mk hd
  have hli : (0 : Int) < (l.length : Int) := by omega
  obtain ⟨ad, hA, e0, e1, e2⟩ := at_T59 hr 0 (by decide) (by omega)
  have HE := Aside0.mk (And.intro e0 (And.intro e1 e2))
  subst hA
  clear hf hd e0 e1 e2
  generalize rd_T59 l 0 = o at *
  obtain ⟨oe, oa, ot⟩ := o
  have HR := Aside0.mk hr
  clear hr
  obtain ⟨W, hW⟩ : ∃ W, W = (w.alloc (.cells #[.int .i64 a0, .int .i64 a1, .int .i64 a2, .int .i64 a3, .int .i64 a4, .slice (some ad) l.length c] 26)).alloc (.cells #[.int .i64 0, .int .i64 0, .int .i64 0, .int .i64 0, .int .i64 0, .slice none 0 0] 26) := ⟨_, rfl⟩
  have H2 := Aside0.mk (two_devs w a0 a1 a2 a3 a4 (.slice (some ad) l.length c) W hW)
  have HW := Lib.hid hW
  clear hW
  go_enter Try.func27, Try.ntmps27
  go_upto_region 1 with (fail)
  rw [← HW.out]
  clear HW
  obtain ⟨⟨d0, d1, d2, d3, d4, d5⟩, ⟨z0, z1, z2, z3, z4, z5⟩, ⟨y0, y1, y2, y3, y4, y5⟩⟩ := And.intro H2.out.1.cells (And.intro H2.out.2.1.cells H2.out.2.1.free)
  go_upto_region 4 with (first | (go_at_call 42; refine (norMay_calls _ _).mono ?_; rintro e w' ⟨rfl, rfl⟩; rw [h1]) | (go_at_call 43; refine (device_may a0 a1 a2 a3 a4 (some ad) c l W (Kd.C_below HR.out H2.out.2.2)).mono ?_; rintro e w1 ⟨rfl, hb1⟩; rw [hm]; have HD0 := Aside0.mk (H2.out.1.below hb1); have HD := Aside0.mk (H2.out.2.1.below hb1); have HB1 := Aside0.mk (bthen H2.out.2.2 hb1); clear hb1; clear d0 d1 d2 d3 d4 d5 z0 z1 z2 z3 z4 z5 y0 y1 y2 y3 y4 y5; obtain ⟨⟨d0, d1, d2, d3, d4, d5⟩, ⟨z0, z1, z2, z3, z4, z5⟩, ⟨y0, y1, y2, y3, y4, y5⟩⟩ := And.intro HD0.out.cells (And.intro HD.out.cells HD.out.free)) | (go_at_call 56; refine (works_calls w.heap.size a0 w1 d0).mono ?_; rintro e w' ⟨rfl, rfl⟩; rw [hw]))
  have e0 := pw_cell_below HB1.out HE.out.1
  have e1 := pw_cell_below HB1.out HE.out.2.1
  have e2 := pw_cell_below HB1.out HE.out.2.2
  have hz0 : ad.add ((0 : Int).toNat * 3) = ad := by simp [Addr.add]
  rw [hz0] at e0 e1 e2
  clear hz0
  go_wp2_with (first | (go_at_call 61; refine (ops_Cut.calls 2 f oe oa ot n f' 0 w1 HCT.out).mono ?_; rintro e w4 ⟨rfl, hb4⟩; have HD4 := Aside0.mk (HD.out.below hb4); have HB4 := Aside0.mk (bthen HB1.out hb4); clear hb4 HD HB1; have HD := HD4; have HB1 := HB4; clear HD4 HB4) | (go_at_call 50; refine (new_calls _).mono ?_; rintro e w6 ⟨rfl, hb6⟩; have HD6 := Aside0.mk (HD.out.below hb6); have HB6 := Aside0.mk (bthen HB1.out hb6); clear hb6 z0 z1 z2 z3 z4 z5 y0 y1 y2 y3 y4 y5; obtain ⟨⟨z0, z1, z2, z3, z4, z5⟩, ⟨y0, y1, y2, y3, y4, y5⟩⟩ := And.intro HD6.out.cells HD6.out.free))
  refine bodyPost_ret (v := .tuple #[.string f', .agg #[.int .i64 0, .int .i64 0, .int .i64 0, .int .i64 0, .int .i64 0, .slice none 0 0], .int .i64 0]) (by simp [results, Try.results27, go_sem, *]) rfl ⟨rfl, ?_⟩
  have hbb := HB6.out
  repeat (first | (with_reducible exact hbb) | (with_reducible refine below_set ?_ (Nat.le_succ _)))
end Go.Proofs.Ytaibkfgpdgabaaa.P
end
