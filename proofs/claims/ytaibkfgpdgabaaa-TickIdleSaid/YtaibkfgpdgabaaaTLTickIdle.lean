/- A part of the proof of T: what its last text uses; conditions: see there. -/
import Derived.Test.YtaibkfgpdgabaaaTHAwk18b
import Derived.Test.YtaibkfgpdgabaaaTLUploadForms
import Derived.Test.YtaibkfgpdgabaaaTHOpen
section
namespace Go.Proofs.Ytaibkfgpdgabaaa.P
open Go.RowKit Go.Proofs.YtaibkfgpdgabaaaW.PrintWords Go.Proofs.YtaibkfgpdgabaaaW.PrintLast Go.Proofs.YtaibkfgpdgabaaaW.PrintMore
set_option linter.unusedVariables false
set_option linter.unusedSimpArgs false
theorem works_no {a0 : Int} (h2 : a0 ≠ 2) (h5 : a0 ≠ 5) : worksB a0 = false := by
  simp [worksB, h2, h5]
theorem idle_len {f : ByteArray} {a0 a1 a2 a3 a4 : Int} {l : List SOp} (h : bothB f a0 a1 a2 a3 a4 l = true) : l.length ≤ 768 := by
  simp only [bothB, devMayB, Bool.and_eq_true, Bool.or_eq_true, decide_eq_true_eq] at h
  omega
set_option maxHeartbeats 4000000 in
set_option maxRecDepth 100000 in
theorem idle_no (f : ByteArray) (a0 a1 a2 a3 a4 n : Int) (A : Option Addr) (c : Nat) (l : List SOp) (w : World) (hr : Kd.C k59 w A l.length l) (hc : l.length ≤ c) (h2 : a0 ≠ 2) (h5 : a0 ≠ 5) (hm : bothB f a0 a1 a2 a3 a4 l = false) :
    Calls Try.prog 11 #[.string f, .agg #[.int .i64 a0, .int .i64 a1, .int .i64 a2, .int .i64 a3, .int .i64 a4, .slice A l.length c], .int .i64 n] w fun e w' => e = .returned (.bool true) ∧ Below w.heap.size w w' := by
  have HR := Aside0.mk hr
  have HLC := Aside0.mk hc
  have HM := Aside0.mk hm
  have hb2 : (a0 == 2) = false := by simp [h2]
  have hb5 : (a0 == 5) = false := by simp [h5]
  clear hr hc hm
  go_enter Try.func11, Try.ntmps11
  go_upto_region 1 with (fail)
  have HD := Aside0.mk (Dev.new w a0 a1 a2 a3 a4 (.slice A l.length c))
  have HB := Aside0.mk (balloc w (.cells #[.int .i64 a0, .int .i64 a1, .int .i64 a2, .int .i64 a3, .int .i64 a4, .slice A l.length c] 26))
  have HRX := Aside0.mk (Kd.C_below HR.out HB.out)
  clear HR
  generalize w.alloc (.cells #[.int .i64 a0, .int .i64 a1, .int .i64 a2, .int .i64 a3, .int .i64 a4, .slice A l.length c] 26) = X at *
  go_upto_region 3 with (go_at_call 30; refine (awake18_calls _).mono ?_; rintro e w0 ⟨rfl, hb0⟩; have HB0 := Aside0.mk hb0; clear hb0)
  have HDX := Aside0.mk (HD.out.below HB0.out)
  have HC0 := Aside0.mk (Kd.C_below HRX.out HB0.out)
  have HX := Aside0.mk (bthen HB.out HB0.out)
  clear HD HRX HB HB0
  obtain ⟨d0, d1, d2, d3, d4, d5⟩ := HDX.out.cells
  go_upto_region 6 with (go_at_call 25; refine (step_no f a0 a1 a2 a3 a4 A c l _ HC0.out HLC.out HM.out).mono ?_; rintro e w3 ⟨rfl, hb⟩; have HB3 := Aside0.mk hb; clear hb)
  clear d0 d1 d2 d3 d4 d5
  have HA3 := Aside0.mk (bthen HB3.out (balloc w3 (.cells #[.int .i64 0, .int .i64 0, .int .i64 0, .int .i64 0, .int .i64 0, .slice none 0 0] 26)))
  have HD3 := Aside0.mk (Dev.new w3 0 0 0 0 0 (.slice none 0 0))
  have HDY := Aside0.mk (HDX.out.below HA3.out)
  have HC3 := Aside0.mk (Kd.C_below HC0.out HA3.out)
  have HX3 := Aside0.mk (bthen HX.out HA3.out)
  clear HDX HC0 HX HB3 HA3
  generalize w3.alloc (.cells #[.int .i64 0, .int .i64 0, .int .i64 0, .int .i64 0, .int .i64 0, .slice none 0 0] 26) = Y at *
  generalize hbd3 : w3.heap.size = b3 at *
  obtain ⟨d0, d1, d2, d3, d4, d5⟩ := HDY.out.cells
  go_upto_region 7 with (go_at_call 27; refine (cut_no f a0 a1 a2 a3 a4 A c l _ _ HC3.out HLC.out (.inl HM.out)).mono ?_; rintro e w4 ⟨rfl, hb⟩; have HB4 := Aside0.mk hb; clear hb)
  clear d0 d1 d2 d3 d4 d5
  have HX4 := Aside0.mk (bthen HX3.out (bthen HB4.out (balloc w4 (.cells #[.int .i64 0, .int .i64 0, .int .i64 0, .int .i64 0, .int .i64 0, .slice none 0 0] 26))))
  clear HDY HC3 HX3 HB4 HD3
  generalize w4.alloc (.cells #[.int .i64 0, .int .i64 0, .int .i64 0, .int .i64 0, .int .i64 0, .slice none 0 0] 26) = Z at *
  have hs := sentOps_len
  have hfd : ∀ (A : Option Addr) (n c : Nat) (w : World), (Instr.field 26 (.agg #[.int .i64 1, .int .i64 0, .int .i64 1, .int .i64 32, .int .i64 0, .slice A n c]) 5).run Try.prog w = .ok (.slice A n c) w := fun _ _ _ _ => by kernel_rfl
  go_wp2_with (first | (go_at_call 19; refine (num0_calls _ _).mono ?_; rintro e w' ⟨rfl, rfl⟩) | (go_at_call 34; refine (sentC_calls _).mono ?_; rintro e w5 ⟨A5, c5, rfl, HC5, HL5, HB5⟩))
  go_ret
  exact ⟨rfl, bthen HX4.out HB5.out⟩
set_option maxHeartbeats 4000000 in
set_option maxRecDepth 100000 in
theorem idle_yes (f : ByteArray) (a0 a1 a2 a3 a4 n : Int) (A : Option Addr) (c : Nat) (l : List SOp) (w : World) (hr : Kd.C k59 w A l.length l) (hc : l.length ≤ c) (h2 : a0 ≠ 2) (h5 : a0 ≠ 5) (hm : bothB f a0 a1 a2 a3 a4 l = true) :
    Calls Try.prog 11 #[.string f, .agg #[.int .i64 a0, .int .i64 a1, .int .i64 a2, .int .i64 a3, .int .i64 a4, .slice A l.length c], .int .i64 n] w fun e w' => e = .returned (.bool true) ∧ Below w.heap.size w w' := by
  have HR := Aside0.mk hr
  have HLC := Aside0.mk hc
  have HM := Aside0.mk hm
  have HW := Aside0.mk (works_no h2 h5)
  have HL := Aside0.mk (show l.length ≤ 4611686018427387904 from Nat.le_trans (idle_len hm) (by decide))
  have hm2 := hm
  simp only [bothB, Bool.and_eq_true, decide_eq_true_eq] at hm2
  have HF := Aside0.mk hm2
  clear hm2
  have hb2 : (a0 == 2) = false := by simp [h2]
  have hb5 : (a0 == 5) = false := by simp [h5]
  obtain ⟨x, hx, hx1⟩ := modU n 97 (by decide) (by decide)
  have HN := Lib.hid hx
  clear hr hc hm hx
  go_enter Try.func11, Try.ntmps11
  go_upto_region 1 with (fail)
  have HD := Aside0.mk (Dev.new w a0 a1 a2 a3 a4 (.slice A l.length c))
  have HB := Aside0.mk (balloc w (.cells #[.int .i64 a0, .int .i64 a1, .int .i64 a2, .int .i64 a3, .int .i64 a4, .slice A l.length c] 26))
  have HRX := Aside0.mk (Kd.C_below HR.out HB.out)
  clear HR
  generalize w.alloc (.cells #[.int .i64 a0, .int .i64 a1, .int .i64 a2, .int .i64 a3, .int .i64 a4, .slice A l.length c] 26) = X at *
  go_upto_region 3 with (go_at_call 30; refine (awake18_calls _).mono ?_; rintro e w0 ⟨rfl, hb0⟩; have HB0 := Aside0.mk hb0; clear hb0)
  have HDX := Aside0.mk (HD.out.below HB0.out)
  have HC0 := Aside0.mk (Kd.C_below HRX.out HB0.out)
  have HX := Aside0.mk (bthen HB.out HB0.out)
  clear HD HRX HB HB0
  obtain ⟨d0, d1, d2, d3, d4, d5⟩ := HDX.out.cells
  go_upto_region 6 with (go_at_call 25; refine (step_idle f a0 a1 a2 a3 a4 A c l _ HC0.out HLC.out HM.out HW.out).mono ?_; rintro e w3 ⟨v, rfl, hq, hb⟩; obtain ⟨A3, c3, rfl, hl3⟩ := Kd.Q_slice hq; have HQ := Aside0.mk (Kd.Q_reads' hq).2.2; have HL3 := Aside0.mk hl3; have HB3 := Aside0.mk hb; clear hb hq hl3)
  clear d0 d1 d2 d3 d4 d5
  have HA3 := Aside0.mk (balloc w3 (.cells #[.int .i64 a0, .int .i64 a1, .int .i64 a2, .int .i64 a3, .int .i64 a4, .slice A3 l.length c3] 26))
  have HD3 := Aside0.mk (Dev.new w3 a0 a1 a2 a3 a4 (.slice A3 l.length c3))
  have HDY := Aside0.mk (HDX.out.below (bthen HB3.out HA3.out))
  have HC3 := Aside0.mk (Kd.C_below HC0.out (bthen HB3.out HA3.out))
  have HQ3 := Aside0.mk (Kd.C_below HQ.out HA3.out)
  have HX3 := Aside0.mk (bthen HX.out (bthen HB3.out HA3.out))
  clear HDX HC0 HX HB3 HA3 HQ
  generalize w3.alloc (.cells #[.int .i64 a0, .int .i64 a1, .int .i64 a2, .int .i64 a3, .int .i64 a4, .slice A3 l.length c3] 26) = Y at *
  generalize hbd3 : w3.heap.size = b3 at *
  obtain ⟨d0, d1, d2, d3, d4, d5⟩ := HDY.out.cells
  have hx := HN.out
  go_upto_region 7 with (go_at_call 27; refine (cut_idle f a0 a1 a2 a3 a4 A c l _ _ HC3.out HLC.out HF.out.1 HF.out.2 (by omega) (by omega) (.inl HW.out)).mono ?_; rintro e w4 ⟨rfl, hb⟩; have HB4 := Aside0.mk hb; clear hb)
  clear d0 d1 d2 d3 d4 d5
  have HA4 := Aside0.mk (bthen HB4.out (balloc w4 (.cells #[.int .i64 0, .int .i64 0, .int .i64 0, .int .i64 0, .int .i64 0, .slice none 0 0] 26)))
  have HD4 := Aside0.mk (Dev.new w4 0 0 0 0 0 (.slice none 0 0))
  have HDZ := Aside0.mk (HDY.out.below HA4.out)
  have HD3Z := Aside0.mk (HD3.out.below HA4.out)
  have HC4 := Aside0.mk (Kd.C_below HC3.out HA4.out)
  have HQ4 := Aside0.mk (Kd.C_below HQ3.out HA4.out)
  have KB := Aside0.mk (bthen HX3.out HA4.out)
  clear HDY HC3 HX3 HB4 HD3 HQ3 HA4
  generalize w4.alloc (.cells #[.int .i64 0, .int .i64 0, .int .i64 0, .int .i64 0, .int .i64 0, .slice none 0 0] 26) = Z at *
  generalize hbd4 : w4.heap.size = b4 at *
  obtain ⟨⟨d0, d1, d2, d3, d4, d5⟩, ⟨f0, f1, f2, f3, f4, f5⟩, ⟨g0, g1, g2, g3, g4, g5⟩⟩ := And.intro HDZ.out.cells (And.intro HD3Z.out.cells HD4.out.cells)
  go_wp2_with (first | (go_at_call 19; refine (num0_calls _ _).mono ?_; rintro e w' ⟨rfl, rfl⟩) | (go_at_call 18; ((with_reducible refine (sameS_calls a0 a1 a2 a3 a4 A3 A c3 c l _ HQ4.out HL3.out HC4.out HLC.out HL.out).mono ?_); rintro e ws ⟨rfl, hb⟩; have KB := Aside0.mk (bthen KB.out hb); have HD4 := Aside0.mk (HD4.out.below hb); clear hb d0 d1 d2 d3 d4 d5 f0 f1 f2 f3 f4 f5 g0 g1 g2 g3 g4 g5; obtain ⟨g0, g1, g2, g3, g4, g5⟩ := HD4.out.cells)) | (go_at_call 18; refine (same0_calls 0 0 0 0 0 none none 0 0 _ (opsNil _) (opsNil _)).mono ?_; rintro e ws2 ⟨rfl, hb⟩; have KB := Aside0.mk (bthen KB.out hb); clear hb))
  go_ret
  exact ⟨rfl, KB.out⟩
set_option maxHeartbeats 4000000 in
set_option maxRecDepth 100000 in
theorem idle_busy (f : ByteArray) (a0 a1 a2 a3 a4 n : Int) (A : Option Addr) (c : Nat) (l : List SOp) (w : World) (h : a0 = 2 ∨ a0 = 5) :
    Calls Try.prog 11 #[.string f, .agg #[.int .i64 a0, .int .i64 a1, .int .i64 a2, .int .i64 a3, .int .i64 a4, .slice A l.length c], .int .i64 n] w fun e w' => e = .returned (.bool true) ∧ Below w.heap.size w w' := by
  rcases h with rfl | rfl
  · go_enter Try.func11, Try.ntmps11
    go_upto_region 1 with (fail)
    have HD := Aside0.mk (Dev.new w 2 a1 a2 a3 a4 (.slice A l.length c))
    have HB := Aside0.mk (balloc w (.cells #[.int .i64 2, .int .i64 a1, .int .i64 a2, .int .i64 a3, .int .i64 a4, .slice A l.length c] 26))
    generalize w.alloc (.cells #[.int .i64 2, .int .i64 a1, .int .i64 a2, .int .i64 a3, .int .i64 a4, .slice A l.length c] 26) = X at *
    go_upto_region 3 with (go_at_call 30; refine (awake18_calls _).mono ?_; rintro e w0 ⟨rfl, hb0⟩; have HB0 := Aside0.mk hb0; clear hb0)
    have HDX := Aside0.mk (HD.out.below HB0.out)
    have HX := Aside0.mk (bthen HB.out HB0.out)
    clear HD HB HB0
    obtain ⟨d0, d1, d2, d3, d4, d5⟩ := HDX.out.cells
    go_wp2
    go_ret
    exact ⟨rfl, HX.out⟩
  · go_enter Try.func11, Try.ntmps11
    go_upto_region 1 with (fail)
    have HD := Aside0.mk (Dev.new w 5 a1 a2 a3 a4 (.slice A l.length c))
    have HB := Aside0.mk (balloc w (.cells #[.int .i64 5, .int .i64 a1, .int .i64 a2, .int .i64 a3, .int .i64 a4, .slice A l.length c] 26))
    generalize w.alloc (.cells #[.int .i64 5, .int .i64 a1, .int .i64 a2, .int .i64 a3, .int .i64 a4, .slice A l.length c] 26) = X at *
    go_upto_region 3 with (go_at_call 30; refine (awake18_calls _).mono ?_; rintro e w0 ⟨rfl, hb0⟩; have HB0 := Aside0.mk hb0; clear hb0)
    have HDX := Aside0.mk (HD.out.below HB0.out)
    have HX := Aside0.mk (bthen HB.out HB0.out)
    clear HD HB HB0
    obtain ⟨d0, d1, d2, d3, d4, d5⟩ := HDX.out.cells
    go_wp2
    go_ret
    exact ⟨rfl, HX.out⟩
theorem idle_calls (f : ByteArray) (a0 a1 a2 a3 a4 : Int) (A : Option Addr) (c : Nat) (l : List SOp) (n : Int) (w : World) (hr : Kd.C k59 w A l.length l) (hc : l.length ≤ c) :
    Calls Try.prog 11 #[.string f, .agg #[.int .i64 a0, .int .i64 a1, .int .i64 a2, .int .i64 a3, .int .i64 a4, .slice A l.length c], .int .i64 n] w fun e w' => e = .returned (.bool true) ∧ Below w.heap.size w w' := by
  by_cases h2 : a0 = 2
  · exact idle_busy f a0 a1 a2 a3 a4 n A c l w (.inl h2)
  · by_cases h5 : a0 = 5
    · exact idle_busy f a0 a1 a2 a3 a4 n A c l w (.inr h5)
    · cases hm : bothB f a0 a1 a2 a3 a4 l with
      | false => exact idle_no f a0 a1 a2 a3 a4 n A c l w hr hc h2 h5 hm
      | true => exact idle_yes f a0 a1 a2 a3 a4 n A c l w hr hc h2 h5 hm
end Go.Proofs.Ytaibkfgpdgabaaa.P
end
