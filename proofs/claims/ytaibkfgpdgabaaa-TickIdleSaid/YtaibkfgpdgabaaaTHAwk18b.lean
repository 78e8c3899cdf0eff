/- A part of the proof of T: what its last text uses; conditions: see there. -/
import Derived.Deep.RegionHeld3
import Derived.Deep.DrawnRows
import Derived.Test.YtaibkfgpdgabaaaTQSent
import Derived.Test.YtaibkfgpdgabaaaTW0
section
namespace Go.Proofs.Ytaibkfgpdgabaaa.P
open Go.RowKit Go.Proofs.YtaibkfgpdgabaaaW.PrintWords Go.Proofs.YtaibkfgpdgabaaaW.PrintLast Go.Proofs.YtaibkfgpdgabaaaW.PrintMore
set_option linter.unusedVariables false
set_option linter.unusedSimpArgs false
theorem devS_tickF : tickF (ffB 768) devS = ffB 768 := by
  show (if worksB 1 = true then _ else ffB 768) = _
  rw [if_neg (by decide)]
theorem devS_tickD : tickD devS = devS := by
  show (if worksB 1 = true then _ else devS) = _
  rw [if_neg (by decide)]
theorem stepA_calls (A : Option Addr) (c : Nat) (w : World) (hr : Kd.C k59 w A 1 [opA]) (hc : 1 ≤ c) :
    Calls Try.prog 25 #[.string (ffB 768), .agg #[.int .i64 2, .int .i64 0, .int .i64 0, .int .i64 0, .int .i64 0, .slice A 1 c]] w fun e w' => ∃ (A' : Option Addr) (c' : Nat), e = .returned (.tuple #[.string (doB (ffB 768) false 192 abcd 96), .agg #[.int .i64 1, .int .i64 0, .int .i64 0, .int .i64 0, .int .i64 0, .slice A' 0 c'], .int .i64 0]) ∧ Below w.heap.size w w' := by
  refine (tstep_calls (ffB 768) devA A c w hr hc devA_may opA_ok).mono ?_
  rintro e w' ⟨v, rfl, hq, hb⟩
  rw [devA_tickF, devA_tickD]
  rw [devA_tickD] at hq
  obtain ⟨A', c', rfl, hl⟩ := Kd.Q_slice hq
  exact ⟨A', c', rfl, hb⟩
theorem cutA_calls (A : Option Addr) (c : Nat) (w : World) (hr : Kd.C k59 w A 1 [opA]) (hc : 1 ≤ c) :
    Calls Try.prog 27 #[.string (ffB 768), .agg #[.int .i64 2, .int .i64 0, .int .i64 0, .int .i64 0, .int .i64 0, .slice A 1 c], .int .i64 3] w fun e w' => e = .returned (.tuple #[.string (doB (ffB 768) false 192 abcd 3), .agg #[.int .i64 0, .int .i64 0, .int .i64 0, .int .i64 0, .int .i64 0, .slice none 0 0], .int .i64 0]) ∧ Below w.heap.size w w' := by
  refine (tcut_calls (ffB 768) devA 3 A c w hr hc devA_may opA_ok (by decide) (by decide)).mono ?_
  rintro e w' ⟨rfl, hb⟩
  rw [devA_cutF]
  exact ⟨rfl, hb⟩
theorem stepN_calls (A : Option Addr) (c : Nat) (w : World) (hr : Kd.C k59 w A 1 [opA]) (hc : 1 ≤ c) :
    Calls Try.prog 25 #[.string ⟨#[]⟩, .agg #[.int .i64 2, .int .i64 0, .int .i64 0, .int .i64 0, .int .i64 0, .slice A 1 c]] w fun e w' => e = .returned (.tuple #[.string ⟨#[]⟩, .agg #[.int .i64 0, .int .i64 0, .int .i64 0, .int .i64 0, .int .i64 0, .slice none 0 0], .int .i64 1800]) ∧ Below w.heap.size w w' := step_no' ⟨#[]⟩ devA A c w hr hc devA_no
theorem stepS_calls (A : Option Addr) (c : Nat) (w : World) (hr : Kd.C k59 w A sentOps.length sentOps) (hc : sentOps.length ≤ c) :
    Calls Try.prog 25 #[.string (ffB 768), .agg #[.int .i64 1, .int .i64 0, .int .i64 1, .int .i64 32, .int .i64 0, .slice A sentOps.length c]] w fun e w' => ∃ (A' : Option Addr) (c' : Nat), e = .returned (.tuple #[.string (ffB 768), .agg #[.int .i64 1, .int .i64 0, .int .i64 1, .int .i64 32, .int .i64 0, .slice A' sentOps.length c'], .int .i64 0]) ∧ Aside0 (Kd.C k59 w' A' sentOps.length sentOps) ∧ Aside0 (sentOps.length ≤ c') ∧ Aside0 (Below w.heap.size w w') := by
  refine (tstep_calls (ffB 768) devS A c w hr hc devS_may sentOps_ok).mono ?_
  rintro e w' ⟨v, rfl, hq, hb⟩
  rw [devS_tickF, devS_tickD]
  rw [devS_tickD] at hq
  obtain ⟨A', c', rfl, hl⟩ := Kd.Q_slice hq
  exact ⟨A', c', rfl, ⟨(Kd.Q_reads' hq).2.2⟩, ⟨hl⟩, ⟨hb⟩⟩
theorem sentC_calls (w : World) : Calls Try.prog 34 #[] w fun e w' => ∃ (A : Option Addr) (c : Nat), e = .returned (.agg #[.int .i64 1, .int .i64 0, .int .i64 1, .int .i64 32, .int .i64 0, .slice A sentOps.length c]) ∧ Aside0 (Kd.C k59 w' A sentOps.length sentOps) ∧ Aside0 (sentOps.length ≤ c) ∧ Aside0 (Below w.heap.size w w') := by
  refine (sent_calls w).mono ?_
  rintro e w' ⟨v, rfl, hq, hb⟩
  obtain ⟨A', c', rfl, hl⟩ := Kd.Q_slice hq
  exact ⟨A', c', rfl, ⟨(Kd.Q_reads' hq).2.2⟩, ⟨hl⟩, ⟨hb⟩⟩
theorem sameS_calls (a0 a1 a2 a3 a4 : Int) (A B : Option Addr) (c d : Nat) (l : List SOp) (w : World) (hA : Kd.C k59 w A l.length l) (ha : l.length ≤ c) (hB : Kd.C k59 w B l.length l) (hb : l.length ≤ d) (hl : l.length ≤ 4611686018427387904) :
    Calls Try.prog 18 #[.agg #[.int .i64 a0, .int .i64 a1, .int .i64 a2, .int .i64 a3, .int .i64 a4, .slice A l.length c], .agg #[.int .i64 a0, .int .i64 a1, .int .i64 a2, .int .i64 a3, .int .i64 a4, .slice B l.length d]] w fun e w' => e = .returned (.bool true) ∧ Below w.heap.size w w' := by
  refine (sameD_calls a0 a1 a2 a3 a4 a0 a1 a2 a3 a4 A B c d l l w hA ha hB hb hl).mono ?_
  rintro e w' ⟨rfl, hb⟩
  exact ⟨by simp, hb⟩
theorem keep18 {W w' : World} {b3 b4 b6 : Nat} {A3 A6 : Option Addr} {c3 c6 : Nat} (h : W.cell? ⟨b3, 0, none⟩ = some (.int .i64 1) ∧ W.cell? ⟨b3, 5, none⟩ = some (.slice A3 0 c3) ∧ W.cell? ⟨b4, 0, none⟩ = some (.int .i64 0) ∧ W.cell? ⟨b4, 1, none⟩ = some (.int .i64 0) ∧ W.cell? ⟨b4, 2, none⟩ = some (.int .i64 0) ∧ W.cell? ⟨b4, 3, none⟩ = some (.int .i64 0) ∧ W.cell? ⟨b4, 4, none⟩ = some (.int .i64 0) ∧ W.cell? ⟨b4, 5, none⟩ = some (.slice none 0 0) ∧ W.cell? ⟨b6, 0, none⟩ = some (.int .i64 1) ∧ W.cell? ⟨b6, 1, none⟩ = some (.int .i64 0) ∧ W.cell? ⟨b6, 2, none⟩ = some (.int .i64 1) ∧ W.cell? ⟨b6, 3, none⟩ = some (.int .i64 32) ∧ W.cell? ⟨b6, 4, none⟩ = some (.int .i64 0) ∧ W.cell? ⟨b6, 5, none⟩ = some (.slice A6 sentOps.length c6)) (hb : Below W.heap.size W w') : w'.cell? ⟨b3, 0, none⟩ = some (.int .i64 1) ∧ w'.cell? ⟨b3, 5, none⟩ = some (.slice A3 0 c3) ∧ w'.cell? ⟨b4, 0, none⟩ = some (.int .i64 0) ∧ w'.cell? ⟨b4, 1, none⟩ = some (.int .i64 0) ∧ w'.cell? ⟨b4, 2, none⟩ = some (.int .i64 0) ∧ w'.cell? ⟨b4, 3, none⟩ = some (.int .i64 0) ∧ w'.cell? ⟨b4, 4, none⟩ = some (.int .i64 0) ∧ w'.cell? ⟨b4, 5, none⟩ = some (.slice none 0 0) ∧ w'.cell? ⟨b6, 0, none⟩ = some (.int .i64 1) ∧ w'.cell? ⟨b6, 1, none⟩ = some (.int .i64 0) ∧ w'.cell? ⟨b6, 2, none⟩ = some (.int .i64 1) ∧ w'.cell? ⟨b6, 3, none⟩ = some (.int .i64 32) ∧ w'.cell? ⟨b6, 4, none⟩ = some (.int .i64 0) ∧ w'.cell? ⟨b6, 5, none⟩ = some (.slice A6 sentOps.length c6) :=
  have k : ∀ {g o : Nat} {v : Value}, W.cell? ⟨g, o, none⟩ = some v → w'.cell? ⟨g, o, none⟩ = some v := fun h => pw_cell_below hb h
  ⟨k h.1, k h.2.1, k h.2.2.1, k h.2.2.2.1, k h.2.2.2.2.1, k h.2.2.2.2.2.1, k h.2.2.2.2.2.2.1, k h.2.2.2.2.2.2.2.1, k h.2.2.2.2.2.2.2.2.1, k h.2.2.2.2.2.2.2.2.2.1, k h.2.2.2.2.2.2.2.2.2.2.1, k h.2.2.2.2.2.2.2.2.2.2.2.1, k h.2.2.2.2.2.2.2.2.2.2.2.2.1, k h.2.2.2.2.2.2.2.2.2.2.2.2.2⟩
set_option maxHeartbeats 4000000 in
set_option maxRecDepth 100000 in
theorem awake18_calls (w : World) : Calls Try.prog 30 #[] w fun e w' => e = .returned (.bool true) ∧ Below w.heap.size w w' := by
  go_enter Try.func30, Try.ntmps30
  go_upto_region 2 with (first | (go_at_call 31; refine (blank_calls _).mono ?_; rintro e w1 ⟨rfl, hb⟩; have HB1 := Aside0.mk hb; clear hb))
  go_upto_region 3 with (first | ((with_reducible refine gate_dst (N := 17) rfl ?_); refine Kd.R_lit k59 (w0 := w1) w1.heap.size 59 ?hg (N := 17) ?hd (xs := [opA]) (inner := [.bool false, .int .i64 192, .string ⟨#[97, 98, 99, 100]⟩]) (ok := fun _ => True) (okp := fun _ => True) ?hr ?hp (fun _ hk => hk) trivial (Below.refl _ _) (Nat.le_refl _) (by simp) ?_; (case hd => rfl); (case hg => rfl); (case hr => first | (go_simp; done) | (go_simp; rfl)); (case hp => exact Reps.c3 (k59_mkM _ _ _ opA) (Reps.none _ _)); intro v1 w2 ho hb hg_ hnew_; clear hg_ hnew_; obtain ⟨A, c, rfl, hc, hC⟩ := Kd.R_reads ho; have HC := Aside0.mk hC; have HLC := Aside0.mk hc; have HB2 := Aside0.mk hb; clear ho hb hC hc))
  have HA := Aside0.mk (balloc w2 (.cells #[.int .i64 2, .int .i64 0, .int .i64 0, .int .i64 0, .int .i64 0, .slice A 1 c] 26))
  have HD := Aside0.mk (Dev.new w2 2 0 0 0 0 (.slice A 1 c))
  have HX := Aside0.mk (bthen (bthen HB1.out HB2.out) HA.out)
  have HCX := Aside0.mk (Kd.C_below HC.out HA.out)
  clear HB1 HB2 HC HA
  generalize w2.alloc (.cells #[.int .i64 2, .int .i64 0, .int .i64 0, .int .i64 0, .int .i64 0, .slice A 1 c] 26) = X at *
  generalize hbd : w2.heap.size = bd at *
  clear hbd
  obtain ⟨d0, d1, d2, d3, d4, d5⟩ := HD.out.cells
  go_upto_region 4 with (go_at_call 25; refine (stepA_calls A c _ HCX.out HLC.out).mono ?_; rintro e w3 ⟨A3, c3, rfl, hb⟩; have HB3 := Aside0.mk hb; clear hb)
  clear d0 d1 d2 d3 d4 d5
  have HA3 := Aside0.mk (bthen HB3.out (balloc w3 (.cells #[.int .i64 1, .int .i64 0, .int .i64 0, .int .i64 0, .int .i64 0, .slice A3 0 c3] 26)))
  have HD3 := Aside0.mk (Dev.new w3 1 0 0 0 0 (.slice A3 0 c3))
  have HDX := Aside0.mk (HD.out.below HA3.out)
  have HC3 := Aside0.mk (Kd.C_below HCX.out HA3.out)
  have HX3 := Aside0.mk (bthen HX.out HA3.out)
  clear HD HCX HX HB3 HA3
  generalize w3.alloc (.cells #[.int .i64 1, .int .i64 0, .int .i64 0, .int .i64 0, .int .i64 0, .slice A3 0 c3] 26) = Y at *
  generalize hbd : w3.heap.size = b3 at *
  clear hbd
  obtain ⟨d0, d1, d2, d3, d4, d5⟩ := HDX.out.cells
  go_upto_region 5 with (go_at_call 27; refine (cutA_calls A c _ HC3.out HLC.out).mono ?_; rintro e w4 ⟨rfl, hb⟩; have HB4 := Aside0.mk hb; clear hb)
  clear d0 d1 d2 d3 d4 d5
  have HA4 := Aside0.mk (bthen HB4.out (balloc w4 (.cells #[.int .i64 0, .int .i64 0, .int .i64 0, .int .i64 0, .int .i64 0, .slice none 0 0] 26)))
  have HD4 := Aside0.mk (Dev.new w4 0 0 0 0 0 (.slice none 0 0))
  have HDY := Aside0.mk (HDX.out.below HA4.out)
  have HD3Y := Aside0.mk (HD3.out.below HA4.out)
  have HC4 := Aside0.mk (Kd.C_below HC3.out HA4.out)
  have HX4 := Aside0.mk (bthen HX3.out HA4.out)
  clear HDX HD3 HC3 HX3 HB4 HA4
  generalize w4.alloc (.cells #[.int .i64 0, .int .i64 0, .int .i64 0, .int .i64 0, .int .i64 0, .slice none 0 0] 26) = Z at *
  generalize hbd : w4.heap.size = b4 at *
  clear hbd
  go_upto_region 6 with (first | (go_at_call 34; refine (sentC_calls _).mono ?_; rintro e w5 ⟨A5, c5, rfl, HC5, HL5, HB5⟩) | (go_at_call 25; refine (stepS_calls A5 c5 _ HC5.out HL5.out).mono ?_; rintro e w6 ⟨A6, c6, rfl, HC6, HL6, HB6⟩))
  have HA6 := Aside0.mk (balloc w6 (.cells #[.int .i64 1, .int .i64 0, .int .i64 1, .int .i64 32, .int .i64 0, .slice A6 sentOps.length c6] 26))
  have HB56 := Aside0.mk (bthen (bthen HB5.out HB6.out) HA6.out)
  have HD6 := Aside0.mk (Dev.new w6 1 0 1 32 0 (.slice A6 sentOps.length c6))
  have HDZ := Aside0.mk (HDY.out.below HB56.out)
  have HD3Z := Aside0.mk (HD3Y.out.below HB56.out)
  have HD4Z := Aside0.mk (HD4.out.below HB56.out)
  have HCZ := Aside0.mk (Kd.C_below HC4.out HB56.out)
  have HC6Z := Aside0.mk (Kd.C_below HC6.out HA6.out)
  have HX6 := Aside0.mk (bthen HX4.out HB56.out)
  clear HDY HD3Y HD4 HC4 HX4 HB5 HB6 HB56 HA6 HC5 HL5 HC6
  generalize w6.alloc (.cells #[.int .i64 1, .int .i64 0, .int .i64 1, .int .i64 32, .int .i64 0, .slice A6 sentOps.length c6] 26) = U at *
  generalize hbd : w6.heap.size = b6 at *
  clear hbd
  obtain ⟨d0, d1, d2, d3, d4, d5⟩ := HDZ.out.cells
  go_upto_region 7 with (go_at_call 25; refine (stepN_calls A c _ HCZ.out HLC.out).mono ?_; rintro e w7 ⟨rfl, hb⟩; have HB7 := Aside0.mk hb; clear hb)
  clear d0 d1 d2 d3 d4 d5
  have HB8 := Aside0.mk (bthen HB7.out (balloc w7 (.cells #[.int .i64 0, .int .i64 0, .int .i64 0, .int .i64 0, .int .i64 0, .slice none 0 0] 26)))
  have HD3V := Aside0.mk (HD3Z.out.below HB8.out)
  have HD4V := Aside0.mk (HD4Z.out.below HB8.out)
  have HD6V := Aside0.mk (HD6.out.below HB8.out)
  have HC6V := Aside0.mk (Kd.C_below HC6Z.out HB8.out)
  have HX8 := Aside0.mk (bthen HX6.out HB8.out)
  clear HD3Z HD4Z HD6 HC6Z HX6 HB7 HB8 HDZ HCZ
  generalize w7.alloc (.cells #[.int .i64 0, .int .i64 0, .int .i64 0, .int .i64 0, .int .i64 0, .slice none 0 0] 26) = V at *
  generalize hbd : w7.heap.size = b7 at *
  clear hbd
  have hg := doB_size (ffB 768) false 192 abcd 96 (ffB_size _) (opA_ok opA (List.mem_singleton.2 rfl)) (by decide)
  have hh := doB_size (ffB 768) false 192 abcd 3 (ffB_size _) (opA_ok opA (List.mem_singleton.2 rfl)) (by decide)
  have hge : (doB (ffB 768) false 192 abcd 96).extract 192 196 = ⟨#[97, 98, 99, 100]⟩ := G_ext
  have hhi : (lst (doB (ffB 768) false 192 abcd 3))[192]? = some 249 := H_get
  generalize doB (ffB 768) false 192 abcd 96 = G at *
  generalize doB (ffB 768) false 192 abcd 3 = H at *
  have hg' : (G.size : Int) = 768 := by omega
  have hh' : (H.size : Int) = 768 := by omega
  have hi : (((H[192]'(by omega)).toNat : Nat) : Int) = 249 := by
    have h1 := hhi
    rw [List.getElem?_eq_some_iff] at h1
    obtain ⟨h2, h3⟩ := h1
    have h4 : H[192]'(by omega) = 249 := h3
    rw [h4]
    rfl
  go_upto_region 9 with (fail)
  clear hhi
  have KS := Aside0.mk (And.intro HD3V.out.cells.1 (And.intro HD3V.out.cells.2.2.2.2.2 (And.intro HD4V.out.cells.1 (And.intro HD4V.out.cells.2.1 (And.intro HD4V.out.cells.2.2.1 (And.intro HD4V.out.cells.2.2.2.1 (And.intro HD4V.out.cells.2.2.2.2.1 (And.intro HD4V.out.cells.2.2.2.2.2 HD6V.out.cells))))))))
  go_region_held3 (fun w' => w'.cell? ⟨b3, 0, none⟩ = some (.int .i64 1) ∧ w'.cell? ⟨b3, 5, none⟩ = some (.slice A3 0 c3) ∧ w'.cell? ⟨b4, 0, none⟩ = some (.int .i64 0) ∧ w'.cell? ⟨b4, 1, none⟩ = some (.int .i64 0) ∧ w'.cell? ⟨b4, 2, none⟩ = some (.int .i64 0) ∧ w'.cell? ⟨b4, 3, none⟩ = some (.int .i64 0) ∧ w'.cell? ⟨b4, 4, none⟩ = some (.int .i64 0) ∧ w'.cell? ⟨b4, 5, none⟩ = some (.slice none 0 0) ∧ w'.cell? ⟨b6, 0, none⟩ = some (.int .i64 1) ∧ w'.cell? ⟨b6, 1, none⟩ = some (.int .i64 0) ∧ w'.cell? ⟨b6, 2, none⟩ = some (.int .i64 1) ∧ w'.cell? ⟨b6, 3, none⟩ = some (.int .i64 32) ∧ w'.cell? ⟨b6, 4, none⟩ = some (.int .i64 0) ∧ w'.cell? ⟨b6, 5, none⟩ = some (.slice A6 sentOps.length c6)) (first | exact KS.out | exact keep18 KS.out (below_drew1 (Below.refl _ _)) | exact keep18 KS.out HS3.out | exact keep18 KS.out HS2.out | exact keep18 KS.out HS1.out) (first | (go_at_call 19; refine (num0_calls _ _).mono ?_; rintro e w' ⟨rfl, rfl⟩) | (go_at_call 18; with_reducible refine (same0_calls 0 0 0 0 0 none none 0 0 _ (opsNil _) (opsNil _)).mono ?_; rintro e w8 ⟨rfl, hb⟩; have HS1 := Aside0.mk (bthen (below_drew1 (Below.refl V.heap.size V)) hb); clear hb) | (go_at_call 34; refine (sentC_calls _).mono ?_; rintro e w9 ⟨A9, c9, rfl, HC9, HL9, HB9⟩; have HS2 := Aside0.mk (bthen HS1.out HB9.out); clear HB9) | (go_at_call 18; refine (sameS_calls 1 0 1 32 0 A6 A9 c6 c9 sentOps _ (Kd.C_below HC6V.out HS2.out) HL6.out HC9.out HL9.out (by rw [sentOps_len]; decide)).mono ?_; rintro e w10 ⟨rfl, hb⟩; have HS3 := Aside0.mk (bthen HS2.out hb); clear hb))
  go_wp2
  go_ret
  exact ⟨rfl, bthen HX8.out HS3.out⟩
end Go.Proofs.Ytaibkfgpdgabaaa.P
end
