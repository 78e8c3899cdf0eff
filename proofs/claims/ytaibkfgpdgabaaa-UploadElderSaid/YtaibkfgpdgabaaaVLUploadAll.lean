/- A part of the proof of V: what its last text uses; conditions: see there. -/
import Derived.Test.YtaibkfgpdgabaaaVHDev
import Derived.Test.YtaibkfgpdgabaaaVLUploadForms
section
namespace Go.Proofs.Ytaibkfgpdgabaaa.P
open Go.RowKit Go.Proofs.YtaibkfgpdgabaaaW.PrintWords Go.Proofs.YtaibkfgpdgabaaaW.PrintLast Go.Proofs.YtaibkfgpdgabaaaW.PrintMore
set_option linter.unusedVariables false
set_option linter.unusedSimpArgs false
theorem all_may (f : ByteArray) (hf : f.size = 768) (k : Nat) (st : Int) (hk : k ≤ 9) (hst : st = 0 ∧ k = 0 ∨ st = 6) : giveMayB f st 0 k 0 0 [] k 32 = true := by
  have hd : devMayB st 0 k 0 0 [] = true := by
    simp only [devMayB, opsMayB, Bool.and_eq_true, Bool.or_eq_true, decide_eq_true_eq, List.all_nil, List.length_nil]
    refine ⟨⟨⟨⟨⟨⟨⟨⟨⟨⟨?_, ?_⟩, ?_⟩, ?_⟩, ?_⟩, ?_⟩, ?_⟩, ?_⟩, ?_⟩, ?_⟩, ?_⟩ <;> first | omega | trivial | (left; trivial)
  simp only [giveMayB, hd, Bool.and_eq_true, Bool.or_eq_true, decide_eq_true_eq]
  exact ⟨⟨⟨⟨by omega, trivial⟩, by omega⟩, by omega, by omega⟩, by omega, by omega⟩
theorem give_piece (S : ByteArray) (k : Nat) (h : 32 * k ≤ S.size) : giveS S k 32 = S.extract (32 * k) (32 * k + 32) := by
  refine bytes_ext fun i => ?_
  have hl := lst_len S
  unfold giveS
  rw [get_ext, get_ext, get_ext]
  simp only [Int.toNat_natCast, show (32 : Int).toNat = 32 from rfl, show min (32 * k) S.size = 32 * k by omega]
  by_cases h1 : i < min 32 (S.size - 32 * k)
  · rw [if_pos (by omega), if_pos (by omega), if_pos (by omega), Nat.zero_add]
  · by_cases h2 : i < 32
    · rw [if_neg (by omega), if_pos (by omega), List.getElem?_eq_none (by omega)]
    · rw [if_neg (by omega), if_neg (by omega)]
theorem all_g (f : ByteArray) (hf : f.size = 768) (p : SPl) (ha : actO f = some p) (k : Nat) (st : Int) (hst : st = 0 ∧ k = 0 ∨ st = 6) (h : 32 * k ≤ (imgB f p.f1.f1 p.f1.f2).size) :
    ∃ T : ByteArray, T.size ≤ 32 ∧ (T.size < 32 → upload_Give.f f st 0 k 0 0 [] k 32 = some (0, 0, 0, 0, 0, [], T, 0) ∧ (imgB f p.f1.f1 p.f1.f2).extract 0 (32 * k) ++ T = imgB f p.f1.f1 p.f1.f2) ∧
      (T.size = 32 → upload_Give.f f st 0 k 0 0 [] k 32 = some (6, 0, (k : Int) + 1, 0, 0, [], T, 0) ∧ (imgB f p.f1.f1 p.f1.f2).extract 0 (32 * k) ++ T = (imgB f p.f1.f1 p.f1.f2).extract 0 (32 * (k + 1)) ∧ 32 * (k + 1) ≤ (imgB f p.f1.f1 p.f1.f2).size) := by
  obtain ⟨hm, _, _⟩ := actO_may hf ha
  have hS := imgB_size f _ _ _ _ hf hm
  obtain ⟨_, _, hc, _⟩ := rec_bounds hm
  have hy := give_yes_f f st 0 k 0 0 [] k 32 p (all_may f hf k st (by omega) hst) ha (by rcases hst with ⟨rfl, rfl⟩ | rfl <;> rfl)
  generalize imgB f p.f1.f1 p.f1.f2 = S at *
  rw [give_piece S k h] at hy
  have hl : giveLen S k 32 = min 32 (S.size - 32 * k) := by
    unfold giveLen
    rw [Int.toNat_natCast]
    show min 32 _ = _
    omega
  have hz : (S.extract (32 * k) (32 * k + 32)).size = min 32 (S.size - 32 * k) := by rw [ext_size]; omega
  refine ⟨S.extract (32 * k) (32 * k + 32), by omega, fun ht => ?_, fun ht => ?_⟩
  · rw [if_pos (by omega)] at hy
    refine ⟨hy, ?_⟩
    rw [ext_app S 0 (32 * k) (32 * k + 32) (by omega) (by omega) h, ext_all S _ (by omega)]
  · rw [if_neg (by omega), show min ((k : Int) + 1) 16 = (k : Int) + 1 by omega] at hy
    refine ⟨hy, ?_, by omega⟩
    rw [ext_app S 0 (32 * k) (32 * k + 32) (by omega) (by omega) h]
    rfl
set_option maxHeartbeats 1000000 in
set_option maxRecDepth 100000 in
theorem uploadAll_no (f : ByteArray) (w : World) (hf : ¬ f.size = 768) : Calls Try.prog 4 #[.string f] w fun e w' => e = .returned (.bool true) ∧ Below w.heap.size w w' := by
  have HA := Aside0.mk (actR_no f 3000 hf)
  have HI : Aside0 (skiffref1_ImageOf.f f 0 0 0 0 = some (⟨#[]⟩, 600)) := ⟨by
    unfold skiffref1_ImageOf.f skiffref1_FlashMay.f
    rw [Option.bind_some, if_neg (by simpa using (by omega : ¬ (f.size : Int) = 768))]⟩
  have hbad : BadGive f 0 0 0 32 := .inl hf
  have HG := Aside0.mk hbad
  clear hbad hf
  go_enter Try.func4, Try.ntmps4
  go_upto_region 4 with (first | (go_at_call 15; refine (awake_calls _).mono ?_; rintro e w0 ⟨rfl, hb0⟩; have HB0 := Aside0.mk hb0; clear hb0) | (go_at_call 20; refine (actR_calls _ _ _ _ _ _ _ _ HA.out).mono ?_; rintro e w1 ⟨rfl, hb1⟩; have HB1 := Aside0.mk hb1; clear hb1))
  go_upto_region 6 with (first | (go_at_call 21; refine (skiffref1_ImageOf.calls _ _ _ _ _ _ _ _ HI.out).mono ?_; rintro e w2 ⟨rfl, hb2⟩; have HB2 := Aside0.mk hb2; clear hb2) | (go_at_call 22; refine (newdev_calls _).mono ?_; rintro e w3 ⟨A0, c0, rfl, HC0, HB3⟩))
  have HD := Aside0.mk (Dev.new w3 0 0 0 0 0 (.slice A0 0 c0))
  have HC := Aside0.mk (Kd.C_below HC0.out (balloc w3 (.cells #[.int .i64 0, .int .i64 0, .int .i64 0, .int .i64 0, .int .i64 0, .slice A0 0 c0] 26)))
  have KB := Aside0.mk (bthen HB0.out (bthen HB1.out (bthen (balloc w1 _) (bthen HB2.out (bthen HB3.out (balloc w3 (.cells #[.int .i64 0, .int .i64 0, .int .i64 0, .int .i64 0, .int .i64 0, .slice A0 0 c0] 26)))))))
  generalize w3.alloc (.cells #[.int .i64 0, .int .i64 0, .int .i64 0, .int .i64 0, .int .i64 0, .slice A0 0 c0] 26) = W at *
  clear HC0 HB0 HB1 HB2 HB3 HA HI
  generalize w3.heap.size = B at *
  go_upto_region 8 with (fail)
  go_loopw [8, 9] (fun s i wr => s = .string ⟨#[]⟩ ∧ i = .int .i64 0 ∧ W = wr) (fun _ _ _ => 0)
  case atStart => exact ⟨rfl, rfl, rfl⟩
  case round =>
    obtain ⟨rfl, rfl, rfl⟩ := hrel
    obtain ⟨k0, k1, k2, k3, k4, k5⟩ := HD.out.cells
    go_wp2_with (first | (go_at_call 17; refine (giveC_calls _ _ _ _ _ _ _ _ _ _ _ _ _ _ _ _ _ _ HC.out (give_bad _ _ _ _ _ _ _ _ _ (bad_give HG.out))).mono ?_; rintro e w4 ⟨A1, c1, rfl, HC1, HB4⟩) | (go_at_call 19; refine (num0_calls _ _).mono ?_; rintro e w' ⟨rfl, rfl⟩))
    go_ret
    exact ⟨rfl, bthen KB.out (bthen HB4.out (balloc _ _))⟩
set_option maxHeartbeats 1000000 in
set_option maxRecDepth 100000 in
theorem uploadAll_none (f : ByteArray) (w : World) (hf : f.size = 768) (ha : actO f = none) : Calls Try.prog 4 #[.string f] w fun e w' => e = .returned (.bool true) ∧ Below w.heap.size w w' := by
  have HA : Aside0 (skiffref1_Active.f 3000 f = some (0, 0, 0, 0, 0, 701)) := ⟨by rw [actR_f f 3000 (Nat.le_refl _) hf, ha]; rfl⟩
  have HI : Aside0 (skiffref1_ImageOf.f f 0 0 0 0 = some (⟨#[]⟩, 600)) := ⟨by
    have hr : recMayB 0 0 0 0 = false := rfl
    unfold skiffref1_ImageOf.f skiffref1_FlashMay.f skiffref1_RecordMay.f
    rw [Option.bind_some, if_pos (by simp [hf]), hr, Option.bind_some, if_neg (by decide)]⟩
  have HG := Aside0.mk (give_file_f f 0 0 0 0 0 [] 0 32 (give_may0 f hf 0 32 (by omega) (by omega)) ha)
  clear hf ha
  go_enter Try.func4, Try.ntmps4
  go_upto_region 4 with (first | (go_at_call 15; refine (awake_calls _).mono ?_; rintro e w0 ⟨rfl, hb0⟩; have HB0 := Aside0.mk hb0; clear hb0) | (go_at_call 20; refine (actR_calls _ _ _ _ _ _ _ _ HA.out).mono ?_; rintro e w1 ⟨rfl, hb1⟩; have HB1 := Aside0.mk hb1; clear hb1))
  go_upto_region 6 with (first | (go_at_call 21; refine (skiffref1_ImageOf.calls _ _ _ _ _ _ _ _ HI.out).mono ?_; rintro e w2 ⟨rfl, hb2⟩; have HB2 := Aside0.mk hb2; clear hb2) | (go_at_call 22; refine (newdev_calls _).mono ?_; rintro e w3 ⟨A0, c0, rfl, HC0, HB3⟩))
  have HD := Aside0.mk (Dev.new w3 0 0 0 0 0 (.slice A0 0 c0))
  have HC := Aside0.mk (Kd.C_below HC0.out (balloc w3 (.cells #[.int .i64 0, .int .i64 0, .int .i64 0, .int .i64 0, .int .i64 0, .slice A0 0 c0] 26)))
  have KB := Aside0.mk (bthen HB0.out (bthen HB1.out (bthen (balloc w1 _) (bthen HB2.out (bthen HB3.out (balloc w3 (.cells #[.int .i64 0, .int .i64 0, .int .i64 0, .int .i64 0, .int .i64 0, .slice A0 0 c0] 26)))))))
  generalize w3.alloc (.cells #[.int .i64 0, .int .i64 0, .int .i64 0, .int .i64 0, .int .i64 0, .slice A0 0 c0] 26) = W at *
  clear HC0 HB0 HB1 HB2 HB3 HA HI
  generalize w3.heap.size = B at *
  go_upto_region 8 with (fail)
  go_loopw [8, 9] (fun s i wr => s = .string ⟨#[]⟩ ∧ i = .int .i64 0 ∧ W = wr) (fun _ _ _ => 0)
  case atStart => exact ⟨rfl, rfl, rfl⟩
  case round =>
    obtain ⟨rfl, rfl, rfl⟩ := hrel
    obtain ⟨k0, k1, k2, k3, k4, k5⟩ := HD.out.cells
    go_wp2_with (first | (go_at_call 17; refine (giveC_calls _ _ _ _ _ _ _ _ _ _ _ _ _ _ _ _ _ _ HC.out HG.out).mono ?_; rintro e w4 ⟨A1, c1, rfl, HC1, HB4⟩) | (go_at_call 19; refine (num0_calls _ _).mono ?_; rintro e w' ⟨rfl, rfl⟩))
    go_ret
    exact ⟨rfl, bthen KB.out (bthen HB4.out (balloc _ _))⟩
theorem C_any {w : World} {A : Option Addr} (h : Kd.C k59 w A ([] : List SOp).length []) (w' : World) : Kd.C k59 w' A ([] : List SOp).length [] := ⟨h.1, h.2.1, fun h0 => absurd h0 (by simp)⟩
set_option maxHeartbeats 2000000 in
set_option maxRecDepth 100000 in
theorem uploadAll_some (f : ByteArray) (w : World) (hf : f.size = 768) (p : SPl) (ha : actO f = some p) : Calls Try.prog 4 #[.string f] w fun e w' => e = .returned (.bool true) ∧ Below w.heap.size w w' := by
  obtain ⟨hm, _, _⟩ := actO_may hf ha
  have hS := imgB_size f _ _ _ _ hf hm
  obtain ⟨_, _, hc, _⟩ := rec_bounds hm
  have HI := Aside0.mk (imgR_f f _ _ _ _ hf hm)
  have HA : Aside0 (skiffref1_Active.f 3000 f = some (p.f0, p.f1.f0, p.f1.f1, p.f1.f2, p.f1.f3, 0)) := ⟨by rw [actR_f f 3000 (Nat.le_refl _) hf, ha]; rfl⟩
  have HG := Aside0.mk (fun k st hst h => all_g f hf p ha k st hst h)
  have hn : (imgB f p.f1.f1 p.f1.f2).size ≤ 288 := by omega
  generalize imgB f p.f1.f1 p.f1.f2 = S at *
  clear hf ha hm hS hc
  obtain ⟨p0, p1, p2, p3, p4⟩ := p
  go_enter Try.func4, Try.ntmps4
  go_upto_region 4 with (first | (go_at_call 15; refine (awake_calls _).mono ?_; rintro e w0 ⟨rfl, hb0⟩; have HB0 := Aside0.mk hb0; clear hb0) | (go_at_call 20; refine (actR_calls _ _ _ _ _ _ _ _ HA.out).mono ?_; rintro e w1 ⟨rfl, hb1⟩; have HB1 := Aside0.mk hb1; clear hb1))
  go_upto_region 6 with (first | (go_at_call 21; refine (skiffref1_ImageOf.calls _ _ _ _ _ _ _ _ HI.out).mono ?_; rintro e w2 ⟨rfl, hb2⟩; have HB2 := Aside0.mk hb2; clear hb2) | (go_at_call 22; refine (newdev_calls _).mono ?_; rintro e w3 ⟨A0, c0, rfl, HC0, HB3⟩))
  have HD := Aside0.mk (Dev.new w3 0 0 0 0 0 (.slice A0 0 c0))
  have HC := Aside0.mk (Kd.C_below HC0.out (balloc w3 (.cells #[.int .i64 0, .int .i64 0, .int .i64 0, .int .i64 0, .int .i64 0, .slice A0 0 c0] 26)))
  have KB := Aside0.mk (bthen HB0.out (bthen HB1.out (bthen (balloc w1 _) (bthen HB2.out (bthen HB3.out (balloc w3 (.cells #[.int .i64 0, .int .i64 0, .int .i64 0, .int .i64 0, .int .i64 0, .slice A0 0 c0] 26)))))))
  have HWB : Aside0 (w.heap.size ≤ w3.heap.size) := ⟨(bthen HB0.out (bthen HB1.out (bthen (balloc w1 _) (bthen HB2.out HB3.out)))).size⟩
  generalize w3.alloc (.cells #[.int .i64 0, .int .i64 0, .int .i64 0, .int .i64 0, .int .i64 0, .slice A0 0 c0] 26) = W at *
  clear HC0 HB0 HB1 HB2 HB3 HA HI
  generalize w3.heap.size = B at *
  go_upto_region 8 with (fail)
  go_loopw [8, 9] (fun s i wr => ∃ (k : Nat) (st : Int) (A : Option Addr) (c : Nat), Hid (32 * k ≤ S.size) ∧ i = .int .i64 k ∧ s = .string (S.extract 0 (32 * k)) ∧ Hid (st = 0 ∧ k = 0 ∨ st = 6) ∧ Aside0 (Dev wr B st 0 k 0 0 (.slice A 0 c)) ∧ Aside0 (Kd.C k59 wr A ([] : List SOp).length []) ∧ Aside0 (Below w.heap.size w wr)) (fun _ i _ => 12 - (intOf i).toNat)
  case atStart => exact ⟨0, 0, A0, c0, Lib.hid (Nat.zero_le _), rfl, by rw [show S.extract 0 (32 * 0) = ⟨#[]⟩ from size_zero (by rw [ext_size]; omega)], Lib.hid (.inl ⟨rfl, rfl⟩), ⟨HD.out⟩, ⟨HC.out⟩, ⟨KB.out⟩⟩
  case round =>
    obtain ⟨k, st, A, c, HK, rfl, rfl, HST, HDr, HCr, HBr⟩ := hrel
    obtain ⟨k0, k1, k2, k3, k4, k5⟩ := HDr.out.cells
    obtain ⟨T, hT, hG1, hG2⟩ := HG.out k st HST.out HK.out
    have hk9 : (k : Int) ≤ 9 := by have := HK.out; omega
    have hP : (S.extract 0 (32 * k)).size ≤ 288 := by rw [ext_size]; omega
    have H1 := Aside0.mk hG1
    have H2 := Aside0.mk hG2
    clear hG1 hG2
    generalize S.extract 0 (32 * k) = P at *
    by_cases hlt : T.size < 32
    · obtain ⟨g1, g2⟩ := H1.out hlt
      have G1 := Aside0.mk g1
      clear g1
      go_wp2_with (first | (go_at_call 17; refine (giveC_calls _ _ _ _ _ _ _ _ _ _ _ _ _ _ _ _ _ _ HCr.out G1.out).mono ?_; rintro e w4 ⟨A1, c1, rfl, HC1, HB4⟩) | (go_at_call 19; refine (num0_calls _ _).mono ?_; rintro e w' ⟨rfl, rfl⟩) | (go_at_call 18; ((with_reducible refine (same0_calls 0 0 0 0 0 A1 none c1 0 _ (Kd.C_below HC1.out (balloc _ _)) (opsNil _)).mono ?_); rintro e ws1 ⟨rfl, hbs⟩; have HS1 := Aside0.mk hbs; clear hbs)))
      go_ret
      exact ⟨ret_b (by first | rfl | (rw [g2]; simp) | simp), bthen HBr.out (bthen HB4.out (bthen (balloc _ _) HS1.out))⟩
    · have he : T.size = 32 := by omega
      obtain ⟨g1, g2, g3⟩ := H2.out he
      have G1 := Aside0.mk g1
      have G3 := Aside0.mk g3
      clear g1 g3
      go_wp2_with (first | (go_at_call 17; refine (giveC_calls _ _ _ _ _ _ _ _ _ _ _ _ _ _ _ _ _ _ HCr.out G1.out).mono ?_; rintro e w4 ⟨A1, c1, rfl, HC1, HB4⟩; have HD4 := Aside0.mk (HDr.out.below HB4.out); obtain ⟨m0, m1, m2, m3, m4, m5⟩ := HD4.out.cells; obtain ⟨f0, f1, f2, f3, f4, f5⟩ := HD4.out.free; have hB4 : B < w4.heap.size := HD4.out.lt; have hB5 : ¬ B = w4.heap.size := (by omega); have hB6 : ¬ w4.heap.size = B := (by omega)) | (go_at_call 19; refine (num0_calls _ _).mono ?_; rintro e w' ⟨rfl, rfl⟩))
      go_roundw
      case rel =>
        refine ⟨k + 1, 6, A1, c1, Lib.hid G3.out, by go_num, rfl, Lib.hid (.inr rfl), ⟨(HD4.out.store 6 0 ((k : Int) + 1) 0 0 (.slice A1 0 c1)).below (balloc _ _)⟩, ⟨C_any HC1.out _⟩, ⟨?_⟩⟩
        have hbb := bthen HBr.out HB4.out
        repeat (first | (with_reducible exact hbb) | (with_reducible apply below_alloc) | (with_reducible refine below_set ?_ HWB.out))
      case measure => simp [intOf]; omega
theorem uploadAll_calls (f : ByteArray) (w : World) : Calls Try.prog 4 #[.string f] w fun e w' => e = .returned (.bool true) ∧ Below w.heap.size w w' := by
  by_cases hf : f.size = 768
  · cases ha : actO f with
    | none => exact uploadAll_none f w hf ha
    | some p => exact uploadAll_some f w hf p ha
  · exact uploadAll_no f w hf
end Go.Proofs.Ytaibkfgpdgabaaa.P
end
