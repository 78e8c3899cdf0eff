/- A part of the proof of T: what its last text uses; conditions: see there. -/
import Derived.Test.YtaibkfgpdgabaaaTHBase
import Derived.Test.YtaibkfgpdgabaaaTHTorn
section
namespace Go.Proofs.Ytaibkfgpdgabaaa.P
open Go.RowKit Go.Proofs.YtaibkfgpdgabaaaW.PrintWords Go.Proofs.YtaibkfgpdgabaaaW.PrintLast Go.Proofs.YtaibkfgpdgabaaaW.PrintMore
set_option linter.unusedVariables false
set_option linter.unusedSimpArgs false
def refTornB (f : ByteArray) (a : Int) (w : ByteArray) (m : Int) : Bool := decide ((f.size : Int) = 768) && (decide (0 ≤ a) && decide (a ≤ 764) && decide (a % 4 = 0)) && decide ((w.size : Int) = 4) && (decide (0 ≤ m) && decide (m ≤ 32))
theorem flashMay1_calls (f : ByteArray) (w : World) : Calls Try.prog 36 #[.string f] w fun e w' => e = .returned (.bool (decide ((f.size : Int) = 768))) ∧ w = w' := by
  go_enter Try.func36, Try.ntmps36
  go_wp2
  go_ret
  exact ⟨ret_b (by rfl), rfl⟩
theorem upTo1_calls (x a b : Int) (w : World) : Calls Try.prog 55 #[.int .i64 x, .int .i64 a, .int .i64 b] w fun e w' => e = .returned (.bool (decide (a ≤ x) && decide (x ≤ b))) ∧ w = w' := by
  go_enter Try.func55, Try.ntmps55
  go_wp2
  all_goals
    go_ret
    exact ⟨ret_b (by first | (simp [*]; done) | (simp [*]; omega)), rfl⟩
theorem wordAt_calls (x : Int) (w : World) : Calls Try.prog 99 #[.int .i64 x] w fun e w' => e = .returned (.bool (decide (0 ≤ x) && decide (x ≤ 764) && (x % 4 == 0))) ∧ w = w' := by
  go_enter Try.func99, Try.ntmps99
  go_wp2_with (go_at_call 55; refine (upTo1_calls _ _ _ _).mono ?_; rintro e w' ⟨rfl, rfl⟩)
  all_goals
    go_ret
    refine ⟨ret_b ?_, rfl⟩
    first | (simp [*]; done) | (simp [*]; omega)
set_option maxHeartbeats 800000 in
set_option maxRecDepth 100000 in
theorem refTorn_no (f : ByteArray) (a : Int) (t : ByteArray) (m : Int) (w : World) (h : refTornB f a t m = false) :
    Calls Try.prog 96 #[.string f, .int .i64 a, .string t, .int .i64 m] w fun e w' => e = .returned (.tuple #[.string ⟨#[]⟩, .int .i64 200]) ∧ Below w.heap.size w w' := by
  have H := Lib.hid h
  clear h
  go_enter Try.func96, Try.ntmps96
  go_wp2_with (first | (go_at_call 36; refine (flashMay1_calls _ _).mono ?_; rintro e w' ⟨rfl, rfl⟩) | (go_at_call 55; refine (upTo1_calls _ _ _ _).mono ?_; rintro e w' ⟨rfl, rfl⟩) | (go_at_call 99; refine (wordAt_calls _ _).mono ?_; rintro e w' ⟨rfl, rfl⟩))
  all_goals first | (go_ret2; exact ⟨rfl, Below.refl _ _⟩) | (exfalso; have := H.out; simp [refTornB, *] at this; done) | (exfalso; have hm : (!decide (0 ≤ m)) = false ∧ (!decide (m ≤ 32)) = false := (by assumption); have := H.out; simp [refTornB, *] at this; simp at hm; omega)
def refBit (w : ByteArray) (xs : List Int) (i : Nat) : List Int :=
  if Go.bits .and .u8 (bt w (i / 8 : Nat) / 2 ^ (i % 8)) 1 = 0 then xs.set (i / 8) (Go.bits .andNot .u8 (xs.getD (i / 8) 0) (2 ^ (i % 8) % 256)) else xs
def refBits (w : ByteArray) (xs : List Int) : Nat → List Int
  | 0 => xs
  | k + 1 => refBit w (refBits w xs k) k
theorem refBits_length (w : ByteArray) (xs : List Int) : ∀ k, (refBits w xs k).length = xs.length
  | 0 => rfl
  | k + 1 => by
    rw [refBits, refBit]
    split
    · rw [List.length_set, refBits_length w xs k]
    · exact refBits_length w xs k
set_option maxHeartbeats 800000 in
set_option maxRecDepth 100000 in
theorem refTorn_yes (f : ByteArray) (a : Int) (t : ByteArray) (m : Int) (w : World) (h : refTornB f a t m = true) :
    Calls Try.prog 96 #[.string f, .int .i64 a, .string t, .int .i64 m] w fun e w' => e = .returned (.tuple #[.string (putAt f a.toNat (strOfNums (refBits t (bytesOf (f.extract a.toNat (a.toNat + 4))) m.toNat))), .int .i64 0]) ∧ Below w.heap.size w w' := by
  simp only [refTornB, Bool.and_eq_true, decide_eq_true_eq] at h
  obtain ⟨⟨⟨h1, ⟨h2, h3⟩, h4⟩, h5⟩, h6, h7⟩ := h
  obtain ⟨n, rfl⟩ := Int.eq_ofNat_of_zero_le h2
  obtain ⟨mm, rfl⟩ := Int.eq_ofNat_of_zero_le h6
  have hn : n + 4 ≤ f.size := by omega
  have hmm : mm ≤ 32 := by omega
  simp only [Int.toNat_natCast]
  have hcv := Lib.run_convert_string_bytes (P := Try.prog) w 9 67 5 (f.extract n (n + 4)) (u := .string) Try.underlying9 Try.underlying67 Try.underlying5
  go_enter Try.func96, Try.ntmps96
  go_wp2_with (first | (go_at_call 36; refine (flashMay1_calls _ _).mono ?_; rintro e w' ⟨rfl, rfl⟩) | (go_at_call 55; refine (upTo1_calls _ _ _ _).mono ?_; rintro e w' ⟨rfl, rfl⟩) | (go_at_call 99; refine (wordAt_calls _ _).mono ?_; rintro e w' ⟨rfl, rfl⟩))
  have HB := Aside0.mk (bytes_below (Below.refl w.heap.size w) (Nat.le_refl _) 5 (f.extract n (n + 4)))
  have HC := Aside0.mk (brow_of_bytes w 5 (f.extract n (n + 4)))
  generalize Lib.bytesWorld w 5 (f.extract n (n + 4)) = W at *
  generalize grownCap w 4 0 5 = C at *
  have HS := Lib.hid (show (bytesOf (f.extract n (n + 4))).length = 4 by rw [bytesOf_length, ByteArray.size_extract]; omega)
  clear hcv
  obtain ⟨old, hold⟩ : ∃ old, old = f.extract n (n + 4) := ⟨_, rfl⟩
  have HOLD := Lib.hid hold
  rw [← hold] at HC HS
  clear hold
  go_loopw [11] (fun i wr => ∃ k : Nat, k ≤ mm ∧ i = .int .i64 k ∧ Aside0 (BRow wr w.heap.size (refBits t (bytesOf old) k)) ∧ Aside0 (Below w.heap.size w wr)) (fun i _ => mm - (intOf i).toNat)
  case atStart => exact ⟨0, by omega, rfl, HC, HB⟩
  case round =>
    obtain ⟨k, hk, rfl, HR1, HB1⟩ := hrel
    have HL1 := Lib.hid ((refBits_length t (bytesOf old) k).trans HS.out)
    by_cases hlt : k < mm
    · obtain ⟨q, hq⟩ : ∃ q, q = k / 8 := ⟨_, rfl⟩
      obtain ⟨r, hr⟩ : ∃ r, r = k % 8 := ⟨_, rfl⟩
      have hq4 : q < 4 := by omega
      have hr8 : r < 8 := by omega
      have iq : (k : Int) / 8 = (q : Int) := by omega
      have ir : (k : Int) % 8 = (r : Int) := by omega
      have HN := Lib.hid (show refBits t (bytesOf old) (k + 1) = if Go.bits .and .u8 (bt t q / 2 ^ r) 1 = 0 then (refBits t (bytesOf old) k).set q (Go.bits .andNot .u8 ((refBits t (bytesOf old) k).getD q 0) (2 ^ r % 256)) else refBits t (bytesOf old) k by rw [refBits, refBit, hq, hr])
      clear hq hr
      have hc := HR1.out.cell q (by rw [HL1.out]; exact hq4)
      have hf := HR1.out.free q (by rw [HL1.out]; exact hq4)
      generalize (refBits t (bytesOf old) k).getD q 0 = x at *
      have HX := Lib.hid (bt_at t q (by simp; omega)).symm
      simp only [Int.toNat_natCast] at HX
      have p1 : 0 ≤ (q : Int) := by omega
      have p2 : (q : Int) < (t.size : Int) := by omega
      by_cases hbit : Go.bits .and .u8 (bt t q / 2 ^ r) 1 = 0
      · have HI := Lib.hid hbit
        rw [HX.out] at hbit
        go_wp2
        go_region
        all_goals
          go_wp2
          go_roundw
          case rel =>
            refine ⟨k + 1, by omega, by go_num, ⟨?_⟩, ⟨?_⟩⟩
            · rw [HN.out, if_pos HI.out]
              exact (HR1.out.set q _ (by rw [HL1.out]; exact hq4)).drew
            · exact below_drew1 (below_set HB1.out (Nat.le_refl _))
          case measure => simp [intOf]; omega
      · have HI := Lib.hid hbit
        rw [HX.out] at hbit
        go_wp2
        go_roundw
        case rel => exact ⟨k + 1, by omega, by go_num, ⟨by rw [HN.out, if_neg HI.out]; exact HR1.out⟩, HB1⟩
        case measure => simp [intOf]; omega
    · obtain rfl : k = mm := by omega
      have hcs := fun C W' (hW : BRow W' w.heap.size (refBits t (bytesOf old) k)) => BRow.string (P := Try.prog) (c := C) Try.underlying67 Try.underlying5 Try.underlying9 hW (by rw [HL1.out]; decide)
      rw [HL1.out] at hcs
      have hcs0 := hcs C wr HR1.out
      have hcs1 := hcs C wr.drew HR1.out.drew
      have hcsN := fun n => hcs C (wr.drewN n) (HR1.out.drewN n)
      clear hcs
      have hsz : (strOfNums (refBits t (bytesOf old) k)).size = 4 := by rw [strOfNums_size, HL1.out]
      obtain ⟨s, hs⟩ : ∃ s, s = strOfNums (refBits t (bytesOf old) k) := ⟨_, rfl⟩
      rw [← hs] at hcs0 hcs1 hsz
      simp only [← hs] at hcsN
      have HSS := Lib.hid hs
      clear hs
      go_wp2
      go_quiet (fail)
      go_wp2
      go_ret2
      refine ⟨congrArg (fun z => Ending.returned (.tuple #[.string z, .int .i64 0])) ?_, ?_⟩
      · show f.extract 0 n ++ s ++ f.extract (n + 4) f.size = _
        rw [putAt, ← HOLD.out, ← HSS.out, hsz]
      · repeat (first | (with_reducible exact HB1.out) | (with_reducible apply pw_below_drewN) | (with_reducible apply below_drew1))
def skiffref1_Torn.f (a0 : ByteArray) (a1 : Int) (a2 : ByteArray) (a3 : Int) : Option (ByteArray × Int) := if refTornB a0 a1 a2 a3 = true then some (putAt a0 a1.toNat (strOfNums (refBits a2 (bytesOf (a0.extract a1.toNat (a1.toNat + 4))) a3.toNat)), 0) else some (⟨#[]⟩, 200)
theorem skiffref1_Torn.calls (a0 : ByteArray) (a1 : Int) (a2 : ByteArray) (a3 : Int) (r1 : ByteArray) (r2 : Int) (w : World) (h : skiffref1_Torn.f a0 a1 a2 a3 = some (r1, r2)) :
    Calls Try.prog 96 #[.string a0, .int .i64 a1, .string a2, .int .i64 a3] w fun e w' => e = .returned (.tuple #[.string r1, .int .i64 r2]) ∧ Below w.heap.size w w' := by
  unfold skiffref1_Torn.f at h
  cases hb : refTornB a0 a1 a2 a3
  · rw [hb, if_neg (by decide)] at h
    simp only [Option.some.injEq, Prod.mk.injEq] at h
    obtain ⟨rfl, rfl⟩ := h
    exact refTorn_no _ _ _ _ _ hb
  · rw [hb, if_pos rfl] at h
    simp only [Option.some.injEq, Prod.mk.injEq] at h
    obtain ⟨rfl, rfl⟩ := h
    exact refTorn_yes _ _ _ _ _ hb
end Go.Proofs.Ytaibkfgpdgabaaa.P
end
