/- A part of the proof of T: what its last text uses; conditions: see there. -/
import Derived.Laws.BitsLemmas
import Derived.Test.YtaibkfgpdgabaaaTHBase
section
namespace Go.Proofs.Ytaibkfgpdgabaaa.P
open Go.RowKit Go.Proofs.YtaibkfgpdgabaaaW.PrintWords Go.Proofs.YtaibkfgpdgabaaaW.PrintLast Go.Proofs.YtaibkfgpdgabaaaW.PrintMore
set_option linter.unusedVariables false
set_option linter.unusedSimpArgs false
def leI (s : ByteArray) (i : Nat) : Nat → Int
  | 0 => 0
  | d + 1 => bt s i + 256 * leI s (i + 1) d
theorem leI_range (s : ByteArray) : ∀ (d i : Nat), 0 ≤ leI s i d ∧ leI s i d < 256 ^ d
  | 0, _ => ⟨Int.le_refl _, by simp [leI]⟩
  | d + 1, i => by
    have h := leI_range s d (i + 1)
    have hb := bt_range s i
    rw [leI, Int.pow_succ]
    omega
def numB (s : ByteArray) : Int := leI s 0 s.size
theorem or_join (x b : Int) (h0 : 0 ≤ x) (h1 : x < 4294967296) (h2 : 0 ≤ b) (h3 : b ≤ 255) : Go.bits .or .i64 (x * 256) b = x * 256 + b :=
  bits_join .i64 63 (by decide) (fun n h0 h1 => by rw [IntKind.wrap_i64]; omega) 8 (x * 256) b (by omega) (by omega) (by omega) h2 (by omega) (by omega)
set_option maxHeartbeats 800000 in
set_option maxRecDepth 100000 in
theorem num_calls (s : ByteArray) (hs : s.size ≤ 4) (w : World) : Calls Try.prog 120 #[.string s] w fun e w' => e = .returned (.int .i64 (numB s)) ∧ w = w' := by
  go_enter Try.func120, Try.ntmps120
  go_wp2
  go_loopw [3, 4] (fun v3 v4 wr => ∃ i d : Nat, i + d = s.size ∧ v3 = .int .i64 (leI s i d) ∧ v4 = .int .i64 ((i : Int) - 1) ∧ w = wr) (fun _ v _ => (intOf v + 1).toNat)
  case atStart => exact ⟨s.size, 0, by omega, rfl, by go_num, rfl⟩
  case round =>
    obtain ⟨i, d, hid, rfl, rfl, rfl⟩ := hrel
    cases i with
    | zero =>
      obtain rfl : d = s.size := by omega
      go_wp2
      go_ret
      exact ⟨rfl, rfl⟩
    | succ i =>
      have hb := bt_range s i
      obtain ⟨hx0, hx1⟩ := leI_range s d (i + 1)
      have hx2 : (256 : Int) ^ d ≤ 256 ^ 3 := by
        have h4 : d = 0 ∨ d = 1 ∨ d = 2 ∨ d = 3 := by omega
        clear hx1
        rcases h4 with h | h | h | h <;> rw [h] <;> decide
      have HN := Lib.hid (show leI s i (d + 1) = leI s (i + 1) d * 256 + bt s i by rw [leI]; omega)
      generalize leI s (i + 1) d = x at *
      have hx3 : x < 16777216 := by omega
      clear hx2 hx1
      have e1 : (((i + 1 : Nat) : Int) - 1) = (i : Int) := by omega
      have hat := bt_at s i
      simp only [Int.toNat_natCast] at hat
      have hor := or_join x (bt s i) hx0 (by omega) hb.1 hb.2
      generalize bt s i = b at *
      rw [e1]
      have p1 : (0 : Int) ≤ (i : Int) := by omega
      have p2 : (i : Int) < (s.size : Int) := by omega
      go_wp2
      go_roundw
      case rel => exact ⟨i, d + 1, by omega, by rw [HN.out, hat (by omega), show wrap64 b = b by (unfold wrap64; omega), hor], by go_num, by first | rfl | trivial⟩
      case measure => first | (simp [intOf]; done) | (simp [intOf]; omega)
set_option maxHeartbeats 800000 in
set_option maxRecDepth 100000 in
theorem of_calls (s : ByteArray) (hs : s.size ≤ 4) (w : World) : Calls Try.prog 114 #[.string s] w fun e w' => e = .returned (.int .i64 (numB s)) ∧ w = w' := by
  go_enter Try.func114, Try.ntmps114
  go_wp2
  go_loopw [3, 4] (fun v3 v4 wr => ∃ i d : Nat, i + d = s.size ∧ v3 = .int .i64 (leI s i d) ∧ v4 = .int .i64 ((i : Int) - 1) ∧ w = wr) (fun _ v _ => (intOf v + 1).toNat)
  case atStart => exact ⟨s.size, 0, by omega, rfl, by go_num, rfl⟩
  case round =>
    obtain ⟨i, d, hid, rfl, rfl, rfl⟩ := hrel
    cases i with
    | zero =>
      obtain rfl : d = s.size := by omega
      go_wp2
      go_ret
      exact ⟨rfl, rfl⟩
    | succ i =>
      have hb := bt_range s i
      obtain ⟨hx0, hx1⟩ := leI_range s d (i + 1)
      have hx2 : (256 : Int) ^ d ≤ 256 ^ 3 := by
        have h4 : d = 0 ∨ d = 1 ∨ d = 2 ∨ d = 3 := by omega
        clear hx1
        rcases h4 with h | h | h | h <;> rw [h] <;> decide
      have HN := Lib.hid (show leI s i (d + 1) = leI s (i + 1) d * 256 + bt s i by rw [leI]; omega)
      generalize leI s (i + 1) d = x at *
      have hx3 : x < 16777216 := by omega
      clear hx2 hx1
      have e1 : (((i + 1 : Nat) : Int) - 1) = (i : Int) := by omega
      have hat := bt_at s i
      simp only [Int.toNat_natCast] at hat
      have hor := or_join x (bt s i) hx0 (by omega) hb.1 hb.2
      generalize bt s i = b at *
      rw [e1]
      have p1 : (0 : Int) ≤ (i : Int) := by omega
      have p2 : (i : Int) < (s.size : Int) := by omega
      go_wp2
      go_roundw
      case rel => exact ⟨i, d + 1, by omega, by rw [HN.out, hat (by omega), show wrap64 b = b by (unfold wrap64; omega), hor], by go_num, by first | rfl | trivial⟩
      case measure => first | (simp [intOf]; done) | (simp [intOf]; omega)
end Go.Proofs.Ytaibkfgpdgabaaa.P
end
