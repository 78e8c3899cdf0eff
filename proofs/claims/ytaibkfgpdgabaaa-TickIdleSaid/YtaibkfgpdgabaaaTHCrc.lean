/- A part of the proof of T: what its last text uses; conditions: see there. -/
import Derived.Test.YtaibkfgpdgabaaaTHBase
section
namespace Go.Proofs.Ytaibkfgpdgabaaa.P
open Go.RowKit Go.Proofs.YtaibkfgpdgabaaaW.PrintWords Go.Proofs.YtaibkfgpdgabaaaW.PrintLast Go.Proofs.YtaibkfgpdgabaaaW.PrintMore
set_option linter.unusedVariables false
set_option linter.unusedSimpArgs false
def crcBit (x : Nat) : Nat := if x % 2 = 1 then (x / 2) ^^^ 3988292384 else x / 2
def crcBits : Nat → Nat → Nat
  | 0, x => x
  | n + 1, x => crcBits n (crcBit x)
def crcByte (x : Nat) (b : Nat) : Nat := crcBits 8 (x ^^^ b)
def crcList (l : List UInt8) (x : Nat) : Nat := l.foldl (fun x b => crcByte x b.toNat) x
def crcOf (s : ByteArray) : Nat := crcList s.data.toList 4294967295 ^^^ 4294967295
theorem crcBit_lt (x : Nat) (h : x < 4294967296) : crcBit x < 4294967296 := by
  unfold crcBit
  split
  · exact Nat.xor_lt_two_pow (n := 32) (by omega) (by decide)
  · omega
theorem crcBits_lt : ∀ n x : Nat, x < 4294967296 → crcBits n x < 4294967296
  | 0, _, h => h
  | n + 1, x, h => crcBits_lt n _ (crcBit_lt x h)
theorem crcByte_lt (x b : Nat) (h : x < 4294967296) (hb : b < 256) : crcByte x b < 4294967296 :=
  crcBits_lt 8 _ (Nat.xor_lt_two_pow (n := 32) h (by omega))
theorem crcList_lt : ∀ (l : List UInt8) (x : Nat), x < 4294967296 → crcList l x < 4294967296
  | [], _, h => h
  | b :: l, x, h => crcList_lt l _ (crcByte_lt x _ h b.toNat_lt)
theorem crcBits_succ : ∀ n x : Nat, crcBits (n + 1) x = crcBit (crcBits n x)
  | 0, _ => rfl
  | n + 1, x => by rw [crcBits, crcBits_succ n]; rfl
theorem xor_u32 (a b : Nat) (ha : a < 4294967296) (hb : b < 4294967296) : Go.bits .xor .u32 (a : Int) (b : Int) = ((a ^^^ b : Nat) : Int) := by
  have h := Nat.xor_lt_two_pow (n := 32) ha hb
  have e : Go.bits .xor .u32 (a : Int) (b : Int) = IntKind.u32.wrap ((a % 2 ^ 32 ^^^ b % 2 ^ 32 : Nat) : Int) := by
    show IntKind.u32.wrap ((BitVec.ofInt 32 (a : Int) ^^^ BitVec.ofInt 32 (b : Int)).toNat : Int) = _
    rw [BitVec.toNat_xor, BitVec.ofInt_natCast, BitVec.ofInt_natCast, BitVec.toNat_ofNat, BitVec.toNat_ofNat]
  rw [e, Nat.mod_eq_of_lt (a := a) (by omega), Nat.mod_eq_of_lt (a := b) (by omega), IntKind.wrap_u32]
  omega
theorem and1_u32 (a : Nat) (ha : a < 4294967296) : Go.bits .and .u32 (a : Int) 1 = ((a % 2 : Nat) : Int) := by
  have h := Nat.and_lt_two_pow (n := 32) a (y := 1) (by decide)
  have e : Go.bits .and .u32 (a : Int) ((1 : Nat) : Int) = IntKind.u32.wrap ((a % 2 ^ 32 &&& 1 % 2 ^ 32 : Nat) : Int) := by
    show IntKind.u32.wrap ((BitVec.ofInt 32 (a : Int) &&& BitVec.ofInt 32 ((1 : Nat) : Int)).toNat : Int) = _
    rw [BitVec.toNat_and, BitVec.ofInt_natCast, BitVec.ofInt_natCast, BitVec.toNat_ofNat, BitVec.toNat_ofNat]
  rw [show (1 : Int) = ((1 : Nat) : Int) from rfl, e, Nat.mod_eq_of_lt (a := a) (by omega), IntKind.wrap_u32, show (1 % 2 ^ 32 : Nat) = 1 from rfl, Nat.and_one_is_mod]
  omega
def crc_step.f (a0 : Int) (a1 : Int) : Option Int := some (crcByte a0.toNat a1.toNat)
set_option maxHeartbeats 800000 in
theorem step_calls (x b : Nat) (w : World) (hx : x < 4294967296) (hb : b < 256) :
    Calls Try.prog 121 #[.int .u32 x, .int .u8 b] w fun e w' => e = .returned (.int .u32 (crcByte x b)) ∧ w = w' := by
  go_enter Try.func121, Try.ntmps121
  have hx0 := Nat.xor_lt_two_pow (n := 32) hx (show b < 2 ^ 32 by omega)
  have e0 := Lib.hid (xor_u32 x b hx (by omega))
  go_wp2
  rw [e0.out]
  clear e0
  obtain ⟨y, hy⟩ : ∃ y, y = x ^^^ b := ⟨_, rfl⟩
  have Hy := Lib.hid hy
  rw [← hy] at hx0 ⊢
  clear hy
  go_loop [0, 10] (fun s i => ∃ k z : Nat, k ≤ 8 ∧ i = .int .i64 k ∧ s = .int .u32 z ∧ z < 4294967296 ∧ Hid (crcBits k y = z)) (fun _ i => 8 - (intOf i).toNat)
  case atStart => exact ⟨0, y, by omega, rfl, rfl, hx0, Lib.hid rfl⟩
  case round =>
    obtain ⟨k, z, hk, rfl, rfl, hz, HZ⟩ := hrel
    by_cases hlt : k < 8
    · rcases Nat.mod_two_eq_zero_or_one z with hz2 | hz2
      · have hl : (Go.bits .and .u32 (z : Int) 1 != 0) = false := by rw [and1_u32 z hz, hz2]; rfl
        go_wp2
        go_round
        case rel => exact ⟨k + 1, crcBit z, by omega, by go_num, by rw [crcBit, if_neg (by omega)]; rfl, crcBit_lt z hz, Lib.hid (by rw [crcBits_succ, HZ.out])⟩
        case measure => simp [intOf]; omega
      · have hl : (Go.bits .and .u32 (z : Int) 1 != 0) = true := by rw [and1_u32 z hz, hz2]; rfl
        go_wp2
        go_round
        case rel => exact ⟨k + 1, crcBit z, by omega, by go_num, by rw [crcBit, if_pos hz2, ← xor_u32 _ _ (by omega) (by omega)]; rfl, crcBit_lt z hz, Lib.hid (by rw [crcBits_succ, HZ.out])⟩
        case measure => simp [intOf]; omega
    · obtain rfl : k = 8 := by omega
      go_wp2
      go_ret
      exact ⟨by rw [crcByte, ← Hy.out]; exact congrArg (fun n : Nat => Ending.returned (.int .u32 (n : Int))) HZ.out.symm, rfl⟩
def crc_Sum.f (a0 : ByteArray) : Option Int := if a0.size ≤ 9223372036854775807 then some (crcOf a0) else none
theorem crcList_snoc (l : List UInt8) (b : UInt8) (x : Nat) : crcList (l ++ [b]) x = crcByte (crcList l x) b.toNat := by
  simp [crcList]
theorem take_snoc (s : ByteArray) (k : Nat) (h : k < s.size) : s.data.toList.take (k + 1) = s.data.toList.take k ++ [s[k]] := by
  rw [List.take_succ_eq_append_getElem (by simpa using h)]; rfl
set_option maxHeartbeats 800000 in
theorem crc_Sum.calls (a0 : ByteArray) (r : Int) (w : World) (h : crc_Sum.f a0 = some r) :
    Calls Try.prog 111 #[.string a0] w fun e w' => e = .returned (.int .i64 r) ∧ Below w.heap.size w w' := by
  have hs : a0.size ≤ 9223372036854775807 := by
    unfold crc_Sum.f at h
    split at h
    · assumption
    · cases h
  have hr : r = crcOf a0 := by
    unfold crc_Sum.f at h
    rw [if_pos hs] at h
    injection h with h
    exact h.symm
  have HR := Lib.hid hr
  clear hr h
  have hcv := Lib.run_convert_string_bytes (P := Try.prog) w 9 67 5 a0 (u := .string) Try.underlying9 Try.underlying67 Try.underlying5
  have hbw := bytes_below (Below.refl w.heap.size w) (Nat.le_refl _) 5 a0
  have HC := Lib.hid (fun j hj => Lib.bytesWorld_cell w 5 a0 j hj)
  go_enter Try.func111, Try.ntmps111
  go_wp2
  generalize Lib.bytesWorld w 5 a0 = W at *
  generalize grownCap w a0.size 0 5 = C
  clear hcv
  go_loop [3, 9] (fun s i => ∃ k z : Nat, k ≤ a0.size ∧ i = .int .i64 k ∧ s = .int .u32 z ∧ z < 4294967296 ∧ Hid (crcList (a0.data.toList.take k) 4294967295 = z)) (fun _ i => a0.size - (intOf i).toNat)
  case atStart => exact ⟨0, 4294967295, by omega, rfl, rfl, by omega, Lib.hid rfl⟩
  case round =>
    obtain ⟨k, z, hk, rfl, rfl, hz, HZ⟩ := hrel
    by_cases hlt : k < a0.size
    · have hc := HC.out k hlt
      have hb := (a0.data.toList.getD k 0).toNat_lt
      have e0 : a0.data.toList.getD k 0 = a0[k] := by simp [List.getD_eq_getElem?_getD, List.getElem?_eq_getElem (show k < a0.data.toList.length by simpa using hlt)]; rfl
      have H1 := Lib.hid e0
      clear e0
      obtain ⟨c, hcc⟩ : ∃ c, c = a0.data.toList.getD k 0 := ⟨_, rfl⟩
      rw [← hcc] at hc hb
      have HCC := Lib.hid hcc
      clear hcc
      go_wp2_with (go_at_call 121; refine (step_calls z c.toNat _ hz hb).mono ?_; rintro e w' ⟨rfl, rfl⟩)
      go_round
      case rel => exact ⟨k + 1, crcByte z c.toNat, by omega, by go_num, rfl, crcByte_lt z _ hz hb, Lib.hid (by rw [take_snoc a0 k hlt, crcList_snoc, HZ.out, HCC.out, H1.out])⟩
      case measure => simp [intOf]; omega
    · obtain rfl : k = a0.size := by omega
      go_wp2
      go_ret
      refine ⟨congrArg (fun n : Int => Ending.returned (.int .i64 n)) ?_, hbw⟩
      have hx : Go.bits .xor .u32 IntKind.u32.max (z : Int) = ((4294967295 ^^^ z : Nat) : Int) := xor_u32 4294967295 z (by omega) hz
      have hl := Nat.xor_lt_two_pow (n := 32) (show 4294967295 < 2 ^ 32 by decide) hz
      rw [hx, HR.out, crcOf, ← HZ.out, List.take_of_length_le (by simp), Nat.xor_comm] at *
      unfold wrap64
      omega
end Go.Proofs.Ytaibkfgpdgabaaa.P
end
