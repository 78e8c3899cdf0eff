/- A part of the proof of T: what its last text uses; conditions: see there. -/
import Derived.Test.YtaibkfgpdgabaaaTQFlash
section
namespace Go.Proofs.Ytaibkfgpdgabaaa.P
open Go.RowKit Go.Proofs.YtaibkfgpdgabaaaW.PrintWords Go.Proofs.YtaibkfgpdgabaaaW.PrintLast Go.Proofs.YtaibkfgpdgabaaaW.PrintMore
set_option linter.unusedVariables false
set_option linter.unusedSimpArgs false
theorem and_u8 (a b : Nat) (ha : a < 256) (hb : b < 256) : Go.bits .and .u8 (a : Int) (b : Int) = ((a &&& b : Nat) : Int) := by
  have h := Nat.and_lt_two_pow (n := 8) a (y := b) (by omega)
  have e : Go.bits .and .u8 (a : Int) (b : Int) = IntKind.u8.wrap ((a % 2 ^ 8 &&& b % 2 ^ 8 : Nat) : Int) := by
    show IntKind.u8.wrap ((BitVec.ofInt 8 (a : Int) &&& BitVec.ofInt 8 (b : Int)).toNat : Int) = _
    rw [BitVec.toNat_and, BitVec.ofInt_natCast, BitVec.ofInt_natCast, BitVec.toNat_ofNat, BitVec.toNat_ofNat]
  rw [e, Nat.mod_eq_of_lt (a := a) (by omega), Nat.mod_eq_of_lt (a := b) (by omega), IntKind.wrap_u8]
  omega
theorem or_u8 (a b : Nat) (ha : a < 256) (hb : b < 256) : Go.bits .or .u8 (a : Int) (b : Int) = ((a ||| b : Nat) : Int) := by
  have h := Nat.or_lt_two_pow (n := 8) (x := a) (y := b) (by omega) (by omega)
  have e : Go.bits .or .u8 (a : Int) (b : Int) = IntKind.u8.wrap ((a % 2 ^ 8 ||| b % 2 ^ 8 : Nat) : Int) := by
    show IntKind.u8.wrap ((BitVec.ofInt 8 (a : Int) ||| BitVec.ofInt 8 (b : Int)).toNat : Int) = _
    rw [BitVec.toNat_or, BitVec.ofInt_natCast, BitVec.ofInt_natCast, BitVec.toNat_ofNat, BitVec.toNat_ofNat]
  rw [e, Nat.mod_eq_of_lt (a := a) (by omega), Nat.mod_eq_of_lt (a := b) (by omega), IntKind.wrap_u8]
  omega
theorem andNot_u8 (a b : Nat) (ha : a < 256) (hb : b < 256) : Go.bits .andNot .u8 (a : Int) (b : Int) = ((a &&& (255 - b) : Nat) : Int) := by
  have h := Nat.and_lt_two_pow (n := 8) a (y := 255 - b) (by omega)
  have e : Go.bits .andNot .u8 (a : Int) (b : Int) = IntKind.u8.wrap ((a % 2 ^ 8 &&& (2 ^ 8 - 1 - b % 2 ^ 8) : Nat) : Int) := by
    show IntKind.u8.wrap ((BitVec.ofInt 8 (a : Int) &&& ~~~ BitVec.ofInt 8 (b : Int)).toNat : Int) = _
    rw [BitVec.toNat_and, BitVec.toNat_not, BitVec.ofInt_natCast, BitVec.ofInt_natCast, BitVec.toNat_ofNat, BitVec.toNat_ofNat]
  rw [e, Nat.mod_eq_of_lt (a := a) (by omega), Nat.mod_eq_of_lt (a := b) (by omega), IntKind.wrap_u8]
  show ((a &&& (255 - b) : Nat) : Int) % 256 = _
  omega
def mskN (b t : Nat) : Nat := b ||| (255 * 2 ^ t) % 256
theorem mskN_lt (b t : Nat) (hb : b < 256) : mskN b t < 256 := Nat.or_lt_two_pow (n := 8) hb (Nat.mod_lt _ (by decide))
theorem mskN_8 (b : Nat) (hb : b < 256) : mskN b 8 = b := by
  unfold mskN
  rw [show (255 * 2 ^ 8) % 256 = 0 by decide, Nat.or_zero]
theorem mskN_0 (b : Nat) (hb : b < 256) : mskN b 0 = 255 := by
  have h : ∀ b < 256, mskN b 0 = 255 := by decide +kernel
  exact h b hb
def bitsOf (m : Int) (j : Nat) : Nat := (mn (mx (m - 8 * (j : Int)) 0) 8).toNat
theorem bitsOf_nat (m j : Nat) : bitsOf (m : Int) j = min (m - 8 * j) 8 := by
  unfold bitsOf mn mx
  by_cases h : (m : Int) - 8 * (j : Int) < 0
  · rw [if_pos h, if_neg (by omega)]; omega
  · rw [if_neg h]; split <;> omega
theorem maskB_nat (b : Nat) (m : Int) (j : Nat) (hb : b < 256) : maskB (b : Int) (m - 8 * (j : Int)) = ((mskN b (bitsOf m j) : Nat) : Int) := by
  unfold maskB mskN bitsOf
  rw [← or_u8 b _ hb (Nat.mod_lt _ (by decide))]
  congr 1
theorem bt_nat (s : ByteArray) (i : Int) : ∃ b : Nat, bt s i = (b : Int) ∧ b < 256 := by
  have h := bt_range s i
  exact ⟨(bt s i).toNat, by omega, by omega⟩
theorem step_mask : ∀ b < 256, ∀ i < 8, (b / 2 ^ i % 2 = 0 → mskN b i &&& (255 - 2 ^ i % 256) = mskN b (i + 1)) ∧ (b / 2 ^ i % 2 = 1 → mskN b i = mskN b (i + 1)) := by decide +kernel
def tornN (w : ByteArray) (m : Int) (j : Nat) (x : Int) : Int := ((x.toNat &&& mskN (bt w j).toNat (bitsOf m j) : Nat) : Int)
theorem tornByte_eq (w : ByteArray) (m : Int) (j : Nat) (x : Int) (h0 : 0 ≤ x) (h1 : x < 256) : tornByte w m j x = tornN w m j x := by
  obtain ⟨b, hb, hlt⟩ := bt_nat w j
  obtain ⟨x, rfl⟩ := Int.eq_ofNat_of_zero_le h0
  unfold tornByte tornN
  rw [hb, maskB_nat b m j hlt, and_u8 _ _ (by omega) (mskN_lt _ _ hlt)]
  rfl
theorem refBits_get (w : ByteArray) (xs : List Int) (hx : ∀ j, 0 ≤ xs.getD j 0 ∧ xs.getD j 0 < 256) (hl : xs.length = 4) : ∀ k, k ≤ 32 → ∀ j, j < 4 → (refBits w xs k).getD j 0 = tornN w k j (xs.getD j 0)
  | 0, _, j, hj => by
    obtain ⟨b, hb, hlt⟩ := bt_nat w j
    obtain ⟨h0, h1⟩ := hx j
    have e : bitsOf (0 : Nat) j = 0 := by unfold bitsOf mn mx; split <;> split <;> omega
    unfold tornN
    rw [refBits, hb, e, Int.toNat_natCast, mskN_0 b hlt]
    obtain ⟨x, hxe⟩ := Int.eq_ofNat_of_zero_le h0
    rw [hxe] at h1 ⊢
    have : x &&& 255 = x := by
      rw [show (255 : Nat) = 2 ^ 8 - 1 from rfl, Nat.and_two_pow_sub_one_eq_mod]
      omega
    show (x : Int) = ((x &&& 255 : Nat) : Int)
    rw [this]
  | k + 1, hk, j, hj => by
    have ih := refBits_get w xs hx hl k (by omega)
    have hlen := refBits_length w xs k
    obtain ⟨b, hb, hlt⟩ := bt_nat w ((k / 8 : Nat) : Int)
    rw [refBits, refBit, hb]
    have hdiv : ((b : Int) / 2 ^ (k % 8)) = ((b / 2 ^ (k % 8) : Nat) : Int) := by simp
    have hd : b / 2 ^ (k % 8) < 256 := Nat.lt_of_le_of_lt (Nat.div_le_self _ _) hlt
    have hand : Go.bits .and .u8 ((b : Int) / 2 ^ (k % 8)) 1 = ((b / 2 ^ (k % 8) % 2 : Nat) : Int) := by
      rw [hdiv, show (1 : Int) = ((1 : Nat) : Int) from rfl, and_u8 _ _ hd (by decide), Nat.and_one_is_mod]
    rw [hand]
    have hsm := step_mask b hlt (k % 8) (by omega)
    have hne : ∀ j, j ≠ k / 8 → bitsOf ((k + 1 : Nat) : Int) j = bitsOf (k : Int) j := by
      intro j hj
      rw [bitsOf_nat, bitsOf_nat]
      omega
    have heq : bitsOf (k : Int) (k / 8) = k % 8 ∧ bitsOf ((k + 1 : Nat) : Int) (k / 8) = k % 8 + 1 := by
      rw [bitsOf_nat, bitsOf_nat]
      omega
    by_cases hjk : j = k / 8
    · subst hjk
      have hcur := ih (k / 8) hj
      obtain ⟨h0, h1⟩ := hx (k / 8)
      obtain ⟨x, hxe⟩ := Int.eq_ofNat_of_zero_le h0
      rw [hxe] at h1
      rw [hxe] at hcur ⊢
      unfold tornN at hcur ⊢
      rw [hb, heq.1] at hcur
      rw [hb, heq.2]
      simp only [Int.toNat_natCast] at hcur ⊢
      rcases Nat.mod_two_eq_zero_or_one (b / 2 ^ (k % 8)) with hz | hz
      · rw [hz, if_pos (by rfl), hcur]
        have hp : ((2 : Int) ^ (k % 8) % 256) = ((2 ^ (k % 8) % 256 : Nat) : Int) := by simp
        have hx2 : x &&& mskN b (k % 8) < 256 := Nat.and_lt_two_pow (n := 8) _ (mskN_lt _ _ hlt)
        rw [hp, andNot_u8 _ _ hx2 (Nat.mod_lt _ (by decide)), Nat.and_assoc, hsm.1 hz]
        rw [List.getD_eq_getElem?_getD, List.getElem?_set_self (by omega)]
        rfl
      · rw [hz, if_neg (by decide), hcur, hsm.2 hz]
    · have h2 : tornN w ((k + 1 : Nat) : Int) j (xs.getD j 0) = tornN w (k : Int) j (xs.getD j 0) := by
        unfold tornN
        rw [hne j hjk]
      rw [h2, ← ih j hj]
      split
      · rw [List.getD_eq_getElem?_getD, List.getElem?_set_ne (Ne.symm hjk), List.getD_eq_getElem?_getD]
      · rfl
theorem bytesOf_get (s : ByteArray) (j : Nat) : 0 ≤ (bytesOf s).getD j 0 ∧ (bytesOf s).getD j 0 < 256 := by
  have h := bt_range s j
  rw [getD_bytesOf]
  omega
theorem tornW_ref (old w : ByteArray) (m : Nat) (ho : old.size = 4) (hm : m ≤ 32) : strOfNums (refBits w (bytesOf old) m) = tornW old w m := by
  unfold tornW
  congr 1
  have hl : (bytesOf old).length = 4 := by rw [bytesOf_length, ho]
  refine List.ext_getElem (by rw [refBits_length, List.length_mapIdx]) fun j h1 h2 => ?_
  rw [refBits_length, hl] at h1
  have h3 := refBits_get w (bytesOf old) (bytesOf_get old) hl m hm j h1
  rw [List.getElem_mapIdx]
  rw [List.getD_eq_getElem?_getD, List.getElem?_eq_getElem (by rw [refBits_length]; omega)] at h3
  have h4 := bytesOf_get old j
  rw [List.getD_eq_getElem?_getD, List.getElem?_eq_getElem (by omega)] at h3 h4
  simp only [Option.getD_some] at h3 h4
  rw [h3, tornByte_eq w m j _ h4.1 h4.2]
theorem torn_ref (f : ByteArray) (a : Int) (w : ByteArray) (m : Int) : skiffref1_Torn.f f a w m = nor_Torn.f f a w m := by
  have hB : refTornB f a w m = tornB f a w m := by
    rw [Bool.eq_iff_iff]
    simp only [refTornB, tornB, Bool.and_eq_true, decide_eq_true_eq]
    omega
  unfold skiffref1_Torn.f nor_Torn.f
  rw [hB]
  split
  · rename_i h
    simp only [tornB, Bool.and_eq_true, decide_eq_true_eq] at h
    rw [tornW_ref _ _ m.toNat (by rw [ext_size]; omega) (by omega), Int.toNat_of_nonneg (by omega)]
  · rfl
theorem tornW_size (old w : ByteArray) (m : Int) : (tornW old w m).size = old.size := by
  rw [tornW, strOfNums_size, List.length_mapIdx, bytesOf_length]
theorem tornW_get (old w : ByteArray) (m : Int) (j : Nat) (h : j < old.size) : (lst (tornW old w m))[j]? = some (UInt8.ofNat ((bt old j).toNat &&& mskN (bt w j).toNat (bitsOf m j))) := by
  have hl : j < (bytesOf old).length := by rw [bytesOf_length]; exact h
  unfold tornW
  rw [strOf_get, List.getElem?_mapIdx, List.getElem?_eq_getElem hl]
  have h4 := bytesOf_get old j
  have h5 := getD_bytesOf old j
  rw [List.getD_eq_getElem?_getD, List.getElem?_eq_getElem hl] at h4 h5
  simp only [Option.getD_some] at h4 h5
  simp only [Option.map_some, Option.some.injEq]
  rw [tornByte_eq w m j _ h4.1 h4.2, h5]
  rfl
theorem tornW_ff (w : ByteArray) (hw : w.size = 4) (m : Int) (hm : 32 ≤ m) : tornW (ffB 4) w m = w := by
  refine bytes_ext fun j => ?_
  by_cases hj : j < 4
  · rw [tornW_get _ _ _ j (by rw [ffB_size]; exact hj)]
    have e : bitsOf m j = 8 := by unfold bitsOf mn mx; split <;> split <;> omega
    obtain ⟨b, hb, hlt⟩ := bt_nat w j
    have h255 : bt (ffB 4) j = 255 := by
      rw [bt_lst _ _ (by rw [ffB_size]; exact hj)]
      simp only [lst_ff, List.getElem_replicate]
      rfl
    rw [e, hb, h255, Int.toNat_natCast, mskN_8 b hlt]
    have : 255 &&& b = b := by
      rw [Nat.and_comm, show (255 : Nat) = 2 ^ 8 - 1 from rfl, Nat.and_two_pow_sub_one_eq_mod]
      omega
    rw [show (255 : Int).toNat = 255 from rfl, this]
    rw [bt_lst _ _ (by omega)] at hb
    have hb2 : ((lst w)[j]'(by rw [lst_len]; omega)).toNat = b := by omega
    rw [← hb2, List.getElem?_eq_getElem (by rw [lst_len]; omega)]
    simp
  · rw [List.getElem?_eq_none (by rw [lst_len, tornW_size, ffB_size]; omega), List.getElem?_eq_none (by rw [lst_len]; omega)]
end Go.Proofs.Ytaibkfgpdgabaaa.P
end
