/- A part of the proof of T: what its last text uses; conditions: see there. -/
import Derived.Test.YtaibkfgpdgabaaaTQTorn
import Derived.Test.YtaibkfgpdgabaaaTHMay
import Derived.Test.YtaibkfgpdgabaaaTHRepeat
import Derived.Test.YtaibkfgpdgabaaaTP2x0
import Derived.Test.YtaibkfgpdgabaaaTP4x0
section
namespace Go.Proofs.Ytaibkfgpdgabaaa.P
open Go.RowKit Go.Proofs.YtaibkfgpdgabaaaW.PrintWords Go.Proofs.YtaibkfgpdgabaaaW.PrintLast Go.Proofs.YtaibkfgpdgabaaaW.PrintMore
set_option linter.unusedVariables false
set_option linter.unusedSimpArgs false
theorem wr64 {x : Int} (h0 : -9223372036854775808 ≤ x) (h1 : x ≤ 9223372036854775807) : wrap64 x = x := by unfold wrap64; omega
theorem toList_empty (t : ByteArray) : t.toList.isEmpty = decide (t.size = 0) := by
  rw [ByteArray.toList_eq, Bool.eq_iff_iff]
  simp only [List.isEmpty_iff, decide_eq_true_eq]
  rw [← List.length_eq_zero_iff, data_length]
theorem toList_nil (t : ByteArray) : (t.toList == ([] : List UInt8)) = decide (t.size = 0) := by
  rw [ByteArray.toList_eq, Bool.eq_iff_iff]
  simp only [beq_iff_eq, decide_eq_true_eq]
  rw [← List.length_eq_zero_iff, data_length]
def OpOk (e : Bool) (a : Int) (t : ByteArray) : Prop := if e = true then 0 ≤ a ∧ a ≤ 672 ∧ a % 96 = 0 ∧ t.size = 0 else 0 ≤ a ∧ a ≤ 764 ∧ a % 4 = 0 ∧ t.size = 4
theorem opMay_iff (e : Bool) (a : Int) (t : ByteArray) (ha : a ≤ 9223372036854775807) : opMayB e a t = true ↔ OpOk e a t := by
  cases e
  · simp only [opMayB, OpOk, Bool.and_eq_true, decide_eq_true_eq, beq_iff_eq, if_neg (show ¬ false = true by decide)]
    omega
  · simp only [opMayB, OpOk, Bool.and_eq_true, decide_eq_true_eq, if_true, toList_empty]
    constructor
    · rintro ⟨⟨⟨⟨h1, h2⟩, h3⟩, h4⟩, h5⟩
      rw [Int.tdiv_eq_ediv_of_nonneg h1, wr64 (by omega) (by omega)] at h3 h4
      omega
    · rintro ⟨h1, h2, h3, h4⟩
      rw [Int.tdiv_eq_ediv_of_nonneg h1, wr64 (by omega) (by omega)]
      omega
theorem OpOk.le {e : Bool} {a : Int} {t : ByteArray} (h : OpOk e a t) : a ≤ 9223372036854775807 := by
  unfold OpOk at h
  split at h <;> omega
theorem OpOk.may {e : Bool} {a : Int} {t : ByteArray} (h : OpOk e a t) : opMayB e a t = true := (opMay_iff e a t h.le).2 h
def doB (f : ByteArray) (e : Bool) (a : Int) (t : ByteArray) (c : Int) : ByteArray :=
  if e = true then putAt f a.toNat (ffB c.toNat) else putAt f a.toNat (tornW (f.extract a.toNat (a.toNat + 4)) t (mn c 32))
def cutMayB (f : ByteArray) (e : Bool) (a : Int) (t : ByteArray) (c : Int) : Bool := decide (f.size = 768) && opMayB e a t && decide (0 ≤ c) && decide (c ≤ 96)
theorem repeatL_ff : ∀ n : Nat, Lib.repeatL [255] n = List.replicate n 255
  | 0 => rfl
  | n + 1 => by rw [Lib.repeatL, repeatL_ff n, List.replicate_succ]; rfl
theorem repeat_ff (n : Nat) (h : n ≤ 96) : strings_Repeat.f (⟨#[255]⟩ : ByteArray) n = some (ffB n) := by
  have e1 : (⟨#[255]⟩ : ByteArray).size = 1 := rfl
  have e2 : (⟨#[255]⟩ : ByteArray).data.toList = [255] := rfl
  have e3 : (⟨#[255]⟩ : ByteArray).size * (n : Int).toNat ≤ 140737488355328 := by rw [e1]; omega
  unfold strings_Repeat.f
  split
  · rw [e2, Int.toNat_natCast, repeatL_ff, ffB]
  · rename_i hc
    exact absurd ⟨by omega, by omega, e3⟩ hc
theorem worn_f (f : ByteArray) (x m k : Nat) (hk : 1 ≤ k) (hf : f.size = 768) (hx : x < 8) (hm : m ≤ 96) : nor_Worn.f k f x m = some (putAt f (96 * x) (ffB m), 0) := by
  obtain ⟨k, rfl⟩ : ∃ m, k = m + 1 := ⟨k - 1, by omega⟩
  unfold nor_Worn.f nor_May.f nor_Sector.f
  simp only [Option.bind_some]
  rw [if_pos (by simp [hf]), if_pos (by omega)]
  simp only [Option.bind_some]
  rw [if_pos (by simpa using (by omega : (x : Int) < 8)), if_neg (by omega), nor_Worn.j0, if_neg (by simp; omega), repeat_ff m hm]
  have e1 : wrap64 ((x : Int) * 96) = ((96 * x : Nat) : Int) := by rw [wr64 (by omega) (by omega)]; omega
  rw [Option.bind_some, e1]
  unfold nor_with.f
  have e2 : wrap64 (((96 * x : Nat) : Int) + ((ffB m).size : Int)) = ((96 * x + m : Nat) : Int) := by rw [ffB_size, wr64 (by omega) (by omega)]; omega
  rw [e2, Int.toNat_natCast, Int.toNat_natCast]
  rw [if_pos (by omega), if_pos (by omega), if_pos (by rw [ext_size, ffB_size]; omega), if_pos (by omega), if_pos (by omega), if_pos (by rw [ByteArray.size_append, ext_size, ext_size, ffB_size]; omega)]
  rw [Option.bind_some, putAt, ffB_size]
theorem torn_f (f : ByteArray) (a : Int) (t : ByteArray) (m : Int) (hf : f.size = 768) (ha : 0 ≤ a ∧ a ≤ 764 ∧ a % 4 = 0) (ht : t.size = 4) (hm : 0 ≤ m ∧ m ≤ 32) : nor_Torn.f f a t m = some (putAt f a.toNat (tornW (f.extract a.toNat (a.toNat + 4)) t m), 0) := by
  unfold nor_Torn.f
  rw [if_pos ?_]
  simp only [tornB, Bool.and_eq_true, decide_eq_true_eq]
  omega
theorem cut_f (f : ByteArray) (e : Bool) (a : Int) (t : ByteArray) (c : Int) (k : Nat) (hk : 2 ≤ k) (ha : a ≤ 9223372036854775807) : ops_Cut.f k f e a t c = if cutMayB f e a t c = true then some (doB f e a t c, 0) else some (⟨#[]⟩, 300) := by
  obtain ⟨k, rfl⟩ : ∃ m, k = m + 1 := ⟨k - 1, by omega⟩
  unfold ops_Cut.f nor_May.f ops_May.f cutMayB
  simp only [Option.bind_some]
  have hbad : ∀ x146 x147 x148, ops_Cut.j0 (k + 1) f c true x146 x147 x148 = some (⟨#[]⟩, 300) := fun _ _ _ => by rw [ops_Cut.j0, if_pos rfl]
  by_cases hf : f.size = 768
  · rw [if_pos (by simp [hf])]
    cases hm : opMayB e a t with
    | false =>
      rw [if_neg (by decide), hbad, if_neg (by simp)]
    | true =>
      rw [if_pos rfl]
      have ho := (opMay_iff e a t ha).1 hm
      by_cases h0 : c < 0
      · rw [if_pos h0, hbad, if_neg (by simp; omega)]
      · rw [if_neg h0]
        by_cases h1 : c > 96
        · rw [decide_eq_true h1, hbad, if_neg (by simp; omega)]
        · rw [decide_eq_false h1, if_pos (by simp [hf]; omega), ops_Cut.j0, if_neg (by decide)]
          unfold OpOk at ho
          obtain ⟨c, rfl⟩ := Int.eq_ofNat_of_zero_le (by omega : 0 ≤ c)
          cases e with
          | true =>
            rw [if_pos rfl] at ho
            rw [if_pos rfl]
            have e1 : wrap64 (a.tdiv 96) = ((a.toNat / 96 : Nat) : Int) := by
              rw [Int.tdiv_eq_ediv_of_nonneg ho.1, wr64 (by omega) (by omega)]
              omega
            rw [e1, worn_f f _ c k (by omega) hf (by omega) (by omega)]
            simp only [Option.bind_some]
            rw [doB, if_pos rfl, show 96 * (a.toNat / 96) = a.toNat by omega, Int.toNat_natCast]
          | false =>
            rw [if_neg (by decide)] at ho
            rw [if_neg (by decide), torn_f f a t _ hf ⟨ho.1, ho.2.1, ho.2.2.1⟩ ho.2.2.2 (by unfold mn; split <;> omega)]
            simp only [Option.bind_some]
            rw [doB, if_neg (by decide)]
  · rw [if_neg (by simpa using (by omega : ¬ (f.size : Int) = 768)), hbad, if_neg (by simp [hf])]
theorem refOpMay_f (e : Bool) (a : Int) (t : ByteArray) (ha : a ≤ 9223372036854775807) : skiffref1_OpMay.f e a t = some (opMayB e a t) := by
  have hb : ∀ b : Bool, (b = true ↔ OpOk e a t) → some b = some (opMayB e a t) := by
    intro b h
    congr 1
    rw [Bool.eq_iff_iff, h, opMay_iff _ _ _ ha]
  unfold skiffref1_OpMay.f skiffref1_wordAt.f skiffref1_upTo.f
  cases e with
  | true =>
    rw [if_pos rfl]
    by_cases h0 : a ≥ 0
    · rw [if_pos h0]
      simp only [Option.bind_some, decide_eq_true_eq]
      by_cases h1 : a ≤ 672
      · rw [if_pos h1, Int.tmod_eq_emod_of_nonneg h0]
        by_cases h2 : a % 96 = 0
        · rw [if_pos h2]
          refine hb _ ?_
          rw [toList_nil, decide_eq_true_eq, OpOk, if_pos rfl]
          omega
        · rw [if_neg h2]
          refine hb _ ?_
          rw [OpOk, if_pos rfl]
          simp [h2]
      · rw [if_neg h1]
        refine hb _ ?_
        rw [OpOk, if_pos rfl]
        simp [h1]
    · rw [if_neg h0]
      simp only [Option.bind_some]
      rw [if_neg (by decide)]
      refine hb _ ?_
      rw [OpOk, if_pos rfl]
      simp
      omega
  | false =>
    rw [if_neg (by decide)]
    by_cases h0 : a ≥ 0
    · rw [if_pos h0]
      simp only [Option.bind_some, decide_eq_true_eq]
      by_cases h1 : a ≤ 764
      · rw [if_pos h1, Int.tmod_eq_emod_of_nonneg h0]
        simp only [Option.bind_some, beq_iff_eq]
        by_cases h2 : a % 4 = 0
        · rw [if_pos h2]
          refine hb _ ?_
          rw [OpOk, if_neg (by decide)]
          simp only [beq_iff_eq]
          omega
        · rw [if_neg h2]
          refine hb _ ?_
          rw [OpOk, if_neg (by decide)]
          simp [h2]
      · rw [if_neg h1]
        simp only [Option.bind_some]
        rw [if_neg (by decide)]
        refine hb _ ?_
        rw [OpOk, if_neg (by decide)]
        simp [h1]
    · rw [if_neg h0]
      simp only [Option.bind_some]
      rw [if_neg (by decide)]
      simp only [Option.bind_some]
      rw [if_neg (by decide)]
      refine hb _ ?_
      rw [OpOk, if_neg (by decide)]
      simp
      omega
theorem cutR_f (f : ByteArray) (e : Bool) (a : Int) (t : ByteArray) (c : Int) (k : Nat) (hk : 2 ≤ k) (ha : a ≤ 9223372036854775807) : skiffref1_Cut.f k f e a t c = if cutMayB f e a t c = true then some (doB f e a t c, 0) else some (⟨#[]⟩, 300) := by
  obtain ⟨k, rfl⟩ : ∃ m, k = m + 1 := ⟨k - 1, by omega⟩
  unfold skiffref1_Cut.f skiffref1_FlashMay.f cutMayB skiffref1_upTo.f
  simp only [Option.bind_some]
  have hbad : ∀ x146 x147 x148, skiffref1_Cut.j0 (k + 1) f c true x146 x147 x148 = some (⟨#[]⟩, 300) := fun _ _ _ => by rw [skiffref1_Cut.j0, if_pos rfl]
  by_cases hf : f.size = 768
  · rw [if_pos (by simp [hf]), refOpMay_f _ _ _ ha]
    simp only [Option.bind_some]
    cases hm : opMayB e a t with
    | false =>
      rw [if_neg (by decide), hbad, if_neg (by simp)]
    | true =>
      rw [if_pos rfl]
      have ho := (opMay_iff e a t ha).1 hm
      by_cases h0 : c ≥ 0
      · rw [if_pos h0]
        simp only [Option.bind_some]
        by_cases h1 : c ≤ 96
        · rw [decide_eq_true h1, if_pos (by simp [hf, h1]; omega), skiffref1_Cut.j0, if_neg (by decide)]
          unfold OpOk at ho
          obtain ⟨c, rfl⟩ := Int.eq_ofNat_of_zero_le (by omega : 0 ≤ c)
          cases e with
          | true =>
            rw [if_pos rfl] at ho
            rw [if_pos rfl]
            have e1 : wrap64 (a.tdiv 96) = ((a.toNat / 96 : Nat) : Int) := by
              rw [Int.tdiv_eq_ediv_of_nonneg ho.1, wr64 (by omega) (by omega)]
              omega
            rw [e1, skiffref1_Worn.f, if_pos (by simp only [wornMayB, Bool.and_eq_true, decide_eq_true_eq]; omega)]
            simp only [Option.bind_some]
            rw [doB, if_pos rfl, Int.toNat_natCast, wornB_put, show a.toNat / 96 * 96 = a.toNat by omega]
          | false =>
            rw [if_neg (by decide)] at ho
            rw [if_neg (by decide), torn_ref, torn_f f a t _ hf ⟨ho.1, ho.2.1, ho.2.2.1⟩ ho.2.2.2 (by unfold mn; split <;> omega)]
            simp only [Option.bind_some]
            rw [doB, if_neg (by decide)]
        · rw [decide_eq_false h1, Bool.not_false, hbad, if_neg (by simp [h1])]
      · rw [if_neg h0]
        simp only [Option.bind_some]
        rw [Bool.not_false, hbad, if_neg (by simp [h0])]
  · rw [if_neg (by simpa using (by omega : ¬ (f.size : Int) = 768)), hbad, if_neg (by simp [hf])]
theorem do_f (f : ByteArray) (e : Bool) (a : Int) (t : ByteArray) (k : Nat) (hk : 2 ≤ k) (hf : f.size = 768) (ho : OpOk e a t) : ops_Do.f k f e a t = some (doB f e a t 96, 0) := by
  rw [ops_Do.f, cut_f _ _ _ _ _ k hk ho.le, if_pos (by simp [cutMayB, hf, ho.may])]
  rfl
theorem doR_f (f : ByteArray) (e : Bool) (a : Int) (t : ByteArray) (k : Nat) (hk : 2 ≤ k) (hf : f.size = 768) (ho : OpOk e a t) : skiffref1_Do.f k f e a t = some (doB f e a t 96, 0) := by
  rw [skiffref1_Do.f, cutR_f _ _ _ _ _ k hk ho.le, if_pos (by simp [cutMayB, hf, ho.may])]
  rfl
theorem doB_size (f : ByteArray) (e : Bool) (a : Int) (t : ByteArray) (c : Int) (hf : f.size = 768) (ho : OpOk e a t) (hc : c ≤ 96) : (doB f e a t c).size = 768 := by
  unfold OpOk at ho
  unfold doB
  cases e with
  | true =>
    rw [if_pos rfl] at ho
    rw [if_pos rfl, put_size _ _ _ (by rw [ffB_size]; omega), hf]
  | false =>
    rw [if_neg (by decide)] at ho
    rw [if_neg (by decide), put_size _ _ _ (by rw [tornW_size, ext_size]; omega), hf]
theorem do_word (f : ByteArray) (a : Int) (t : ByteArray) (hf : f.size = 768) (ho : OpOk false a t) (hb : f.extract a.toNat (a.toNat + 4) = ffB 4) : doB f false a t 96 = putAt f a.toNat t := by
  unfold OpOk at ho
  rw [if_neg (by decide)] at ho
  rw [doB, if_neg (by decide), hb, tornW_ff t ho.2.2.2 _ (by unfold mn; split <;> omega)]
theorem do_erase (f : ByteArray) (a : Int) (t : ByteArray) : doB f true a t 96 = putAt f a.toNat (ffB 96) := by
  rw [doB, if_pos rfl]
  rfl
end Go.Proofs.Ytaibkfgpdgabaaa.P
end
