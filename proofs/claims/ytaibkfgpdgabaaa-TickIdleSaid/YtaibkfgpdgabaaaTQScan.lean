/- A part of the proof of T: what its last text uses; conditions: see there. -/
import Derived.Test.YtaibkfgpdgabaaaTQEntry
import Derived.Test.YtaibkfgpdgabaaaTQHeap
import Derived.Test.YtaibkfgpdgabaaaTHActive
import Derived.Test.YtaibkfgpdgabaaaTP1x0
section
namespace Go.Proofs.Ytaibkfgpdgabaaa.P
open Go.RowKit Go.Proofs.YtaibkfgpdgabaaaW.PrintWords Go.Proofs.YtaibkfgpdgabaaaW.PrintLast Go.Proofs.YtaibkfgpdgabaaaW.PrintMore
set_option linter.unusedVariables false
set_option linter.unusedSimpArgs false
theorem w64 {x : Int} (h0 : -9223372036854775808 ≤ x) (h1 : x ≤ 9223372036854775807) : wrap64 x = x := by unfold wrap64; omega
def placeOf (s : ByteArray) (k : Nat) : SPl := ⟨24 * k, ⟨(getR s).1, (getR s).2.1, (getR s).2.2.1, (getR s).2.2.2⟩⟩
def entAt (f : ByteArray) (k : Nat) : Option SPl := if getB (f.extract (24 * k) (24 * k + 24)) = true then some (placeOf (f.extract (24 * k) (24 * k + 24)) k) else none
theorem entAt_some {f : ByteArray} {k : Nat} {p : SPl} (h : entAt f k = some p) : getB (f.extract (24 * k) (24 * k + 24)) = true ∧ p = placeOf (f.extract (24 * k) (24 * k + 24)) k := by
  unfold entAt at h
  by_cases hb : getB (f.extract (24 * k) (24 * k + 24)) = true
  · rw [if_pos hb] at h
    exact ⟨hb, (Option.some.inj h).symm⟩
  · rw [if_neg hb] at h
    cases h
theorem entAt_none {f : ByteArray} {k : Nat} (h : entAt f k = none) : getB (f.extract (24 * k) (24 * k + 24)) = false := by
  unfold entAt at h
  by_cases hb : getB (f.extract (24 * k) (24 * k + 24)) = true
  · rw [if_pos hb] at h
    cases h
  · simpa using hb
def recsTo (f : ByteArray) : Nat → List SPl
  | 0 => []
  | k + 1 => recsTo f k ++ (entAt f k).toList
theorem recsTo_length (f : ByteArray) : ∀ k, (recsTo f k).length ≤ k
  | 0 => Nat.le_refl _
  | k + 1 => by
    have := recsTo_length f k
    rw [recsTo, List.length_append]
    cases entAt f k <;> simp <;> omega
theorem mem_recs (f : ByteArray) (p : SPl) : ∀ n, p ∈ recsTo f n ↔ ∃ k, k < n ∧ entAt f k = some p
  | 0 => by simp [recsTo]
  | n + 1 => by
    rw [recsTo, List.mem_append, mem_recs f p n]
    constructor
    · rintro (⟨k, hk, h⟩ | h)
      · exact ⟨k, by omega, h⟩
      · exact ⟨n, by omega, by simpa [Option.mem_toList] using h⟩
    · rintro ⟨k, hk, h⟩
      by_cases e : k = n
      · subst e; exact .inr (by simp [h])
      · exact .inl ⟨k, by omega, h⟩
theorem entAt_at {f : ByteArray} {k : Nat} {p : SPl} (h : entAt f k = some p) : p.f0 = 24 * k := by
  rw [(entAt_some h).2]
  rfl
theorem entAt_may {f : ByteArray} {k : Nat} {p : SPl} (h : entAt f k = some p) : recMayB p.f1.f0 p.f1.f1 p.f1.f2 p.f1.f3 = true := by
  obtain ⟨hb, hp⟩ := entAt_some h
  have hm := (ent_get hb).2.2.1
  rw [hp]
  dsimp only [placeOf]
  exact hm
theorem scan_yes {f : ByteArray} {k : Nat} {p : SPl} (h : entAt f k = some p) : entry_Get.f (f.extract (24 * k) (24 * k + 24)) = some (p.f1.f0, p.f1.f1, p.f1.f2, p.f1.f3, 0) := by
  obtain ⟨hb, hp⟩ := entAt_some h
  rw [entry_Get.f, if_pos hb, hp]
  dsimp only [placeOf]
theorem scan_no {f : ByteArray} {k : Nat} (h : entAt f k = none) : entry_Get.f (f.extract (24 * k) (24 * k + 24)) = some (0, 0, 0, 0, 400) := by
  rw [entry_Get.f, entAt_none h, if_neg (by decide)]
theorem scan_l (f : ByteArray) (hf : f.size = 768) : ∀ (d n k : Nat), n + d = 8 → d < k → journal_Scan.l0 k f (recsTo f n) n = some (recsTo f 8, 0)
  | 0, n, k, hn, hk => by
    obtain ⟨k, rfl⟩ : ∃ m, k = m + 1 := ⟨k - 1, by omega⟩
    obtain rfl : n = 8 := by omega
    rw [journal_Scan.l0, if_neg (by omega)]
  | d + 1, n, k, hn, hk => by
    obtain ⟨k, rfl⟩ : ∃ m, k = m + 1 := ⟨k - 1, by omega⟩
    have e1 : wrap64 ((n : Int) * 24) = ((24 * n : Nat) : Int) := by rw [w64 (by omega) (by omega)]; omega
    have e2 : wrap64 ((n : Int) + 1) = ((n + 1 : Nat) : Int) := by rw [w64 (by omega) (by omega)]; rfl
    have e3 : wrap64 (((24 * n : Nat) : Int) + 24) = ((24 * n + 24 : Nat) : Int) := by rw [w64 (by omega) (by omega)]; rfl
    have ea : journal_at.f f ((24 * n : Nat) : Int) = some (f.extract (24 * n) (24 * n + 24)) := by
      unfold journal_at.f
      rw [e3]
      simp only [Int.toNat_natCast]
      rw [if_pos (by omega), if_pos (by omega), if_pos (by omega)]
    have hl := recsTo_length f n
    rw [journal_Scan.l0, if_pos (by omega), e1, e2, ea]
    simp only [Option.bind_some]
    have ih := scan_l f hf d (n + 1) k (by omega) (by omega)
    rw [recsTo] at ih
    cases he : entAt f n with
    | none =>
      rw [he] at ih
      rw [scan_no he]
      simpa using ih
    | some p =>
      rw [he] at ih
      rw [scan_yes he]
      have hp := entAt_at he
      obtain ⟨p0, p1, p2, p3, p4⟩ := p
      simp only at hp
      subst hp
      simp only [Option.bind_some, if_true]
      rw [if_pos (by omega)]
      simpa using ih
theorem scan_f (f : ByteArray) (k : Nat) (hk : 20 ≤ k) (hf : f.size = 768) : journal_Scan.f k f = some (recsTo f 8, 0) := by
  unfold journal_Scan.f nor_May.f
  have h : (decide ((f.size : Int) = 768)) = true := by simp [hf]
  simp only [Option.bind_some]
  rw [if_pos (by simp [hf])]
  exact scan_l f hf 8 0 k (by omega) (by omega)
theorem scanR_l1 (f : ByteArray) (hf : f.size = 768) (s : Nat) (hs : s < 2) (R : Option (List SPl × Int)) (K : Nat) (hR : ∀ k, K ≤ k → skiffref1_Scan.l0 k f (recsTo f (4 * s + 4)) ((s + 1 : Nat) : Int) = R) :
    ∀ (d n k : Nat), n + d = 4 * s + 4 → 4 * s ≤ n → K + d < k → skiffref1_Scan.l1 k f (recsTo f n) s ((24 * n : Nat) : Int) = R
  | 0, n, k, hn, hk, hK => by
    obtain ⟨k, rfl⟩ : ∃ m, k = m + 1 := ⟨k - 1, by omega⟩
    obtain rfl : n = 4 * s + 4 := by omega
    have e1 : wrap64 (((24 * (4 * s + 4) : Nat) : Int) + 24) = 96 * s + 120 := by rw [w64 (by omega) (by omega)]; omega
    have e2 : wrap64 ((s : Int) + 1) = ((s + 1 : Nat) : Int) := by rw [w64 (by omega) (by omega)]; rfl
    have e3 : wrap64 (((s + 1 : Nat) : Int) * 96) = 96 * s + 96 := by rw [w64 (by omega) (by omega)]; omega
    rw [skiffref1_Scan.l1, e1, e2, e3, if_neg (by omega)]
    exact hR k (by omega)
  | d + 1, n, k, hn, hk, hK => by
    obtain ⟨k, rfl⟩ : ∃ m, k = m + 1 := ⟨k - 1, by omega⟩
    have e1 : wrap64 (((24 * n : Nat) : Int) + 24) = ((24 * n + 24 : Nat) : Int) := by rw [w64 (by omega) (by omega)]; omega
    have e2 : wrap64 ((s : Int) + 1) = ((s + 1 : Nat) : Int) := by rw [w64 (by omega) (by omega)]; rfl
    have e3 : wrap64 (((s + 1 : Nat) : Int) * 96) = 96 * s + 96 := by rw [w64 (by omega) (by omega)]; omega
    have hl := recsTo_length f n
    rw [skiffref1_Scan.l1, e1, e2, e3, if_pos (by omega), if_pos (by omega), if_pos (by omega), if_pos (by omega)]
    simp only [Int.toNat_natCast]
    rw [get_ref]
    have ih := scanR_l1 f hf s hs R K hR d (n + 1) k (by omega) (by omega) (by omega)
    rw [recsTo, show 24 * (n + 1) = 24 * n + 24 by omega] at ih
    cases he : entAt f n with
    | none =>
      rw [he] at ih
      rw [scan_no he]
      simpa using ih
    | some p =>
      rw [he] at ih
      rw [scan_yes he]
      have hp := entAt_at he
      obtain ⟨p0, p1, p2, p3, p4⟩ := p
      simp only at hp
      subst hp
      simp only [Option.bind_some, if_true]
      rw [if_pos (by omega)]
      simpa using ih
theorem scanR_f (f : ByteArray) (k : Nat) (hk : 20 ≤ k) (hf : f.size = 768) : skiffref1_Scan.f k f = some (recsTo f 8, 0) := by
  unfold skiffref1_Scan.f skiffref1_FlashMay.f
  simp only [Option.bind_some]
  rw [if_pos (by simp [hf])]
  have h2 : ∀ k, 1 ≤ k → skiffref1_Scan.l0 k f (recsTo f 8) ((2 : Nat) : Int) = some (recsTo f 8, 0) := by
    intro k hk
    obtain ⟨k, rfl⟩ : ∃ m, k = m + 1 := ⟨k - 1, by omega⟩
    rw [skiffref1_Scan.l0, if_neg (by omega)]
  have h1 : ∀ k, 7 ≤ k → skiffref1_Scan.l0 k f (recsTo f 4) ((1 : Nat) : Int) = some (recsTo f 8, 0) := by
    intro k hk
    obtain ⟨k, rfl⟩ : ∃ m, k = m + 1 := ⟨k - 1, by omega⟩
    rw [skiffref1_Scan.l0, if_pos (by omega), show wrap64 (((1 : Nat) : Int) * 96) = ((24 * 4 : Nat) : Int) by rw [w64 (by omega) (by omega)]; omega]
    exact scanR_l1 f hf 1 (by omega) _ 1 h2 4 4 k (by omega) (by omega) (by omega)
  obtain ⟨k, rfl⟩ : ∃ m, k = m + 1 := ⟨k - 1, by omega⟩
  rw [skiffref1_Scan.l0, if_pos (by omega), show wrap64 ((0 : Int) * 96) = ((24 * 0 : Nat) : Int) by rw [w64 (by omega) (by omega)]; omega]
  exact scanR_l1 f hf 0 (by omega) _ 7 h1 4 0 k (by omega) (by omega) (by omega)
end Go.Proofs.Ytaibkfgpdgabaaa.P
end
