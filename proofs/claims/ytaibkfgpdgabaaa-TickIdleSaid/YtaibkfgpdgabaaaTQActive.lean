/- A part of the proof of T: what its last text uses; conditions: see there. -/
import Derived.Test.YtaibkfgpdgabaaaTQScan
import Derived.Test.YtaibkfgpdgabaaaTHCrc
import Derived.Test.YtaibkfgpdgabaaaTP0x0
import Derived.Test.YtaibkfgpdgabaaaTP1x0
section
namespace Go.Proofs.Ytaibkfgpdgabaaa.P
open Go.RowKit Go.Proofs.YtaibkfgpdgabaaaW.PrintWords Go.Proofs.YtaibkfgpdgabaaaW.PrintLast Go.Proofs.YtaibkfgpdgabaaaW.PrintMore
set_option linter.unusedVariables false
set_option linter.unusedSimpArgs false
theorem crcR_l1 (s : ByteArray) (i : Nat) (hi : (i : Int) + 1 ≤ 9223372036854775807) : ∀ (d j k x : Nat), j + d = 8 → d < k → x < 4294967296 → skiffref1_Crc.l1 k s x i j = skiffref1_Crc.l0 (k - d - 1) s (crcBits d x : Nat) ((i + 1 : Nat) : Int)
  | 0, j, k, x, hj, hk, hx => by
    obtain ⟨k, rfl⟩ : ∃ m, k = m + 1 := ⟨k - 1, by omega⟩
    obtain rfl : j = 8 := by omega
    rw [skiffref1_Crc.l1, if_neg (by omega), w64 (by omega) (by omega)]
    rfl
  | d + 1, j, k, x, hj, hk, hx => by
    obtain ⟨k, rfl⟩ : ∃ m, k = m + 1 := ⟨k - 1, by omega⟩
    have e2 : wrap64 ((j : Int) + 1) = ((j + 1 : Nat) : Int) := by rw [w64 (by omega) (by omega)]; rfl
    have hb := crcBit_lt x hx
    rw [skiffref1_Crc.l1, if_pos (by omega), and1_u32 x hx, e2, show k + 1 - (d + 1) - 1 = k - d - 1 by omega, crcBits]
    have hdiv : ((x : Int) / 2) = ((x / 2 : Nat) : Int) := by omega
    by_cases h1 : x % 2 = 1
    · have hx2 : x / 2 < 4294967296 := by omega
      rw [if_pos (by omega), hdiv, show (3988292384 : Int) = ((3988292384 : Nat) : Int) from rfl, xor_u32 _ _ hx2 (by omega)]
      have e : crcBit x = x / 2 ^^^ 3988292384 := by rw [crcBit, if_pos h1]
      rw [e] at hb ⊢
      exact crcR_l1 s i hi d (j + 1) k _ (by omega) (by omega) hb
    · rw [if_neg (by omega), hdiv]
      have e : crcBit x = x / 2 := by rw [crcBit, if_neg h1]
      rw [e] at hb ⊢
      exact crcR_l1 s i hi d (j + 1) k _ (by omega) (by omega) hb
theorem crcR_l0 (s : ByteArray) (hs : s.size ≤ 9223372036854775806) : ∀ (d i k x : Nat), i + d = s.size → 10 * d < k → x < 4294967296 → skiffref1_Crc.l0 k s x i = some ((crcList ((lst s).drop i) x ^^^ 4294967295 : Nat) : Int)
  | 0, i, k, x, hi, hk, hx => by
    obtain ⟨k, rfl⟩ : ∃ m, k = m + 1 := ⟨k - 1, by omega⟩
    have hl := Nat.xor_lt_two_pow (n := 32) (show 4294967295 < 2 ^ 32 by decide) hx
    rw [skiffref1_Crc.l0, if_neg (by omega), show (4294967295 : Int) = ((4294967295 : Nat) : Int) from rfl, xor_u32 _ _ (by omega) hx, w64 (by omega) (by omega), List.drop_of_length_le (by rw [lst_len]; omega), Nat.xor_comm]
    rfl
  | d + 1, i, k, x, hi, hk, hx => by
    obtain ⟨k, rfl⟩ : ∃ m, k = m + 1 := ⟨k - 1, by omega⟩
    have hil : i < s.size := by omega
    have hb := bt_lst s i hil
    have hlt := ((lst s)[i]'(by rw [lst_len]; exact hil)).toNat_lt
    have hd : (lst s).drop i = (lst s)[i]'(by rw [lst_len]; exact hil) :: (lst s).drop (i + 1) := List.drop_eq_getElem_cons (by rw [lst_len]; exact hil)
    generalize (lst s)[i]'(by rw [lst_len]; exact hil) = b at *
    have hm : ((b.toNat : Int) % 4294967296) = ((b.toNat : Nat) : Int) := by omega
    have hx2 := Nat.xor_lt_two_pow (n := 32) (x := x) (y := b.toNat) hx (by omega)
    rw [skiffref1_Crc.l0, if_pos (by omega), if_pos (by omega), hb, hm, xor_u32 _ _ hx (by omega), show (0 : Int) = ((0 : Nat) : Int) from rfl, crcR_l1 s i (by omega) 8 0 k _ (by omega) (by omega) hx2, crcR_l0 s hs d (i + 1) _ _ (by omega) (by omega) (crcBits_lt 8 _ hx2), hd]
    rfl
theorem crcR_f (s : ByteArray) (k : Nat) (hs : s.size ≤ 9223372036854775806) (hk : 10 * s.size < k) : skiffref1_Crc.f k s = some ((crcOf s : Nat) : Int) := by
  have h := crcR_l0 s hs s.size 0 k 4294967295 (by omega) hk (by decide)
  rw [List.drop_zero] at h
  exact h
theorem crc_f (s : ByteArray) (hs : s.size ≤ 9223372036854775807) : crc_Sum.f s = some ((crcOf s : Nat) : Int) := by rw [crc_Sum.f, if_pos hs]
def baseN (b : Int) : Nat := (192 + 288 * b).toNat
def imgB (f : ByteArray) (b c : Int) : ByteArray := f.extract (baseN b) (baseN b + c.toNat)
def goodB (f : ByteArray) (b c d : Int) : Bool := ((crcOf (imgB f b c) : Nat) : Int) == d
theorem img_f (f : ByteArray) (a b c d : Int) (hf : f.size = 768) (hm : recMayB a b c d = true) : image_Of.f f a b c d = some (imgB f b c, 0) := by
  obtain ⟨ha, hb, hc, hd⟩ := rec_bounds hm
  have e1 : wrap64 (3 * b) = 3 * b := w64 (by omega) (by omega)
  have e2 : wrap64 (2 + 3 * b) = 2 + 3 * b := w64 (by omega) (by omega)
  have e3 : wrap64 ((2 + 3 * b) * 96) = 192 + 288 * b := by rw [w64 (by omega) (by omega)]; omega
  have e4 : wrap64 (192 + 288 * b + c) = 192 + 288 * b + c := w64 (by omega) (by omega)
  have eb : image_Base.f b = some (192 + 288 * b, 0) := by
    unfold image_Base.f entry_Slot.f entry_in.f image_Sector.f journal_Begin.f
    rw [if_pos (by omega)]
    simp only [Option.bind_some]
    rw [if_pos (by simpa using hb.2), e1, e2, e3]
  unfold image_Of.f nor_May.f entry_May.f
  simp only [Option.bind_some]
  rw [if_pos (by simp [hf]), hm, eb]
  simp only [Option.bind_some, if_true]
  rw [e4, if_pos (by omega), if_pos (by omega), if_pos (by omega), imgB, baseN, show (192 + 288 * b + c).toNat = (192 + 288 * b).toNat + c.toNat by omega]
theorem imgR_f (f : ByteArray) (a b c d : Int) (hf : f.size = 768) (hm : recMayB a b c d = true) : skiffref1_ImageOf.f f a b c d = some (imgB f b c, 0) := by
  obtain ⟨ha, hb, hc, hd⟩ := rec_bounds hm
  have e1 : wrap64 (3 * b) = 3 * b := w64 (by omega) (by omega)
  have e2 : wrap64 (2 + 3 * b) = 2 + 3 * b := w64 (by omega) (by omega)
  have e3 : wrap64 ((2 + 3 * b) * 96) = 192 + 288 * b := by rw [w64 (by omega) (by omega)]; omega
  have e4 : wrap64 (192 + 288 * b + c) = 192 + 288 * b + c := w64 (by omega) (by omega)
  have eb : skiffref1_Base.f b = some (192 + 288 * b, 0) := by
    unfold skiffref1_Base.f skiffref1_upTo.f
    rw [if_pos (by omega)]
    simp only [Option.bind_some]
    rw [if_pos (by simpa using hb.2), e1, e2, e3]
  unfold skiffref1_ImageOf.f skiffref1_FlashMay.f skiffref1_RecordMay.f
  simp only [Option.bind_some]
  rw [if_pos (by simp [hf]), hm, eb]
  simp only [Option.bind_some, if_true]
  rw [e4, if_pos (by omega), if_pos (by omega), if_pos (by omega), imgB, baseN, show (192 + 288 * b + c).toNat = (192 + 288 * b).toNat + c.toNat by omega]
theorem imgB_size (f : ByteArray) (a b c d : Int) (hf : f.size = 768) (hm : recMayB a b c d = true) : (imgB f b c).size = c.toNat := by
  obtain ⟨ha, hb, hc, hd⟩ := rec_bounds hm
  rw [imgB, ext_size, baseN]
  omega
theorem good_f (f : ByteArray) (a b c d : Int) (hf : f.size = 768) (hm : recMayB a b c d = true) : image_Good.f f a b c d = some (goodB f b c d, 0) := by
  have hs := imgB_size f a b c d hf hm
  obtain ⟨ha, hb, hc, hd⟩ := rec_bounds hm
  unfold image_Good.f
  rw [img_f f a b c d hf hm]
  simp only [Option.bind_some, if_true]
  rw [crc_f _ (by omega)]
  rfl
theorem goodR_f (f : ByteArray) (k : Nat) (a b c d : Int) (hk : 2881 ≤ k) (hf : f.size = 768) (hm : recMayB a b c d = true) : skiffref1_Good.f k f a b c d = some (goodB f b c d, 0) := by
  have hs := imgB_size f a b c d hf hm
  obtain ⟨ha, hb, hc, hd⟩ := rec_bounds hm
  unfold skiffref1_Good.f
  rw [imgR_f f a b c d hf hm]
  simp only [Option.bind_some, if_true]
  rw [crcR_f _ k (by omega) (by omega)]
  rfl
def gd (f : ByteArray) (p : SPl) : Bool := goodB f p.f1.f1 p.f1.f2 p.f1.f3
def vals : Option SPl → Int × Int × Int × Int × Int × Int
  | none => (0, 0, 0, 0, 0, 701)
  | some p => (p.f0, p.f1.f0, p.f1.f1, p.f1.f2, p.f1.f3, 0)
def Best (f : ByteArray) (l : List SPl) : Option SPl → Prop
  | none => ∀ q ∈ l, gd f q = false
  | some p => p ∈ l ∧ gd f p = true ∧ ∀ q ∈ l, gd f q = true → leP p q
theorem Best.perm {f : ByteArray} {l m : List SPl} {o : Option SPl} (h : Best f l o) (hp : l.Perm m) : Best f m o := by
  cases o with
  | none => exact fun q hq => h q (hp.mem_iff.2 hq)
  | some p => exact ⟨hp.mem_iff.1 h.1, h.2.1, fun q hq => h.2.2 q (hp.mem_iff.2 hq)⟩
theorem actL_best (f : ByteArray) (hf : f.size = 768) : ∀ (n : Nat) (xs : List SPl), xs.length = n → n ≤ 8 → HeapQ 0 n xs → (∀ q ∈ xs, recMayB q.f1.f0 q.f1.f1 q.f1.f2 q.f1.f3 = true) → ∃ o, actL f n xs = some (vals o) ∧ Best f xs o
  | 0, xs, hl, _, _, _ => by
    obtain rfl := List.length_eq_zero_iff.1 hl
    exact ⟨none, rfl, fun q hq => by cases hq⟩
  | n + 1, xs, hl, h8, hh, hm => by
    obtain ⟨ha, hh2, hp, hl2⟩ := popL_first n xs hl h8 hh
    have hmem : atQ xs 0 ∈ xs := hp.mem_iff.1 (by simp)
    have hfirst : ∀ q ∈ xs, leP (atQ xs 0) q := by
      intro q hq
      obtain ⟨j, hj, rfl⟩ := List.mem_iff_getElem.1 hq
      have := heap_first (n + 1) xs hh j (by omega)
      rw [show atQ xs j = xs[j] by simp [atQ, List.getD_eq_getElem?_getD, hj]] at this
      exact this
    rw [actL, ha, good_f f _ _ _ _ hf (hm _ hmem)]
    simp only [Option.bind_some]
    cases hg : goodB f (atQ xs 0).f1.f1 (atQ xs 0).f1.f2 (atQ xs 0).f1.f3 with
    | true =>
      rw [if_pos rfl]
      exact ⟨some (atQ xs 0), rfl, hmem, hg, fun q hq _ => hfirst q hq⟩
    | false =>
      rw [if_neg (by decide)]
      obtain ⟨o, ho, hb⟩ := actL_best f hf n _ hl2 (by omega) hh2 (fun q hq => hm q (hp.mem_iff.1 (List.mem_append_left _ hq)))
      refine ⟨o, ho, ?_⟩
      have hb2 : Best f ((popL n xs).take n ++ [atQ xs 0]) o := by
        cases o with
        | none =>
          intro q hq
          rcases List.mem_append.1 hq with h | h
          · exact hb q h
          · rw [List.mem_singleton] at h; rw [h]; exact hg
        | some p =>
          refine ⟨List.mem_append_left _ hb.1, hb.2.1, fun q hq hgq => ?_⟩
          rcases List.mem_append.1 hq with h | h
          · exact hb.2.2 q h hgq
          · rw [List.mem_singleton] at h
            rw [h] at hgq
            rw [show gd f (atQ xs 0) = false from hg] at hgq
            cases hgq
      exact hb2.perm hp
theorem act_best (f : ByteArray) (hf : f.size = 768) : ∃ o, choose_Active.f f = some (vals o) ∧ Best f (recsTo f 8) o := by
  have hl := recsTo_length f 8
  have hm : ∀ q ∈ recsTo f 8, recMayB q.f1.f0 q.f1.f1 q.f1.f2 q.f1.f3 = true := by
    intro q hq
    obtain ⟨k, _, h⟩ := (mem_recs f q 8).1 hq
    exact entAt_may h
  have hp := initL_perm (recsTo f 8).length ((recsTo f 8).length / 2) (recsTo f 8) (Nat.le_refl _)
  have hh := initL_heap (recsTo f 8).length hl ((recsTo f 8).length / 2) (recsTo f 8) (Nat.le_refl _) (fun i j hi hj hc => by omega)
  obtain ⟨o, ho, hb⟩ := actL_best f hf _ _ (initL_length _ _ _) hl hh (fun q hq => hm q (hp.mem_iff.1 hq))
  refine ⟨o, ?_, hb.perm hp⟩
  unfold choose_Active.f
  rw [scan_f f 64 (by omega) hf]
  simp only [Option.bind_some, if_true]
  rw [if_pos hl]
  exact ho
theorem Best.one {f : ByteArray} {o o' : Option SPl} (h : Best f (recsTo f 8) o) (h' : Best f (recsTo f 8) o') : o = o' := by
  cases o with
  | none =>
    cases o' with
    | none => rfl
    | some p => exact absurd (h'.2.1.symm.trans (h p h'.1)) (by decide)
  | some p =>
    cases o' with
    | none => exact absurd (h.2.1.symm.trans (h' p h.1)) (by decide)
    | some q =>
      have h1 := h.2.2 q h'.1 h'.2.1
      have h2 := h'.2.2 p h.1 h.2.1
      obtain ⟨i, hi, hpi⟩ := (mem_recs f p 8).1 h.1
      obtain ⟨j, hj, hqj⟩ := (mem_recs f q 8).1 h'.1
      have e1 := entAt_at hpi
      have e2 := entAt_at hqj
      have hij : i = j := by unfold leP at h1 h2; omega
      subst hij
      rw [hpi] at hqj
      exact hqj
theorem rdT (xs : List SPl) (i : Nat) (h : i < xs.length) : rd_T38 xs i = xs[i] := by simp [rd_T38, List.getD_eq_getElem?_getD, h]
theorem actR_l (f : ByteArray) (hf : f.size = 768) (xs : List SPl) (hx : xs.length ≤ 8) (hm : ∀ q ∈ xs, recMayB q.f1.f0 q.f1.f1 q.f1.f2 q.f1.f3 = true) (hr : ∀ i j, (hi : i < j) → (hj : j < xs.length) → xs[i].f0 < xs[j].f0) :
    ∀ (d i k : Nat) (b : Int) (o : Option SPl), i + d = xs.length → d + 2890 ≤ k → Best f (xs.take i) o → (match o with
      | none => b = -1
      | some p => ∃ m, ∃ hm : m < xs.length, m < i ∧ b = (m : Int) ∧ p = xs[m]) → ∃ o', skiffref1_Active.l0 k f xs b i = some (vals o') ∧ Best f xs o'
  | 0, i, k, b, o, hi, hk, hb, ho => by
    obtain ⟨k, rfl⟩ : ∃ m, k = m + 1 := ⟨k - 1, by omega⟩
    obtain rfl : i = xs.length := by omega
    rw [List.take_of_length_le (Nat.le_refl _)] at hb
    rw [skiffref1_Active.l0, if_neg (by omega)]
    cases o with
    | none =>
      simp only at ho
      subst ho
      exact ⟨none, rfl, hb⟩
    | some p =>
      simp only at ho
      obtain ⟨m, hml, hmi, rfl, rfl⟩ := ho
      rw [if_neg (by omega), if_pos (by omega), if_pos (by omega), rdT xs m hml]
      exact ⟨some xs[m], rfl, hb⟩
  | d + 1, i, k, b, o, hi, hk, hb, ho => by
    obtain ⟨k, rfl⟩ : ∃ m, k = m + 1 := ⟨k - 1, by omega⟩
    have hil : i < xs.length := by omega
    have e2 : wrap64 ((i : Int) + 1) = ((i + 1 : Nat) : Int) := by rw [w64 (by omega) (by omega)]; rfl
    have hmem : xs[i] ∈ xs := List.getElem_mem hil
    rw [skiffref1_Active.l0, if_pos (by omega), if_pos (by omega), rdT xs i hil, goodR_f f k _ _ _ _ (by omega) hf (hm _ hmem), e2]
    simp only [Option.bind_some]
    have htake : xs.take (i + 1) = xs.take i ++ [xs[i]] := List.take_succ_eq_append_getElem hil
    have hmemt : ∀ q ∈ xs.take i, q.f0 < xs[i].f0 := by
      intro q hq
      obtain ⟨j, hj, rfl⟩ := List.mem_iff_getElem.1 hq
      rw [List.length_take] at hj
      rw [List.getElem_take]
      exact hr j i (by omega) hil
    have hnew : ∀ (o1 : Option SPl), Best f (xs.take i) o1 → (∀ p, o1 = some p → p.f1.f0 ≤ xs[i].f1.f0) → gd f xs[i] = true → Best f (xs.take (i + 1)) (some xs[i]) := by
      intro o1 h1 h2 h3
      rw [htake]
      refine ⟨List.mem_append_right _ (List.mem_singleton.2 rfl), h3, fun q hq hgq => ?_⟩
      rcases List.mem_append.1 hq with h | h
      · cases o1 with
        | none => exact absurd (hgq.symm.trans (h1 q h)) (by decide)
        | some p =>
          have h4 := h1.2.2 q h hgq
          have h5 := h2 p rfl
          have h6 := hmemt q h
          unfold leP at h4 ⊢
          omega
      · rw [List.mem_singleton] at h
        rw [h]
        exact leP_refl _
    have hold : ∀ (o1 : Option SPl), Best f (xs.take i) o1 → (gd f xs[i] = true → ∃ p, o1 = some p ∧ xs[i].f1.f0 < p.f1.f0) → Best f (xs.take (i + 1)) o1 := by
      intro o1 h1 h2
      rw [htake]
      cases o1 with
      | none =>
        intro q hq
        rcases List.mem_append.1 hq with h | h
        · exact h1 q h
        · rw [List.mem_singleton] at h
          rw [h]
          cases hg : gd f xs[i]
          · rfl
          · obtain ⟨p, hp, _⟩ := h2 hg
            cases hp
      | some p =>
        refine ⟨List.mem_append_left _ h1.1, h1.2.1, fun q hq hgq => ?_⟩
        rcases List.mem_append.1 hq with h | h
        · exact h1.2.2 q h hgq
        · rw [List.mem_singleton] at h
          rw [h] at hgq ⊢
          obtain ⟨p', hp, hlt⟩ := h2 hgq
          injection hp with hp
          subst hp
          exact .inl hlt
    have next := fun b' o' h1 h2 => actR_l f hf xs hx hm hr d (i + 1) k b' o' (by omega) (by omega) h1 h2
    cases hg : goodB f xs[i].f1.f1 xs[i].f1.f2 xs[i].f1.f3 with
    | false =>
      rw [if_neg (by decide)]
      refine next b o (hold o hb (fun h => absurd (h.symm.trans hg) (by decide))) ?_
      cases o with
      | none => exact ho
      | some p => obtain ⟨m, h1, h2, h3, h4⟩ := ho; exact ⟨m, h1, by omega, h3, h4⟩
    | true =>
      rw [if_pos rfl]
      cases o with
      | none =>
        simp only at ho
        subst ho
        rw [if_pos (by omega)]
        exact next (i : Int) (some xs[i]) (hnew none hb (fun p hp => by cases hp) hg) ⟨i, hil, by omega, rfl, rfl⟩
      | some p =>
        obtain ⟨m, h1, h2, rfl, rfl⟩ := ho
        rw [if_neg (by omega), if_pos (by omega), if_pos (by omega), rdT xs m h1]
        by_cases hge : xs[i].f1.f0 ≥ xs[m].f1.f0
        · rw [if_pos hge]
          exact next (i : Int) (some xs[i]) (hnew _ hb (fun p hp => by injection hp with hp; subst hp; exact hge) hg) ⟨i, hil, by omega, rfl, rfl⟩
        · rw [if_neg hge]
          exact next (m : Int) (some xs[m]) (hold _ hb (fun _ => ⟨xs[m], rfl, by omega⟩)) ⟨m, h1, by omega, rfl, rfl⟩
theorem recs_rise (f : ByteArray) : ∀ n, List.Pairwise (fun a b : SPl => a.f0 < b.f0) (recsTo f n)
  | 0 => List.Pairwise.nil
  | n + 1 => by
    rw [recsTo, List.pairwise_append]
    refine ⟨recs_rise f n, ?_, fun a ha b hb => ?_⟩
    · cases entAt f n <;> simp
    · obtain ⟨k, hk, h⟩ := (mem_recs f a n).1 ha
      rw [Option.mem_toList] at hb
      rw [entAt_at h, entAt_at hb]
      omega
theorem actR_best (f : ByteArray) (k : Nat) (hk : 3000 ≤ k) (hf : f.size = 768) : ∃ o, skiffref1_Active.f k f = some (vals o) ∧ Best f (recsTo f 8) o := by
  have hl := recsTo_length f 8
  have hm : ∀ q ∈ recsTo f 8, recMayB q.f1.f0 q.f1.f1 q.f1.f2 q.f1.f3 = true := by
    intro q hq
    obtain ⟨k, _, h⟩ := (mem_recs f q 8).1 hq
    exact entAt_may h
  have hr := List.pairwise_iff_getElem.1 (recs_rise f 8)
  obtain ⟨o, ho, hb⟩ := actR_l f hf (recsTo f 8) hl hm (fun i j hi hj => hr i j (by omega) hj hi) (recsTo f 8).length 0 k (-1) none (by omega) (by omega) (fun q hq => by simp at hq) rfl
  refine ⟨o, ?_, hb⟩
  unfold skiffref1_Active.f
  rw [scanR_f f k (by omega) hf]
  simp only [Option.bind_some, if_true]
  exact ho
noncomputable def actO (f : ByteArray) : Option SPl := if h : f.size = 768 then (act_best f h).choose else none
theorem actO_best (f : ByteArray) (hf : f.size = 768) : Best f (recsTo f 8) (actO f) := by
  rw [actO, dif_pos hf]
  exact (act_best f hf).choose_spec.2
theorem actO_of {f : ByteArray} (hf : f.size = 768) {o : Option SPl} (h : Best f (recsTo f 8) o) : actO f = o := (actO_best f hf).one h
theorem act_f (f : ByteArray) (hf : f.size = 768) : choose_Active.f f = some (vals (actO f)) := by
  rw [actO, dif_pos hf]
  exact (act_best f hf).choose_spec.1
theorem actR_f (f : ByteArray) (k : Nat) (hk : 3000 ≤ k) (hf : f.size = 768) : skiffref1_Active.f k f = some (vals (actO f)) := by
  obtain ⟨o, ho, hb⟩ := actR_best f k hk hf
  rw [actO_of hf hb]
  exact ho
theorem actO_may {f : ByteArray} (hf : f.size = 768) {p : SPl} (h : actO f = some p) : recMayB p.f1.f0 p.f1.f1 p.f1.f2 p.f1.f3 = true ∧ gd f p = true ∧ ∃ k, k < 8 ∧ entAt f k = some p := by
  have hb := actO_best f hf
  rw [h] at hb
  obtain ⟨k, hk, he⟩ := (mem_recs f p 8).1 hb.1
  exact ⟨entAt_may he, hb.2.1, k, hk, he⟩
end Go.Proofs.Ytaibkfgpdgabaaa.P
end
