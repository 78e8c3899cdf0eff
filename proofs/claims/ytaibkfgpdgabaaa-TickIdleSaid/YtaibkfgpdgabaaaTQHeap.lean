/- A part of the proof of T: what its last text uses; conditions: see there. -/
import Derived.Test.YtaibkfgpdgabaaaTHHeap3
section
namespace Go.Proofs.Ytaibkfgpdgabaaa.P
open Go.RowKit Go.Proofs.YtaibkfgpdgabaaaW.PrintWords Go.Proofs.YtaibkfgpdgabaaaW.PrintLast Go.Proofs.YtaibkfgpdgabaaaW.PrintMore
set_option linter.unusedVariables false
set_option linter.unusedSimpArgs false
def leP (a b : SPl) : Prop := b.f1.f0 < a.f1.f0 ∨ (b.f1.f0 = a.f1.f0 ∧ b.f0 ≤ a.f0)
theorem lessP_true {a b : SPl} (h : lessP a b = true) : leP a b := by
  unfold lessP at h
  unfold leP
  split at h <;> simp only [decide_eq_true_eq] at h <;> omega
theorem lessP_false {a b : SPl} (h : lessP a b = false) : leP b a := by
  unfold lessP at h
  unfold leP
  split at h <;> simp only [decide_eq_false_iff_not] at h <;> omega
theorem leP_refl (a : SPl) : leP a a := .inr ⟨rfl, Int.le_refl _⟩
theorem leP_trans {a b c : SPl} (h : leP a b) (k : leP b c) : leP a c := by unfold leP at *; omega
def HeapQ (k n : Nat) (xs : List SPl) : Prop := ∀ i j, k ≤ i → j < n → (j = 2 * i + 1 ∨ j = 2 * i + 2) → leP (atQ xs i) (atQ xs j)
theorem atQ_swap (xs : List SPl) (i j k : Nat) (hi : i < xs.length) (hj : j < xs.length) : atQ (swapQ xs i j) k = if k = j then atQ xs i else if k = i then atQ xs j else atQ xs k := by
  unfold swapQ
  by_cases h1 : k = j
  · subst h1
    rw [if_pos rfl]
    simp [atQ, List.getD_eq_getElem?_getD, hj]
  · rw [if_neg h1]
    by_cases h2 : k = i
    · subst h2
      rw [if_pos rfl, atQ, List.getD_eq_getElem?_getD, List.getElem?_set_ne (Ne.symm h1), List.getElem?_set_self hi]
      rfl
    · rw [if_neg h2]
      simp [atQ, List.getD_eq_getElem?_getD, List.getElem?_set_ne (Ne.symm h1), List.getElem?_set_ne (Ne.symm h2)]
theorem swapQ_perm (xs : List SPl) (i j : Nat) (hi : i < xs.length) (hj : j < xs.length) : (swapQ xs i j).Perm xs := by
  have h := @List.set_set_perm _ xs i j hi hj
  have e1 : atQ xs i = xs[i] := by simp [atQ, List.getD_eq_getElem?_getD, hi]
  have e2 : atQ xs j = xs[j] := by simp [atQ, List.getD_eq_getElem?_getD, hj]
  rw [swapQ, e1, e2]
  exact h
theorem childQ_lt (xs : List SPl) (i n : Nat) (h : 2 * i + 1 < n) : childQ xs i n < n ∧ i < childQ xs i n ∧ (childQ xs i n = 2 * i + 1 ∨ childQ xs i n = 2 * i + 2) := by
  unfold childQ
  split <;> omega
theorem childQ_best (xs : List SPl) (i n j : Nat) (hj : j < n) (hc : j = 2 * i + 1 ∨ j = 2 * i + 2) : leP (atQ xs (childQ xs i n)) (atQ xs j) := by
  unfold childQ
  split
  · rename_i h
    rcases hc with rfl | rfl
    · exact lessP_true h.2
    · exact leP_refl _
  · rename_i h
    rcases hc with rfl | rfl
    · exact leP_refl _
    · refine lessP_false ?_
      cases hb : lessP (atQ xs (2 * i + 2)) (atQ xs (2 * i + 1))
      · rfl
      · exact absurd ⟨hj, hb⟩ h
theorem downL_perm (n : Nat) : ∀ (k : Nat) (xs : List SPl) (i : Nat), n ≤ xs.length → (downL n k xs i).Perm xs
  | 0, _, _, _ => List.Perm.refl _
  | k + 1, xs, i, hn => by
    rw [downL]
    split
    · rename_i h
      obtain ⟨h1, h2, _⟩ := childQ_lt xs i n h
      split
      · exact (downL_perm n k _ _ (by rw [swapQ_length]; exact hn)).trans (swapQ_perm xs i _ (by omega) (by omega))
      · exact List.Perm.refl _
    · exact List.Perm.refl _
theorem downL_above (n : Nat) : ∀ (k : Nat) (xs : List SPl) (i j : Nat), n ≤ xs.length → n ≤ j → atQ (downL n k xs i) j = atQ xs j
  | 0, _, _, _, _, _ => rfl
  | k + 1, xs, i, j, hn, hj => by
    rw [downL]
    split
    · rename_i h
      obtain ⟨h1, h2, _⟩ := childQ_lt xs i n h
      split
      · rw [downL_above n k _ _ j (by rw [swapQ_length]; exact hn) hj, atQ_swap xs i _ j (by omega) (by omega), if_neg (by omega), if_neg (by omega)]
      · rfl
    · rfl
theorem downL_heap (k n : Nat) : ∀ (d : Nat) (xs : List SPl) (i : Nat), n ≤ i + d → n ≤ xs.length → k ≤ i →
    (∀ p j, k ≤ p → p ≠ i → j < n → (j = 2 * p + 1 ∨ j = 2 * p + 2) → leP (atQ xs p) (atQ xs j)) →
    (∀ p j, k ≤ p → (i = 2 * p + 1 ∨ i = 2 * p + 2) → j < n → (j = 2 * i + 1 ∨ j = 2 * i + 2) → leP (atQ xs p) (atQ xs j)) → HeapQ k n (downL n d xs i)
  | 0, xs, i, hd, hn, hk, hA, hB => by
    intro p j h1 h2 h3
    rw [downL]
    exact hA p j h1 (by omega) h2 h3
  | d + 1, xs, i, hd, hn, hk, hA, hB => by
    rw [downL]
    split
    · rename_i h
      obtain ⟨h1, h2, h3⟩ := childQ_lt xs i n h
      have hbest := childQ_best xs i n
      generalize childQ xs i n = c at *
      split
      · rename_i hl
        have hs := fun k => atQ_swap xs i c k (by omega) (by omega)
        refine downL_heap k n d _ c (by omega) (by rw [swapQ_length]; exact hn) (by omega) (fun p j hp hpc hj hc => ?_) (fun p j hp hpc hj hc => ?_)
        · rw [hs p, hs j]
          by_cases hpi : p = i
          · subst hpi
            rw [if_neg hpc, if_pos rfl]
            by_cases hjc : j = c
            · rw [if_pos hjc]; exact lessP_true hl
            · rw [if_neg hjc, if_neg (by omega)]; exact hbest j hj hc
          · rw [if_neg hpc, if_neg hpi, if_neg (by omega)]
            by_cases hji : j = i
            · rw [if_pos hji]
              exact hB p c hp (by omega) h1 h3
            · rw [if_neg hji]
              exact hA p j hp hpi hj hc
        · have hpi : p = i := by omega
          subst hpi
          rw [hs p, hs j, if_neg (by omega), if_pos rfl, if_neg (by omega), if_neg (by omega)]
          exact hA c j (by omega) (by omega) hj hc
      · rename_i hl
        intro p j hp hj hc
        by_cases hpi : p = i
        · subst hpi
          have h5 : leP (atQ xs p) (atQ xs c) := lessP_false (by cases hb : lessP (atQ xs c) (atQ xs p) <;> simp_all)
          exact leP_trans h5 (hbest j hj hc)
        · exact hA p j hp hpi hj hc
    · rename_i h
      intro p j hp hj hc
      exact hA p j hp (by omega) hj hc
theorem initL_perm (n : Nat) : ∀ (k : Nat) (xs : List SPl), n ≤ xs.length → (initL n k xs).Perm xs
  | 0, _, _ => List.Perm.refl _
  | k + 1, xs, hn => by
    rw [initL]
    exact (initL_perm n k _ (by rw [downL_length]; exact hn)).trans (downL_perm n 8 xs k hn)
theorem initL_heap (n : Nat) (h8 : n ≤ 8) : ∀ (k : Nat) (xs : List SPl), n ≤ xs.length → HeapQ k n xs → HeapQ 0 n (initL n k xs)
  | 0, xs, _, h => h
  | k + 1, xs, hn, h => by
    rw [initL]
    refine initL_heap n h8 k _ (by rw [downL_length]; exact hn) (downL_heap k n 8 xs k (by omega) hn (Nat.le_refl _) (fun p j hp hpk hj hc => h p j (by omega) hj hc) (fun p j hp hpk hj hc => by omega))
theorem heap_first (n : Nat) (xs : List SPl) (h : HeapQ 0 n xs) : ∀ j, j < n → leP (atQ xs 0) (atQ xs j) := by
  intro j
  induction j using Nat.strongRecOn with
  | ind j ih =>
    intro hj
    by_cases h0 : j = 0
    · subst h0; exact leP_refl _
    · exact leP_trans (ih ((j - 1) / 2) (by omega) (by omega)) (h ((j - 1) / 2) j (Nat.zero_le _) hj (by omega))
theorem popL_first (n : Nat) (xs : List SPl) (hn : xs.length = n + 1) (h8 : n + 1 ≤ 8) (h : HeapQ 0 (n + 1) xs) :
    atQ (popL n xs) n = atQ xs 0 ∧ HeapQ 0 n ((popL n xs).take n) ∧ ((popL n xs).take n ++ [atQ xs 0]).Perm xs ∧ ((popL n xs).take n).length = n := by
  have hl : (popL n xs).length = n + 1 := by rw [popL_length, hn]
  have hp : (popL n xs).Perm xs := by
    unfold popL
    refine (downL_perm n 8 _ 0 ?_).trans ?_
    · split
      · omega
      · rw [swapQ_length]; omega
    · split
      · exact List.Perm.refl _
      · exact swapQ_perm xs 0 n (by omega) (by omega)
  have ha : atQ (popL n xs) n = atQ xs 0 := by
    unfold popL
    rw [downL_above n 8 _ 0 n (by split <;> (try rw [swapQ_length]) <;> omega) (Nat.le_refl _)]
    split
    · rename_i h0; rw [h0]
    · rw [atQ_swap xs 0 n n (by omega) (by omega), if_pos rfl]
  have hh : HeapQ 0 n (popL n xs) := by
    unfold popL
    split
    · rename_i h0
      intro i j _ hj _
      omega
    · refine downL_heap 0 n 8 _ 0 (by omega) (by rw [swapQ_length]; omega) (Nat.le_refl _) (fun p j hp hp0 hj hc => ?_) (fun p j hp hp0 hj hc => by omega)
      rw [atQ_swap xs 0 n p (by omega) (by omega), atQ_swap xs 0 n j (by omega) (by omega), if_neg (by omega), if_neg hp0, if_neg (by omega), if_neg (by omega)]
      exact h p j (Nat.zero_le _) (by omega) hc
  refine ⟨ha, fun i j hi hj hc => ?_, ?_, by rw [List.length_take, hl]; omega⟩
  · have e : ∀ m, m < n → atQ ((popL n xs).take n) m = atQ (popL n xs) m := fun m hm => by simp [atQ, List.getD_eq_getElem?_getD, List.getElem?_take_of_lt hm]
    rw [e i (by omega), e j hj]
    exact hh i j hi hj hc
  · have e : (popL n xs).take n ++ [atQ xs 0] = popL n xs := by
      rw [← ha]
      conv => rhs; rw [← List.take_append_drop n (popL n xs)]
      congr 1
      rw [List.drop_eq_getElem_cons (by omega), List.drop_of_length_le (by omega)]
      simp [atQ, List.getD_eq_getElem?_getD, hl]
    rw [e]
    exact hp
end Go.Proofs.Ytaibkfgpdgabaaa.P
end
