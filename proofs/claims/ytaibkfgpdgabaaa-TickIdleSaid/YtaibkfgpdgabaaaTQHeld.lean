/- A part of the proof of T: what its last text uses; conditions: see there. -/
import Derived.Test.YtaibkfgpdgabaaaTQCommit
import Derived.Test.YtaibkfgpdgabaaaTP2x0
section
namespace Go.Proofs.Ytaibkfgpdgabaaa.P
open Go.RowKit Go.Proofs.YtaibkfgpdgabaaaW.PrintWords Go.Proofs.YtaibkfgpdgabaaaW.PrintLast Go.Proofs.YtaibkfgpdgabaaaW.PrintMore
set_option linter.unusedVariables false
set_option linter.unusedSimpArgs false
theorem rdO (xs : List SOp) (i : Nat) (h : i < xs.length) : rd_T59 xs i = xs[i] := by simp [rd_T59, List.getD_eq_getElem?_getD, h]
theorem doAll_step (f : ByteArray) (l : List SOp) (i : Nat) (h : i < l.length) : doAll (doB f l[i].f0 l[i].f1 l[i].f2 96) (l.drop (i + 1)) = doAll f (l.drop i) := by
  rw [List.drop_eq_getElem_cons h]
  rfl
theorem held_l1 (l : List SOp) (hl : l.length ≤ 100) (ho : OkAll l) : ∀ (d i k : Nat) (x : ByteArray), i + d = l.length → d + 3 ≤ k → x.size = 768 → skifflaw20_held.l1 k x l i = some (doAll x (l.drop i))
  | 0, i, k, x, hi, hk, hx => by
    obtain ⟨k, rfl⟩ : ∃ m, k = m + 1 := ⟨k - 1, by omega⟩
    rw [skifflaw20_held.l1, if_neg (by omega), List.drop_of_length_le (by omega)]
    rfl
  | d + 1, i, k, x, hi, hk, hx => by
    obtain ⟨k, rfl⟩ : ∃ m, k = m + 1 := ⟨k - 1, by omega⟩
    have e2 : wrap64 ((i : Int) + 1) = ((i + 1 : Nat) : Int) := by rw [w64 (by omega) (by omega)]; rfl
    have hoi := ho l[i] (List.getElem_mem (by omega))
    rw [skifflaw20_held.l1, if_pos (by omega), if_pos (by omega), rdO l i (by omega), doR_f x _ _ _ k (by omega) hx hoi, Option.bind_some, e2, held_l1 l hl ho d (i + 1) k _ (by omega) (by omega) (doB_size _ _ _ _ _ hx hoi (by omega)), doAll_step]
def ab12 : ByteArray := ⟨#[97, 98, 97, 98, 97, 98, 97, 98, 97, 98, 97, 98]⟩
def held0 : ByteArray := putAt (ffB 768) 192 ab12
noncomputable def heldS : ByteArray := entB 1 0 12 ((crcOf ab12 : Nat) : Int)
noncomputable def heldB : ByteArray := doAll held0 (appOps held0 heldS)
theorem ab_size : ab12.size = 12 := rfl
theorem held0_size : held0.size = 768 := by rw [held0, put_size _ _ _ (by rw [ab_size, ffB_size]; omega), ffB_size]
theorem held0_img : imgB held0 0 12 = ab12 := by
  have h := ext_put_same (ffB 768) 192 ab12 (by rw [ab_size, ffB_size]; omega)
  rw [ab_size] at h
  exact h
theorem held0_recs : recsTo held0 8 = [] := no_recs held0_size (fun k hk => by
  rw [held0, ext_put_off _ _ _ _ _ (by rw [ab_size, ffB_size]; omega) (.inl (by omega)), ff_ext _ _ _ (by omega)]
  congr 1
  omega)
theorem held_may : recMayB 1 0 12 ((crcOf ab12 : Nat) : Int) = true := by
  have := crcOf_lt ab12
  simp only [recMayB, Bool.and_eq_true, decide_eq_true_eq]
  omega
theorem held_good : goodB held0 0 12 ((crcOf ab12 : Nat) : Int) = true := by
  rw [goodB, held0_img]
  exact beq_self_eq_true _
theorem held_done : OkAll (appOps held0 heldS) ∧ heldB.size = 768 ∧ (∃ k : Nat, k < 8 ∧ actO heldB = some ⟨24 * k, ⟨1, 0, 12, ((crcOf ab12 : Nat) : Int)⟩⟩ ∧ heldB.extract (24 * k) (24 * k + 24) = heldS) ∧
    (∀ i j, 192 ≤ i → heldB.extract i j = held0.extract i j) ∧ (∀ p ∈ recsTo heldB 8, p.f1.f0 ≤ 1) ∧ (appOps held0 heldS).length ≤ 7 ∧ 1 ≤ (appOps held0 heldS).length := append_done held0 1 0 12 ((crcOf ab12 : Nat) : Int) held0_size held_may held_good (fun p hp => by rw [held0_recs] at hp; cases hp)
theorem held_size : heldB.size = 768 := held_done.2.1
theorem held_act : ∃ k : Nat, k < 8 ∧ actO heldB = some ⟨24 * k, ⟨1, 0, 12, ((crcOf ab12 : Nat) : Int)⟩⟩ := by
  obtain ⟨k, hk, h, _⟩ := held_done.2.2.1
  exact ⟨k, hk, h⟩
theorem held_img : imgB heldB 0 12 = ab12 := (imgB_same (by omega) held_done.2.2.2.1).trans held0_img
theorem pad_whole (t : ByteArray) (h : t.size % 4 = 0) : padB t = t := by
  unfold padB
  rw [h]
  refine lst_inj ?_
  rw [lst_app, lst_ff]
  simp
theorem held_f (k : Nat) (hk : 4000 ≤ k) : skifflaw20_held.f k = some heldB := by
  have hw : skiffref1_Words.f 192 ab12 = some (wordsL ((192 : Nat) : Int) ab12 3, 0) := by
    rw [skiffref1_Words.f, if_pos (by simp only [wordsMayB, Bool.and_eq_true, decide_eq_true_eq, ab_size]; decide), pad_whole _ (by rw [ab_size]), ab_size]
    rfl
  have hwo : OkAll (wordsL ((192 : Nat) : Int) ab12 3) := words_ok 192 3 ab12 (by omega) (by omega) (by rw [ab_size]; omega)
  have hwd : doAll (ffB 768) (wordsL ((192 : Nat) : Int) ab12 3) = held0 := by
    rw [words_done (ffB 768) 192 3 ab12 (ffB_size _) (by omega) (by omega) (by rw [ab_size]; omega) (by rw [ff_ext _ _ _ (by omega)]), ext_all _ _ (by rw [ab_size]; omega)]
    rfl
  have hend : ∀ k, 3900 ≤ k → skifflaw20_held.l0 k held0 (wordsL ((192 : Nat) : Int) ab12 3) ((3 : Nat) : Int) = some heldB := by
    intro k hk
    obtain ⟨k, rfl⟩ : ∃ m, k = m + 1 := ⟨k - 1, by omega⟩
    have hl := held_done.2.2.2.2.2.1
    rw [skifflaw20_held.l0, if_neg (by rw [wordsL_length]; omega), recOf_f held0 k 0 12 (by omega) held0_size (by omega) (by omega), held0_recs, if_neg (by decide), Option.bind_some, held0_img]
    have ha := appR_f held0 k 1 0 12 ((crcOf ab12 : Nat) : Int) (by omega) held0_size held_may
    have h1 := held_l1 (appOps held0 heldS) (Nat.le_trans hl (by omega)) held_done.1 _ 0 k held0 (Nat.zero_add _) (by omega) held0_size
    rw [List.drop_zero] at h1
    unfold heldB heldS
    unfold heldS at h1
    have e0 : ((0 : Nat) : Int) = 0 := rfl
    rw [e0] at h1
    rw [show topSeq [] + 1 = 1 from rfl, ha, Option.bind_some]
    dsimp only
    exact h1
  have hl0 : ∀ (d i k : Nat) (x : ByteArray), i + d = 3 → 3900 + d ≤ k → x.size = 768 → doAll x ((wordsL ((192 : Nat) : Int) ab12 3).drop i) = held0 → skifflaw20_held.l0 k x (wordsL ((192 : Nat) : Int) ab12 3) i = some heldB := by
    intro d
    induction d with
    | zero =>
      intro i k x hi hk hx hd
      obtain rfl : i = 3 := by omega
      rw [List.drop_of_length_le (by rw [wordsL_length]; omega)] at hd
      rw [show x = held0 from hd]
      exact hend k (by omega)
    | succ d ih =>
      intro i k x hi hk hx hd
      obtain ⟨k, rfl⟩ : ∃ m, k = m + 1 := ⟨k - 1, by omega⟩
      have hlen : i < (wordsL ((192 : Nat) : Int) ab12 3).length := by rw [wordsL_length]; omega
      have e2 : wrap64 ((i : Int) + 1) = ((i + 1 : Nat) : Int) := by rw [w64 (by omega) (by omega)]; rfl
      have hoi := hwo _ (List.getElem_mem hlen)
      rw [skifflaw20_held.l0, if_pos (by omega), if_pos (by omega), rdO _ i hlen, doR_f x _ _ _ k (by omega) hx hoi, Option.bind_some, e2]
      exact ih (i + 1) k _ (by omega) (by omega) (doB_size _ _ _ _ _ hx hoi (by omega)) (by rw [doAll_step]; exact hd)
  rw [skifflaw20_held.f, blank_f k (by omega), Option.bind_some]
  show (skiffref1_Words.f 192 ab12).bind _ = _
  rw [hw, Option.bind_some]
  exact hl0 3 0 k (ffB 768) (by omega) (by omega) (ffB_size _) hwd
end Go.Proofs.Ytaibkfgpdgabaaa.P
end
