/- A part of the proof of T: what its last text uses; conditions: see there. -/
import Derived.Test.YtaibkfgpdgabaaaTQActive
import Derived.Test.YtaibkfgpdgabaaaTQDo
import Derived.Test.YtaibkfgpdgabaaaTP2x0
import Derived.Test.YtaibkfgpdgabaaaTP1x0
section
namespace Go.Proofs.Ytaibkfgpdgabaaa.P
open Go.RowKit Go.Proofs.YtaibkfgpdgabaaaW.PrintWords Go.Proofs.YtaibkfgpdgabaaaW.PrintLast Go.Proofs.YtaibkfgpdgabaaaW.PrintMore
set_option linter.unusedVariables false
set_option linter.unusedSimpArgs false
abbrev SOp := S59
def doAll (f : ByteArray) (l : List SOp) : ByteArray := l.foldl (fun f o => doB f o.f0 o.f1 o.f2 96) f
def OkAll (l : List SOp) : Prop := ∀ o ∈ l, OpOk o.f0 o.f1 o.f2
theorem doAll_app (f : ByteArray) (l m : List SOp) : doAll f (l ++ m) = doAll (doAll f l) m := by rw [doAll, List.foldl_append]; rfl
theorem words_ok (a n : Nat) (t : ByteArray) (ha : a % 4 = 0) (h : a + 4 * n ≤ 768) (ht : 4 * n ≤ t.size) : OkAll (wordsL a t n) := by
  induction n with
  | zero => intro o ho; cases ho
  | succ n ih =>
    intro o ho
    rw [wordsL, List.mem_append, List.mem_singleton] at ho
    rcases ho with ho | rfl
    · exact ih (by omega) (by omega) o ho
    · show OpOk false ((a : Int) + 4 * (n : Int)) (t.extract (4 * n) (4 * n + 4))
      rw [OpOk, if_neg (by decide), ext_size]
      omega
theorem ext_app (t : ByteArray) (a b c : Nat) (h : a ≤ b) (h2 : b ≤ c) (h3 : b ≤ t.size) : t.extract a b ++ t.extract b c = t.extract a c := by
  refine bytes_ext fun i => ?_
  rw [lst_app, get_ext]
  have e1 : (lst (t.extract a b)).length = b - a := by rw [lst_len, ext_size]; omega
  by_cases h0 : i < b - a
  · rw [List.getElem?_append_left (by omega), get_ext, if_pos h0, if_pos (by omega)]
  · rw [List.getElem?_append_right (by omega), e1, get_ext]
    by_cases h1 : i < c - a
    · rw [if_pos (by omega), if_pos h1]
      congr 1
      omega
    · rw [if_neg (by omega), if_neg h1]
theorem ff_ext (n a b : Nat) (h : b ≤ n) : (ffB n).extract a b = ffB (b - a) := by
  refine bytes_ext fun i => ?_
  rw [get_ext, lst_ff, lst_ff, List.getElem?_replicate, List.getElem?_replicate]
  by_cases h0 : i < b - a
  · rw [if_pos h0, if_pos (by omega), if_pos h0]
  · rw [if_neg h0, if_neg h0]
theorem words_done (f : ByteArray) (a n : Nat) (t : ByteArray) (hf : f.size = 768) (ha : a % 4 = 0) (h : a + 4 * n ≤ 768) (ht : 4 * n ≤ t.size) (hb : f.extract a (a + 4 * n) = ffB (4 * n)) : doAll f (wordsL a t n) = putAt f a (t.extract 0 (4 * n)) := by
  induction n with
  | zero =>
    rw [show wordsL a t 0 = [] from rfl, put_nil _ _ _ (by rw [ext_size]; omega) (by omega)]
    rfl
  | succ n ih =>
    have hb1 : f.extract a (a + 4 * n) = ffB (4 * n) := by
      have := ff_ext (4 * (n + 1)) 0 (4 * n) (by omega)
      rw [← hb, ext_ext _ _ _ _ _ (by omega), Nat.add_zero, Nat.sub_zero] at this
      exact this
    have hb2 : f.extract (a + 4 * n) (a + 4 * n + 4) = ffB 4 := by
      have := ff_ext (4 * (n + 1)) (4 * n) (4 * n + 4) (by omega)
      rw [← hb, ext_ext _ _ _ _ _ (by omega), show 4 * n + 4 - 4 * n = 4 by omega, ← Nat.add_assoc] at this
      exact this
    have ih := ih (by omega) (by omega) hb1
    have hs : (t.extract 0 (4 * n)).size = 4 * n := by rw [ext_size]; omega
    have hs2 : (t.extract (4 * n) (4 * n + 4)).size = 4 := by rw [ext_size]; omega
    rw [wordsL, doAll_app, ih]
    show doB (putAt f a (t.extract 0 (4 * n))) false ((a : Int) + 4 * (n : Int)) (t.extract (4 * n) (4 * n + 4)) 96 = _
    have e : (((a : Nat) : Int) + 4 * ((n : Nat) : Int)).toNat = a + 4 * n := by omega
    rw [do_word _ _ _ (by rw [put_size _ _ _ (by omega), hf]) (by rw [OpOk, if_neg (by decide)]; omega) (by rw [e, ext_put_off _ _ _ _ _ (by omega) (.inr (by omega)), hb2]), e]
    have := put_join f a (t.extract 0 (4 * n)) (t.extract (4 * n) (4 * n + 4)) (by omega)
    rw [hs, ext_app t 0 (4 * n) (4 * n + 4) (by omega) (by omega) (by omega)] at this
    rw [this, show 4 * (n + 1) = 4 * n + 4 by omega]
def topSeq (l : List SPl) : Int := l.foldl (fun x p => mx x p.f1.f0) 0
theorem mx_l (a b : Int) : a ≤ mx a b ∧ b ≤ mx a b ∧ (mx a b = a ∨ mx a b = b) := by unfold mx; split <;> omega
theorem fold_mx (l : List SPl) : ∀ x : Int, x ≤ l.foldl (fun x p => mx x p.f1.f0) x ∧ (∀ p ∈ l, p.f1.f0 ≤ l.foldl (fun x p => mx x p.f1.f0) x) ∧ (l.foldl (fun x p => mx x p.f1.f0) x = x ∨ ∃ p ∈ l, l.foldl (fun x p => mx x p.f1.f0) x = p.f1.f0) := by
  induction l with
  | nil => intro x; exact ⟨Int.le_refl _, (fun p hp => by cases hp), .inl rfl⟩
  | cons q l ih =>
    intro x
    obtain ⟨h1, h2, h3⟩ := ih (mx x q.f1.f0)
    obtain ⟨m1, m2, m3⟩ := mx_l x q.f1.f0
    rw [List.foldl_cons]
    refine ⟨by omega, fun p hp => ?_, ?_⟩
    · rcases List.mem_cons.1 hp with rfl | hp
      · omega
      · exact h2 p hp
    · rcases h3 with h3 | ⟨p, hp, h3⟩
      · rcases m3 with m3 | m3
        · exact .inl (by rw [h3, m3])
        · exact .inr ⟨q, List.mem_cons_self .., by rw [h3, m3]⟩
      · exact .inr ⟨p, List.mem_cons_of_mem _ hp, h3⟩
theorem topSeq_range (f : ByteArray) : 0 ≤ topSeq (recsTo f 8) ∧ topSeq (recsTo f 8) ≤ 1048576 := by
  obtain ⟨h1, h2, h3⟩ := fold_mx (recsTo f 8) 0
  refine ⟨h1, ?_⟩
  unfold topSeq
  rcases h3 with h3 | ⟨p, hp, h3⟩
  · omega
  · rw [h3]
    obtain ⟨k, _, h⟩ := (mem_recs f p 8).1 hp
    have := (rec_bounds (entAt_may h)).1
    omega
theorem next_l (xs : List SPl) (hx : xs.length ≤ 8) : ∀ (d i k : Nat) (x : Int), i + d = xs.length → d < k → skiffref1_NextSeq.l0 k xs x i = if (xs.drop i).foldl (fun x p => mx x p.f1.f0) x = 1048576 then some (0, 801) else some (wrap64 ((xs.drop i).foldl (fun x p => mx x p.f1.f0) x + 1), 0)
  | 0, i, k, x, hi, hk => by
    obtain ⟨k, rfl⟩ : ∃ m, k = m + 1 := ⟨k - 1, by omega⟩
    rw [skiffref1_NextSeq.l0, if_neg (by omega), List.drop_of_length_le (by omega)]
    rfl
  | d + 1, i, k, x, hi, hk => by
    obtain ⟨k, rfl⟩ : ∃ m, k = m + 1 := ⟨k - 1, by omega⟩
    have e2 : wrap64 ((i : Int) + 1) = ((i + 1 : Nat) : Int) := by rw [w64 (by omega) (by omega)]; rfl
    rw [skiffref1_NextSeq.l0, if_pos (by omega), if_pos (by omega), e2, rdT xs i (by omega), next_l xs hx d (i + 1) k _ (by omega) (by omega), List.drop_eq_getElem_cons (by omega : i < xs.length), List.foldl_cons]
theorem nextR_f (f : ByteArray) (k : Nat) (hk : 20 ≤ k) (hf : f.size = 768) : skiffref1_NextSeq.f k f = if topSeq (recsTo f 8) = 1048576 then some (0, 801) else some (topSeq (recsTo f 8) + 1, 0) := by
  have hl := recsTo_length f 8
  have hr := topSeq_range f
  unfold skiffref1_NextSeq.f
  rw [scanR_f f k hk hf, Option.bind_some]
  simp only [if_true]
  have h := next_l _ hl (recsTo f 8).length 0 k 0 (by omega) (by omega)
  rw [List.drop_zero] at h
  refine h.trans ?_
  show (if topSeq (recsTo f 8) = 1048576 then _ else some (wrap64 (topSeq (recsTo f 8) + 1), 0)) = _
  rw [w64 (by omega) (by omega)]
theorem crcOf_lt (s : ByteArray) : crcOf s < 4294967296 := Nat.xor_lt_two_pow (n := 32) (crcList_lt _ _ (by decide)) (by decide)
theorem recOf_f (f : ByteArray) (k : Nat) (b c : Int) (hk : 3000 ≤ k) (hf : f.size = 768) (hb : 0 ≤ b ∧ b ≤ 1) (hc : 1 ≤ c ∧ c ≤ 288) : skiffref1_RecordOf.f k f b c = if topSeq (recsTo f 8) = 1048576 then some (0, 0, 0, 0, 801) else some (topSeq (recsTo f 8) + 1, b, c, ((crcOf (imgB f b c) : Nat) : Int), 0) := by
  obtain ⟨k, rfl⟩ : ∃ m, k = m + 1 := ⟨k - 1, by omega⟩
  have e1 : wrap64 (3 * b) = 3 * b := w64 (by omega) (by omega)
  have e2 : wrap64 (2 + 3 * b) = 2 + 3 * b := w64 (by omega) (by omega)
  have e3 : wrap64 ((2 + 3 * b) * 96) = 192 + 288 * b := by rw [w64 (by omega) (by omega)]; omega
  have e4 : wrap64 (192 + 288 * b + c) = 192 + 288 * b + c := w64 (by omega) (by omega)
  have eb : skiffref1_Base.f b = some (192 + 288 * b, 0) := by
    unfold skiffref1_Base.f skiffref1_upTo.f
    rw [if_pos (by omega), Option.bind_some, if_pos (by simpa using hb.2), e1, e2, e3]
  unfold skiffref1_RecordOf.f skiffref1_FlashMay.f skiffref1_upTo.f
  rw [eb, Option.bind_some, Option.bind_some, if_pos (by simp [hf]), if_pos rfl, if_pos (by omega), Option.bind_some, skiffref1_RecordOf.j0, if_neg (by simp [hc.2]), nextR_f f k (by omega) hf]
  by_cases ht : topSeq (recsTo f 8) = 1048576
  · rw [if_pos ht, if_pos ht, Option.bind_some]
    rfl
  · rw [if_neg ht, if_neg ht, Option.bind_some, if_pos rfl, if_pos (by simp only; omega), e4, if_pos (by simp only; omega), if_pos (by omega)]
    have e : f.extract (192 + 288 * b).toNat (192 + 288 * b + c).toNat = imgB f b c := by rw [imgB, baseN, show (192 + 288 * b + c).toNat = (192 + 288 * b).toNat + c.toNat by omega]
    have hs : (imgB f b c).size ≤ 288 := by rw [imgB, ext_size]; omega
    rw [e, crcR_f _ k (by omega) (by omega), Option.bind_some]
def freeF (f : ByteArray) : Nat → Nat → Option Nat
  | _, 0 => none
  | a, d + 1 => if f.extract a (a + 24) = ffB 24 then some a else freeF f (a + 24) d
theorem toList_eq_iff {a b : ByteArray} : a.toList = b.toList ↔ a = b := by
  have := @bytes_toList a b
  rw [Bool.eq_iff_iff] at this
  simpa using this
theorem free_l (f : ByteArray) (hf : f.size = 768) (s : Nat) (hs : s < 2) : ∀ (d a k : Nat), a + 24 * d = 96 * (s + 1) → d + 26 ≤ k → skiffref1_FreePlace.l0 k f s a = match freeF f a d with
    | some x => some ((x : Int), true, 0)
    | none => some (0, false, 0)
  | 0, a, k, ha, hk => by
    obtain ⟨k, rfl⟩ : ∃ m, k = m + 1 := ⟨k - 1, by omega⟩
    have e1 : wrap64 ((a : Int) + 24) = a + 24 := w64 (by omega) (by omega)
    have e2 : wrap64 ((s : Int) + 1) = (s : Int) + 1 := w64 (by omega) (by omega)
    have e3 : wrap64 (((s : Int) + 1) * 96) = ((s : Int) + 1) * 96 := w64 (by omega) (by omega)
    rw [skiffref1_FreePlace.l0, e1, e2, e3, if_neg (by omega)]
    rfl
  | d + 1, a, k, ha, hk => by
    obtain ⟨k, rfl⟩ : ∃ m, k = m + 1 := ⟨k - 1, by omega⟩
    have e1 : wrap64 ((a : Int) + 24) = ((a + 24 : Nat) : Int) := by rw [w64 (by omega) (by omega)]; omega
    have e2 : wrap64 ((s : Int) + 1) = (s : Int) + 1 := w64 (by omega) (by omega)
    have e3 : wrap64 (((s : Int) + 1) * 96) = ((s : Int) + 1) * 96 := w64 (by omega) (by omega)
    rw [skiffref1_FreePlace.l0, e1, e2, e3, if_pos (by omega), if_pos (by omega), if_pos (by omega), if_pos (by omega), show (24 : Int) = ((24 : Nat) : Int) from rfl, full_f 24 k (by omega) (by omega), Option.bind_some, Int.toNat_natCast, Int.toNat_natCast, freeF]
    by_cases h : f.extract a (a + 24) = ffB 24
    · rw [if_pos (toList_eq_iff.2 h), if_pos h]
    · rw [if_neg (fun hh => h (toList_eq_iff.1 hh)), if_neg h]
      exact free_l f hf s hs d (a + 24) k (by omega) (by omega)
theorem freeR_f (f : ByteArray) (s k : Nat) (hk : 40 ≤ k) (hf : f.size = 768) (hs : s < 2) : skiffref1_FreePlace.f k f s = match freeF f (96 * s) 4 with
    | some x => some ((x : Int), true, 0)
    | none => some (0, false, 0) := by
  obtain ⟨k, rfl⟩ : ∃ m, k = m + 1 := ⟨k - 1, by omega⟩
  have e3 : wrap64 ((s : Int) * 96) = ((96 * s : Nat) : Int) := by rw [w64 (by omega) (by omega)]; omega
  unfold skiffref1_FreePlace.f skiffref1_FlashMay.f skiffref1_upTo.f
  rw [Option.bind_some, if_pos (by simp [hf]), if_pos (by omega), Option.bind_some, skiffref1_FreePlace.j0, if_neg (by simp; omega), e3]
  exact free_l f hf s hs 4 (96 * s) k (by omega) (by omega)
theorem freeF_some (f : ByteArray) : ∀ (d a x : Nat), freeF f a d = some x → ∃ i, i < d ∧ x = a + 24 * i ∧ f.extract x (x + 24) = ffB 24
  | 0, a, x, h => by cases h
  | d + 1, a, x, h => by
    rw [freeF] at h
    by_cases hb : f.extract a (a + 24) = ffB 24
    · rw [if_pos hb] at h
      injection h with h
      subst h
      exact ⟨0, by omega, by omega, hb⟩
    · rw [if_neg hb] at h
      obtain ⟨i, h1, h2, h3⟩ := freeF_some f d (a + 24) x h
      exact ⟨i + 1, by omega, by omega, h3⟩
noncomputable def homeN (f : ByteArray) : Nat := match actO f with
  | some p => (p.f0 / 96).toNat
  | none => 0
theorem homeN_lt (f : ByteArray) : homeN f < 2 := by
  unfold homeN
  cases h : actO f with
  | none => simp
  | some p =>
    have hf : f.size = 768 := by
      by_cases hf : f.size = 768
      · exact hf
      · rw [actO, dif_neg hf] at h
        cases h
    obtain ⟨_, _, k, hk, he⟩ := actO_may hf h
    have := entAt_at he
    simp only
    omega
noncomputable def appOps (f s : ByteArray) : List SOp := match freeF f (96 * homeN f) 4 with
  | some a => wordsL a s 6
  | none => ⟨true, ((96 * (1 - homeN f) : Nat) : Int), ⟨#[]⟩⟩ :: wordsL ((96 * (1 - homeN f) : Nat) : Int) s 6
theorem words24 (a : Nat) (s : ByteArray) (ha : a % 4 = 0) (h : a + 24 ≤ 768) (hs : s.size = 24) : skiffref1_Words.f a s = some (wordsL a s 6, 0) := by
  have hp : padB s = s := by
    unfold padB
    rw [hs]
    refine lst_inj ?_
    rw [lst_app, lst_ff]
    simp
  rw [skiffref1_Words.f, if_pos (by simp only [wordsMayB, Bool.and_eq_true, decide_eq_true_eq]; omega), hp, hs]
theorem appR_f (f : ByteArray) (k : Nat) (a b c d : Int) (hk : 3010 ≤ k) (hf : f.size = 768) (hm : recMayB a b c d = true) : skiffref1_Append.f k f a b c d = some (appOps f (entB a b c d), 0) := by
  have hs := entB_size a b c d
  have hh := homeN_lt f
  obtain ⟨k, rfl⟩ : ∃ m, k = m + 2 := ⟨k - 2, by omega⟩
  have hj1 : skiffref1_Append.j1 (k + 1) f (entB a b c d) (homeN f : Nat) = some (appOps f (entB a b c d), 0) := by
    rw [skiffref1_Append.j1, freeR_f f _ k (by omega) hf hh, appOps]
    cases hfr : freeF f (96 * homeN f) 4 with
    | some x =>
      obtain ⟨i, hi, rfl, hb⟩ := freeF_some f _ _ _ hfr
      simp only
      rw [Option.bind_some, if_pos rfl, words24 _ _ (by omega) (by omega) hs, Option.bind_some, if_pos (by rw [wordsL_length]; decide), List.nil_append]
    | none =>
      have e1 : wrap64 (1 - (homeN f : Int)) = ((1 - homeN f : Nat) : Int) := by rw [w64 (by omega) (by omega)]; omega
      have e2 : wrap64 (((1 - homeN f : Nat) : Int) * 96) = ((96 * (1 - homeN f) : Nat) : Int) := by rw [w64 (by omega) (by omega)]; omega
      simp only
      rw [Option.bind_some, if_neg (by decide), if_pos (by decide), Option.bind_some, e1, e2, words24 _ _ (by omega) (by omega) hs, Option.bind_some, if_pos (by rw [wordsL_length]; exact (by decide : 1 + 6 < 4398046511104))]
      rfl
  unfold skiffref1_Append.f skiffref1_PutEntry.f skiffref1_FlashMay.f
  rw [if_pos hm, Option.bind_some, Option.bind_some, if_pos (by simp [hf]), skiffref1_Append.j0, if_neg (by simp), actR_f f (k + 1) (by omega) hf, Option.bind_some]
  cases h : actO f with
  | none =>
    rw [if_neg (show ¬ (vals none).2.2.2.2.2 = 0 by decide)]
    have : homeN f = 0 := by rw [homeN, h]
    rw [this] at hj1
    exact hj1
  | some p =>
    obtain ⟨_, _, j, hj, he⟩ := actO_may hf h
    have hp := entAt_at he
    have hn : homeN f = (p.f0 / 96).toNat := by rw [homeN, h]
    have e1 : wrap64 (Int.tdiv p.f0 96) = (homeN f : Nat) := by
      rw [Int.tdiv_eq_ediv_of_nonneg (by omega), w64 (by omega) (by omega), hn]
      omega
    rw [if_pos (show (vals (some p)).2.2.2.2.2 = 0 from rfl)]
    show skiffref1_Append.j1 (k + 1) f _ (wrap64 (Int.tdiv p.f0 96)) = _
    rw [e1]
    exact hj1
end Go.Proofs.Ytaibkfgpdgabaaa.P
end
