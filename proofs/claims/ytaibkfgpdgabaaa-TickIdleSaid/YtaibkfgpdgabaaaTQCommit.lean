/- A part of the proof of T: what its last text uses; conditions: see there. -/
import Derived.Test.YtaibkfgpdgabaaaTQAppend
import Derived.Test.YtaibkfgpdgabaaaTP0x0
section
namespace Go.Proofs.Ytaibkfgpdgabaaa.P
open Go.RowKit Go.Proofs.YtaibkfgpdgabaaaW.PrintWords Go.Proofs.YtaibkfgpdgabaaaW.PrintLast Go.Proofs.YtaibkfgpdgabaaaW.PrintMore
set_option linter.unusedVariables false
set_option linter.unusedSimpArgs false
theorem ff_no : getB (ffB 24) = false := by decide +kernel
theorem entAt_ff {f : ByteArray} {k : Nat} (h : f.extract (24 * k) (24 * k + 24) = ffB 24) : entAt f k = none := by
  rw [entAt, h, ff_no, if_neg (by decide)]
theorem entAt_same {f g : ByteArray} {k : Nat} (h : f.extract (24 * k) (24 * k + 24) = g.extract (24 * k) (24 * k + 24)) : entAt f k = entAt g k := by
  rw [entAt, entAt, h]
theorem entAt_put (f : ByteArray) (k : Nat) (a b c d : Int) (hf : f.size = 768) (hk : k < 8) (hm : recMayB a b c d = true) : entAt (putAt f (24 * k) (entB a b c d)) k = some ⟨24 * k, ⟨a, b, c, d⟩⟩ := by
  have hs := entB_size a b c d
  have he : (putAt f (24 * k) (entB a b c d)).extract (24 * k) (24 * k + 24) = entB a b c d := by
    have := ext_put_same f (24 * k) (entB a b c d) (by omega)
    rw [hs] at this
    exact this
  obtain ⟨h1, h2⟩ := get_ent hm
  rw [entAt, he, h1, if_pos rfl, placeOf, h2]
theorem imgB_same {f g : ByteArray} {b c : Int} (hb : 0 ≤ b) (h : ∀ i j, 192 ≤ i → g.extract i j = f.extract i j) : imgB g b c = imgB f b c := by
  rw [imgB, imgB, h _ _ (by rw [baseN]; omega)]
theorem put_active (f : ByteArray) (k : Nat) (a b c d : Int) (hf : f.size = 768) (hk : k < 8) (hm : recMayB a b c d = true) (hg : goodB f b c d = true) (hs : ∀ p ∈ recsTo f 8, p.f1.f0 < a) :
    actO (putAt f (24 * k) (entB a b c d)) = some ⟨24 * k, ⟨a, b, c, d⟩⟩ ∧ ∀ p ∈ recsTo (putAt f (24 * k) (entB a b c d)) 8, p.f1.f0 ≤ a := by
  have hsz := entB_size a b c d
  obtain ⟨ha, hb, hc, hd⟩ := rec_bounds hm
  have hf' : (putAt f (24 * k) (entB a b c d)).size = 768 := by rw [put_size _ _ _ (by omega), hf]
  have hoff : ∀ i j, 192 ≤ i → (putAt f (24 * k) (entB a b c d)).extract i j = f.extract i j := fun i j hi => ext_put_off _ _ _ _ _ (by omega) (.inr (by omega))
  have hother : ∀ p ∈ recsTo (putAt f (24 * k) (entB a b c d)) 8, p = ⟨24 * k, ⟨a, b, c, d⟩⟩ ∨ p.f1.f0 < a := by
    intro p hp
    obtain ⟨j, hj, he⟩ := (mem_recs _ p 8).1 hp
    by_cases hjk : j = k
    · subst hjk
      rw [entAt_put f j a b c d hf hk hm] at he
      exact .inl (Option.some.inj he).symm
    · rw [entAt_same (ext_put_off f (24 * k) _ (24 * j) (24 * j + 24) (by omega) (by omega))] at he
      exact .inr (hs p ((mem_recs f p 8).2 ⟨j, hj, he⟩))
  refine ⟨actO_of hf' ⟨(mem_recs _ _ 8).2 ⟨k, hk, entAt_put f k a b c d hf hk hm⟩, ?_, fun q hq _ => ?_⟩, fun p hp => ?_⟩
  · show goodB _ b c d = true
    rw [goodB, imgB_same hb.1 hoff]
    exact hg
  · rcases hother q hq with rfl | h
    · exact leP_refl _
    · exact .inl h
  · rcases hother p hp with rfl | h
    · exact Int.le_refl _
    · omega
theorem erase_recs (f : ByteArray) (s : Nat) (hf : f.size = 768) (hs : s < 2) : (∀ j p, entAt (putAt f (96 * s) (ffB 96)) j = some p → j < 8 → entAt f j = some p) ∧ (∀ i j, 192 ≤ i → (putAt f (96 * s) (ffB 96)).extract i j = f.extract i j) ∧ (putAt f (96 * s) (ffB 96)).extract (96 * s) (96 * s + 24) = ffB 24 ∧ (putAt f (96 * s) (ffB 96)).size = 768 := by
  have h96 := ffB_size 96
  have hin : ∀ j, 96 * s ≤ 24 * j → 24 * j + 24 ≤ 96 * s + 96 → (putAt f (96 * s) (ffB 96)).extract (24 * j) (24 * j + 24) = ffB 24 := by
    intro j h1 h2
    rw [ext_put_in f (96 * s) (ffB 96) _ _ (by omega) h1 (by omega), ff_ext _ _ _ (by omega)]
    congr 1
    omega
  refine ⟨fun j p h hj => ?_, fun i j hi => ext_put_off _ _ _ _ _ (by omega) (.inr (by omega)), ?_, by rw [put_size _ _ _ (by omega), hf]⟩
  · by_cases h1 : 96 * s ≤ 24 * j ∧ 24 * j + 24 ≤ 96 * s + 96
    · rw [entAt_ff (hin j h1.1 h1.2)] at h
      cases h
    · rw [entAt_same (ext_put_off f (96 * s) (ffB 96) (24 * j) (24 * j + 24) (by omega) (by omega))] at h
      exact h
  · have := hin (4 * s) (by omega) (by omega)
    rw [show 24 * (4 * s) = 96 * s by omega] at this
    exact this
theorem doAll_cons (f : ByteArray) (o : SOp) (l : List SOp) : doAll f (o :: l) = doAll (doB f o.f0 o.f1 o.f2 96) l := rfl
theorem words6 (f : ByteArray) (a : Nat) (s : ByteArray) (hf : f.size = 768) (ha : a % 4 = 0) (h : a + 24 ≤ 768) (hs : s.size = 24) (hb : f.extract a (a + 24) = ffB 24) : doAll f (wordsL a s 6) = putAt f a s := by
  rw [words_done f a 6 s hf ha (by omega) (by omega) hb, ext_all s _ (by omega)]
theorem append_done (f : ByteArray) (a b c d : Int) (hf : f.size = 768) (hm : recMayB a b c d = true) (hg : goodB f b c d = true) (hs : ∀ p ∈ recsTo f 8, p.f1.f0 < a) :
    OkAll (appOps f (entB a b c d)) ∧ (doAll f (appOps f (entB a b c d))).size = 768 ∧ (∃ k : Nat, k < 8 ∧ actO (doAll f (appOps f (entB a b c d))) = some ⟨24 * k, ⟨a, b, c, d⟩⟩ ∧ (doAll f (appOps f (entB a b c d))).extract (24 * k) (24 * k + 24) = entB a b c d) ∧
    (∀ i j, 192 ≤ i → (doAll f (appOps f (entB a b c d))).extract i j = f.extract i j) ∧ (∀ p ∈ recsTo (doAll f (appOps f (entB a b c d))) 8, p.f1.f0 ≤ a) ∧ (appOps f (entB a b c d)).length ≤ 7 ∧ 1 ≤ (appOps f (entB a b c d)).length := by
  have hsz := entB_size a b c d
  have hh := homeN_lt f
  have same : ∀ g : ByteArray, ∀ x, g.size = 768 → x + 24 ≤ 768 → (putAt g x (entB a b c d)).extract x (x + 24) = entB a b c d := by
    intro g x hg hx
    have := ext_put_same g x (entB a b c d) (by omega)
    rw [hsz] at this
    exact this
  unfold appOps
  cases hfr : freeF f (96 * homeN f) 4 with
  | some x =>
    obtain ⟨i, hi, hx, hb⟩ := freeF_some f _ _ _ hfr
    have hx2 : x = 24 * (4 * homeN f + i) := by omega
    simp only
    rw [words6 f x _ hf (by omega) (by omega) hsz hb]
    obtain ⟨h1, h2⟩ := put_active f (4 * homeN f + i) a b c d hf (by omega) hm hg hs
    rw [← hx2] at h1 h2
    refine ⟨words_ok x 6 _ (by omega) (by omega) (by omega), by rw [put_size _ _ _ (by omega), hf], ⟨4 * homeN f + i, by omega, ?_, ?_⟩, fun i j hi => ext_put_off _ _ _ _ _ (by omega) (.inr (by omega)), h2, by rw [wordsL_length]; omega, by rw [wordsL_length]; omega⟩
    · exact h1
    · rw [← hx2]
      exact same f x hf (by omega)
  | none =>
    simp only
    obtain ⟨e1, e2, e3, e4⟩ := erase_recs f (1 - homeN f) hf (by omega)
    have hd : doAll f (⟨true, ((96 * (1 - homeN f) : Nat) : Int), ⟨#[]⟩⟩ :: wordsL ((96 * (1 - homeN f) : Nat) : Int) (entB a b c d) 6) = putAt (putAt f (96 * (1 - homeN f)) (ffB 96)) (96 * (1 - homeN f)) (entB a b c d) := by
      have := words6 (putAt f (96 * (1 - homeN f)) (ffB 96)) (96 * (1 - homeN f)) (entB a b c d) e4 (by omega) (by omega) hsz e3
      rw [← this, doAll_cons]
      dsimp only
      rw [do_erase, Int.toNat_natCast]
    rw [hd]
    have hg2 : goodB (putAt f (96 * (1 - homeN f)) (ffB 96)) b c d = true := by
      rw [goodB, imgB_same (rec_bounds hm).2.1.1 e2]
      exact hg
    have hx2 : 96 * (1 - homeN f) = 24 * (4 * (1 - homeN f)) := by omega
    obtain ⟨h1, h2⟩ := put_active (putAt f (96 * (1 - homeN f)) (ffB 96)) (4 * (1 - homeN f)) a b c d e4 (by omega) hm hg2 (fun p hp => by
      obtain ⟨j, hj, he⟩ := (mem_recs _ p 8).1 hp
      exact hs p ((mem_recs f p 8).2 ⟨j, hj, e1 j p he hj⟩))
    rw [← hx2] at h1 h2
    refine ⟨?_, by rw [put_size _ _ _ (by omega), e4], ⟨4 * (1 - homeN f), by omega, ?_, ?_⟩, fun i j hi => ?_, h2, by rw [List.length_cons, wordsL_length]; omega, by rw [List.length_cons]; omega⟩
    · intro o ho
      rcases List.mem_cons.1 ho with rfl | ho
      · show OpOk true ((96 * (1 - homeN f) : Nat) : Int) ⟨#[]⟩
        rw [OpOk, if_pos rfl]
        exact ⟨by omega, by omega, by omega, rfl⟩
      · exact words_ok _ 6 _ (by omega) (by omega) (by omega) o ho
    · exact h1
    · rw [← hx2]
      exact same _ _ e4 (by omega)
    · rw [ext_put_off _ _ _ _ _ (by omega) (.inr (by omega)), e2 i j hi]
theorem blank_f (k : Nat) (hk : 769 ≤ k) : skiffref1_Blank.f k = some (ffB 768) := by
  rw [skiffref1_Blank.f, show (768 : Int) = ((768 : Nat) : Int) from rfl, full_f 768 k (by omega) (by omega), Option.bind_some]
theorem blank_recs : recsTo (ffB 768) 8 = [] := by
  have h : ∀ n, n ≤ 8 → recsTo (ffB 768) n = [] := by
    intro n
    induction n with
    | zero => intro _; rfl
    | succ n ih =>
      intro hn
      rw [recsTo, ih (by omega), entAt_ff (by rw [ff_ext _ _ _ (by omega)]; congr 1; omega)]
      rfl
  exact h 8 (by omega)
theorem no_recs {f : ByteArray} (hf : f.size = 768) (h : ∀ k, k < 8 → f.extract (24 * k) (24 * k + 24) = ffB 24) : recsTo f 8 = [] := by
  have h : ∀ n, n ≤ 8 → recsTo f n = [] := by
    intro n
    induction n with
    | zero => intro _; rfl
    | succ n ih =>
      intro hn
      rw [recsTo, ih (by omega), entAt_ff (h n (by omega))]
      rfl
  exact h 8 (by omega)
theorem act_none {f : ByteArray} (hf : f.size = 768) (h : recsTo f 8 = []) : actO f = none := actO_of hf (fun q hq => by rw [h] at hq; cases hq)
end Go.Proofs.Ytaibkfgpdgabaaa.P
end
