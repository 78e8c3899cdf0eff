/- A part of the proof of T: what its last text uses; conditions: see there. -/
import Derived.Test.YtaibkfgpdgabaaaTQHeld
import Derived.Test.YtaibkfgpdgabaaaTHGive
section
namespace Go.Proofs.Ytaibkfgpdgabaaa.P
open Go.RowKit Go.Proofs.YtaibkfgpdgabaaaW.PrintWords Go.Proofs.YtaibkfgpdgabaaaW.PrintLast Go.Proofs.YtaibkfgpdgabaaaW.PrintMore
set_option linter.unusedVariables false
set_option linter.unusedSimpArgs false
theorem giveMay_size {f : ByteArray} {a0 a1 a2 a3 a4 : Int} {l : List SOp} {b n : Int} (h : giveMayB f a0 a1 a2 a3 a4 l b n = true) : f.size = 768 := by
  simp only [giveMayB, Bool.and_eq_true, decide_eq_true_eq] at h
  omega
theorem give_bad (f : ByteArray) (a0 a1 a2 a3 a4 : Int) (l : List SOp) (b n : Int) (h : giveMayB f a0 a1 a2 a3 a4 l b n = false) : upload_Give.f f a0 a1 a2 a3 a4 l b n = some (0, 0, 0, 0, 0, [], ⟨#[]⟩, 2000) := by
  rw [upload_Give.f, h, if_neg (by decide)]
theorem give_file_f (f : ByteArray) (a0 a1 a2 a3 a4 : Int) (l : List SOp) (b n : Int) (h : giveMayB f a0 a1 a2 a3 a4 l b n = true) (ha : actO f = none) : upload_Give.f f a0 a1 a2 a3 a4 l b n = some (7, 2, 0, 0, 0, [], ⟨#[]⟩, 0) := by
  rw [upload_Give.f, h, if_pos rfl, act_f f (giveMay_size h), ha, Option.bind_some, if_neg (show ¬ (vals none).2.2.2.2.2 = 0 by decide)]
theorem give_addr_f (f : ByteArray) (a0 a1 a2 a3 a4 : Int) (l : List SOp) (b n : Int) (p : SPl) (h : giveMayB f a0 a1 a2 a3 a4 l b n = true) (ha : actO f = some p) (hb : ¬ b = if a0 = 0 then 0 else a2) : upload_Give.f f a0 a1 a2 a3 a4 l b n = some (7, 4, 0, 0, 0, [], ⟨#[]⟩, 0) := by
  rw [upload_Give.f, h, if_pos rfl, act_f f (giveMay_size h), ha, Option.bind_some, if_pos (show (vals (some p)).2.2.2.2.2 = 0 from rfl), if_neg hb]
theorem give_yes_f (f : ByteArray) (a0 a1 a2 a3 a4 : Int) (l : List SOp) (b n : Int) (p : SPl) (h : giveMayB f a0 a1 a2 a3 a4 l b n = true) (ha : actO f = some p) (hb : b = if a0 = 0 then 0 else a2) :
    upload_Give.f f a0 a1 a2 a3 a4 l b n = if giveLen (imgB f p.f1.f1 p.f1.f2) b n < 32 then some (0, 0, 0, 0, 0, [], giveS (imgB f p.f1.f1 p.f1.f2) b n, 0) else some (6, a1, min (b + 1) 16, a3, a4, l, giveS (imgB f p.f1.f1 p.f1.f2) b n, 0) := by
  have hf := giveMay_size h
  have hm := actO_may hf ha
  rw [upload_Give.f, h, if_pos rfl, act_f f hf, ha, Option.bind_some, if_pos (show (vals (some p)).2.2.2.2.2 = 0 from rfl), if_pos hb]
  have e : image_Of.f f (vals (some p)).2.1 (vals (some p)).2.2.1 (vals (some p)).2.2.2.1 (vals (some p)).2.2.2.2.1 = some (imgB f p.f1.f1 p.f1.f2, 0) := img_f f _ _ _ _ hf hm.1
  rw [e, Option.bind_some, ← hb]
theorem giveLen_eq (S : ByteArray) (b n : Int) : (giveS S b n).size = giveLen S b n := by
  unfold giveS giveLen
  rw [ext_size, ext_size]
  omega
theorem give_may0 (f : ByteArray) (hf : f.size = 768) (b n : Int) (hb : 0 ≤ b ∧ b ≤ 65535) (hn : 0 ≤ n ∧ n ≤ 32) : giveMayB f 0 0 0 0 0 [] b n = true := by
  have hd : devMayB 0 0 0 0 0 [] = true := rfl
  simp only [giveMayB, hd, Bool.and_eq_true, Bool.or_eq_true, decide_eq_true_eq]
  exact ⟨⟨⟨⟨by omega, trivial⟩, .inl trivial⟩, hb⟩, hn⟩
theorem ab_give : giveS ab12 0 32 = ab12 := by
  unfold giveS
  refine bytes_ext fun i => ?_
  rw [get_ext, get_ext, ab_size]
  by_cases h : i < 12
  · rw [if_pos (by simp; omega), if_pos (by simp; omega)]
    congr 1
    simp
  · rw [if_neg (by simp; omega), List.getElem?_eq_none (by rw [lst_len, ab_size]; omega)]
theorem awake_g1 : upload_Give.f heldB 0 0 0 0 0 [] 0 32 = some (0, 0, 0, 0, 0, [], ab12, 0) := by
  obtain ⟨k, hk, ha⟩ := held_act
  rw [give_yes_f _ _ _ _ _ _ _ _ _ _ (give_may0 _ held_size 0 32 (by omega) (by omega)) ha rfl, held_img, ab_give, if_pos (by rw [← giveLen_eq, ab_give, ab_size]; omega)]
theorem awake_g2 : upload_Give.f heldB 0 0 0 0 0 [] 1 32 = some (7, 4, 0, 0, 0, [], ⟨#[]⟩, 0) := by
  obtain ⟨k, hk, ha⟩ := held_act
  exact give_addr_f _ _ _ _ _ _ _ _ _ _ (give_may0 _ held_size 1 32 (by omega) (by omega)) ha (by decide)
theorem awake_g3 : upload_Give.f (ffB 768) 0 0 0 0 0 [] 0 32 = some (7, 2, 0, 0, 0, [], ⟨#[]⟩, 0) :=
  give_file_f _ _ _ _ _ _ _ _ _ (give_may0 _ (ffB_size _) 0 32 (by omega) (by omega)) (act_none (ffB_size _) blank_recs)
theorem awake_g4 : upload_Give.f heldB 2 0 0 0 0 [] 0 32 = some (0, 0, 0, 0, 0, [], ⟨#[]⟩, 2000) := by
  refine give_bad _ _ _ _ _ _ _ _ _ ?_
  unfold giveMayB
  rw [show (decide ((2 : Int) = 0) || decide ((2 : Int) = 6)) = false from rfl]
  simp
end Go.Proofs.Ytaibkfgpdgabaaa.P
end
