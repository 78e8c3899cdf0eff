/- A part of the proof of T: what its last text uses; conditions: see there. -/
import Derived.Test.YtaibkfgpdgabaaaTQFlash
import Derived.Test.YtaibkfgpdgabaaaTHGet
import Derived.Test.YtaibkfgpdgabaaaTHGetR
section
namespace Go.Proofs.Ytaibkfgpdgabaaa.P
open Go.RowKit Go.Proofs.YtaibkfgpdgabaaaW.PrintWords Go.Proofs.YtaibkfgpdgabaaaW.PrintLast Go.Proofs.YtaibkfgpdgabaaaW.PrintMore
set_option linter.unusedVariables false
set_option linter.unusedSimpArgs false
def leL : List Int → Int
  | [] => 0
  | b :: l => b + 256 * leL l
def Byt (l : List Int) : Prop := ∀ x ∈ l, 0 ≤ x ∧ x < 256
theorem byt_of (s : ByteArray) : Byt (bytesOf s) := by
  intro x hx
  unfold bytesOf at hx
  rw [List.mem_map] at hx
  obtain ⟨b, _, rfl⟩ := hx
  have := b.toNat_lt
  omega
theorem Byt.take {l : List Int} (h : Byt l) (n : Nat) : Byt (l.take n) := fun x hx => h x (List.mem_of_mem_take hx)
theorem Byt.drop {l : List Int} (h : Byt l) (n : Nat) : Byt (l.drop n) := fun x hx => h x (List.mem_of_mem_drop hx)
theorem leL_range : ∀ l : List Int, Byt l → 0 ≤ leL l ∧ leL l < 256 ^ l.length
  | [], _ => by simp [leL]
  | b :: l, h => by
    have h1 := leL_range l (fun x hx => h x (List.mem_cons_of_mem _ hx))
    have h2 := h b (List.mem_cons_self ..)
    have h3 : (256 : Int) ^ (b :: l).length = 256 * 256 ^ l.length := by rw [List.length_cons, Int.pow_succ, Int.mul_comm]
    rw [leL, h3]
    omega
theorem lowL_cons (x : Int) (k : Nat) : lowL x (k + 1) = (x % 256) :: lowL (x / 256) k := by
  unfold lowL
  rw [List.range_succ_eq_map, List.map_cons, List.map_map]
  congr 1
  · simp
  · refine List.map_congr_left fun i _ => ?_
    show x / 2 ^ (8 * (i + 1)) % 256 = x / 256 / 2 ^ (8 * i) % 256
    rw [show 8 * (i + 1) = 8 + 8 * i by omega, Int.pow_add, ← Int.ediv_ediv_of_nonneg (by decide)]
    rfl
theorem lowL_leL : ∀ l : List Int, Byt l → lowL (leL l) l.length = l
  | [], _ => rfl
  | b :: l, h => by
    have h2 := h b (List.mem_cons_self ..)
    rw [List.length_cons, lowL_cons, leL, show (b + 256 * leL l) % 256 = b by omega, show (b + 256 * leL l) / 256 = leL l by omega, lowL_leL l (fun x hx => h x (List.mem_cons_of_mem _ hx))]
theorem leL_lowL : ∀ (k : Nat) (x : Int), 0 ≤ x → x < 256 ^ k → leL (lowL x k) = x
  | 0, x, h0, h1 => by simp at h1; simp [lowL, leL]; omega
  | k + 1, x, h0, h1 => by
    have h3 : (256 : Int) ^ (k + 1) = 256 * 256 ^ k := by rw [Int.pow_succ, Int.mul_comm]
    rw [lowL_cons, leL, leL_lowL k (x / 256) (by omega) (by rw [h3] at h1; exact Int.ediv_lt_of_lt_mul (by decide) (by rw [Int.mul_comm]; exact h1))]
    omega
theorem byt_lowL (x : Int) (k : Nat) : Byt (lowL x k) := by
  intro y hy
  unfold lowL at hy
  rw [List.mem_map] at hy
  obtain ⟨i, _, rfl⟩ := hy
  omega
theorem bytesOf_str (l : List Int) (h : Byt l) : bytesOf (strOfNums l) = l := by
  unfold bytesOf
  rw [strOfNums_data, List.map_map]
  conv => rhs; rw [← List.map_id l]
  refine List.map_congr_left fun x hx => ?_
  have := h x hx
  show ((UInt8.ofNat x.toNat).toNat : Int) = x
  rw [UInt8.toNat_ofNat', Nat.mod_eq_of_lt (by omega)]
  omega
theorem bytesOf_app (a b : ByteArray) : bytesOf (a ++ b) = bytesOf a ++ bytesOf b := by
  unfold bytesOf
  rw [ByteArray.toList_data_append, List.map_append]
theorem bytesOf_ext (s : ByteArray) (a b : Nat) : bytesOf (s.extract a b) = ((bytesOf s).drop a).take (b - a) := by
  unfold bytesOf
  rw [Lib.extract_data, List.map_take, List.map_drop]
theorem bytesOf_inj {a b : ByteArray} (h : bytesOf a = bytesOf b) : a = b := by rw [← strOfNums_bytesOf a, h, strOfNums_bytesOf]
theorem leI_leL (s : ByteArray) : ∀ (d i : Nat), i + d ≤ s.size → leI s i d = leL (((bytesOf s).drop i).take d)
  | 0, i, _ => by simp [leI, leL]
  | d + 1, i, h => by
    have hl : i < (bytesOf s).length := by rw [bytesOf_length]; omega
    rw [leI, leI_leL s d (i + 1) (by omega), List.drop_eq_getElem_cons hl, List.take_succ_cons, leL]
    congr 1
    have h5 := getD_bytesOf s i
    rw [List.getD_eq_getElem?_getD, List.getElem?_eq_getElem hl] at h5
    exact h5.symm
theorem numB_leL (s : ByteArray) : numB s = leL (bytesOf s) := by
  rw [numB, leI_leL s s.size 0 (by omega), List.drop_zero, List.take_of_length_le (by rw [bytesOf_length]; omega)]
theorem numB_low (x : Int) (k : Nat) (h0 : 0 ≤ x) (h1 : x < 256 ^ k) : numB (lowB x k) = x := by
  rw [numB_leL, lowB, bytesOf_str _ (byt_lowL x k), leL_lowL k x h0 h1]
theorem bytesOf_low (x : Int) (k : Nat) : bytesOf (lowB x k) = lowL x k := by rw [lowB, bytesOf_str _ (byt_lowL x k)]
theorem hdB_bytes (a b c d : Int) : bytesOf (hdB a b c d) = lowL a 4 ++ lowL b 1 ++ lowL 0 1 ++ lowL c 2 ++ lowL d 4 := by
  unfold hdB
  rw [bytesOf_app, bytesOf_app, bytesOf_app, bytesOf_app, bytesOf_low, bytesOf_low, bytesOf_low, bytesOf_low, bytesOf_low]
theorem hdB_size (a b c d : Int) : (hdB a b c d).size = 12 := by
  rw [← bytesOf_length, hdB_bytes]
  simp [lowL_length]
theorem compB_size (s : ByteArray) : (compB s).size = s.size := by rw [compB, strOfNums_size, List.length_map, bytesOf_length]
theorem entB_size (a b c d : Int) : (entB a b c d).size = 24 := by
  rw [entB, ByteArray.size_append, compB_size, hdB_size]
theorem app_ext_l (a b : ByteArray) (n : Nat) (h : a.size = n) : (a ++ b).extract 0 n = a := by
  refine lst_inj ?_
  rw [lst_ext, lst_app, List.drop_zero, Nat.sub_zero, List.take_append_of_le_length (by rw [lst_len]; omega), List.take_of_length_le (by rw [lst_len]; omega)]
theorem app_ext_r (a b : ByteArray) (n m : Nat) (h : a.size = n) (hb : n + b.size = m) : (a ++ b).extract n m = b := by
  refine lst_inj ?_
  rw [lst_ext, lst_app, List.drop_append_of_le_length (by rw [lst_len]; omega), List.drop_of_length_le (by rw [lst_len]; omega), List.nil_append, List.take_of_length_le (by rw [lst_len]; omega)]
theorem compOk_ent (a b c d : Int) : compOk (entB a b c d) = true := by
  unfold compOk
  rw [entB_size, entB, app_ext_l _ _ 12 (hdB_size ..), app_ext_r _ _ 12 24 (hdB_size ..) (by rw [compB_size, hdB_size])]
  exact beq_self_eq_true _
theorem rec_bounds {a b c d : Int} (h : recMayB a b c d = true) : (1 ≤ a ∧ a ≤ 1048576) ∧ (0 ≤ b ∧ b ≤ 1) ∧ (1 ≤ c ∧ c ≤ 288) ∧ 0 ≤ d ∧ d ≤ 4294967295 := by
  simp only [recMayB, Bool.and_eq_true, decide_eq_true_eq] at h
  omega
theorem ext_ext (s : ByteArray) (a b c d : Nat) (h : d ≤ b - a) : (s.extract a b).extract c d = s.extract (a + c) (a + d) := by
  refine bytes_ext fun i => ?_
  rw [get_ext, get_ext, get_ext]
  by_cases h1 : i < d - c
  · rw [if_pos h1, if_pos (by omega), if_pos (by omega), Nat.add_assoc]
  · rw [if_neg h1, if_neg (by omega)]
theorem ent_hd (a b c d : Int) (i j : Nat) (h : j ≤ 12) : (entB a b c d).extract i j = (hdB a b c d).extract i j := by
  refine bytes_ext fun k => ?_
  rw [get_ext, get_ext, entB, lst_app]
  split
  · rw [List.getElem?_append_left (by rw [lst_len, hdB_size]; omega)]
  · rfl
theorem hd_parts (a b c d : Int) : (hdB a b c d).extract 0 4 = lowB a 4 ∧ (hdB a b c d).extract 4 5 = lowB b 1 ∧ (hdB a b c d).extract 5 6 = lowB 0 1 ∧ (hdB a b c d).extract 6 8 = lowB c 2 ∧ (hdB a b c d).extract 8 12 = lowB d 4 := by
  have e4 := lowL_length a 4
  have e1 := lowL_length b 1
  have e0 := lowL_length 0 1
  have e2 := lowL_length c 2
  have e5 := lowL_length d 4
  refine ⟨?_, ?_, ?_, ?_, ?_⟩ <;>
  · refine bytesOf_inj ?_
    rw [bytesOf_ext, hdB_bytes, bytesOf_low]
    generalize lowL a 4 = A at *
    generalize lowL b 1 = B at *
    generalize lowL 0 1 = Z at *
    generalize lowL c 2 = C at *
    generalize lowL d 4 = D at *
    match A, B, Z, C, D, e4, e1, e0, e2, e5 with
    | [a0, a1, a2, a3], [b0], [z0], [c0, c1], [d0, d1, d2, d3], _, _, _, _, _ => rfl
theorem hd_slot (a b c d : Int) (h0 : 0 ≤ b) (h1 : b ≤ 1) : numB ((hdB a b c d).extract 4 6) = b := by
  have e4 := lowL_length a 4
  have e2 := lowL_length c 2
  have e5 := lowL_length d 4
  rw [numB_leL, bytesOf_ext, hdB_bytes]
  have hb : lowL b 1 = [b] := by rw [lowL_cons, Int.emod_eq_of_lt h0 (by omega)]; rfl
  rw [hb, show lowL 0 1 = [0] from rfl]
  generalize lowL a 4 = A at *
  generalize lowL c 2 = C at *
  generalize lowL d 4 = D at *
  match A, C, D, e4, e2, e5 with
  | [a0, a1, a2, a3], [c0, c1], [d0, d1, d2, d3], _, _, _ => simp [leL]
theorem get_ent {a b c d : Int} (h : recMayB a b c d = true) : getB (entB a b c d) = true ∧ getR (entB a b c d) = (a, b, c, d) := by
  obtain ⟨ha, hb, hc, hd⟩ := rec_bounds h
  obtain ⟨p1, _, _, p4, p5⟩ := hd_parts a b c d
  have hR : getR (entB a b c d) = (a, b, c, d) := by
    unfold getR
    rw [ent_hd _ _ _ _ _ _ (by omega), ent_hd _ _ _ _ _ _ (by omega), ent_hd _ _ _ _ _ _ (by omega), ent_hd _ _ _ _ _ _ (by omega), p1, p4, p5, hd_slot a b c d (by omega) (by omega), numB_low a 4 (by omega) (by omega), numB_low c 2 (by omega) (by omega), numB_low d 4 (by omega) (by omega)]
  refine ⟨?_, hR⟩
  unfold getB
  rw [hR, compOk_ent, entB_size]
  simpa using h
theorem bt_ent (s : ByteArray) (i : Nat) (h : i < s.size) : bytesOf (s.extract i (i + 1)) = [bt s i] := by
  have hl : i < (bytesOf s).length := by rw [bytesOf_length]; omega
  have h5 := getD_bytesOf s i
  rw [List.getD_eq_getElem?_getD, List.getElem?_eq_getElem hl] at h5
  simp only [Option.getD_some] at h5
  rw [bytesOf_ext, List.drop_eq_getElem_cons hl, Nat.add_sub_cancel_left, List.take_succ_cons, List.take_zero, h5]
theorem bytes_toList {a b : ByteArray} : (a.toList == b.toList) = decide (a = b) := by
  rw [Bool.eq_iff_iff]
  simp only [beq_iff_eq, decide_eq_true_eq]
  constructor
  · intro h
    refine lst_inj ?_
    unfold lst
    rw [← ByteArray.toList_eq, h, ByteArray.toList_eq]
  · rintro rfl; rfl
theorem ent_get {s : ByteArray} (h : getB s = true) : s.size = 24 ∧ entB (getR s).1 (getR s).2.1 (getR s).2.2.1 (getR s).2.2.2 = s ∧ recMayB (getR s).1 (getR s).2.1 (getR s).2.2.1 (getR s).2.2.2 = true ∧ bt s 4 = (getR s).2.1 := by
  unfold getB at h
  simp only [Bool.and_eq_true, decide_eq_true_eq] at h
  obtain ⟨⟨h24, hc⟩, hm⟩ := h
  unfold compOk at hc
  rw [bytes_toList, decide_eq_true_eq] at hc
  obtain ⟨ha, hb, hcc, hd⟩ := rec_bounds hm
  have hs4 : (bytesOf (s.extract 4 6)) = [bt s 4, bt s 5] := by
    have h1 := bt_ent s 4 (by omega)
    have h2 := bt_ent s 5 (by omega)
    rw [show s.extract 4 6 = s.extract 4 5 ++ s.extract 5 6 from bytes_ext fun i => by
      rw [lst_app, get_ext]
      have e1 : (lst (s.extract 4 5)).length = 1 := by rw [lst_len, ext_size]; omega
      by_cases h0 : i = 0
      · subst h0; rw [if_pos (by omega), List.getElem?_append_left (by omega), get_ext, if_pos (by omega)]
      · rw [List.getElem?_append_right (by omega), e1, get_ext]
        by_cases h1 : i = 1
        · subst h1; rw [if_pos (by omega), if_pos (by omega)]
        · rw [if_neg (by omega), if_neg (by omega)], bytesOf_app, h1, h2]
    rfl
  have hsl : (getR s).2.1 = bt s 4 + 256 * bt s 5 := by
    show numB (s.extract 4 6) = _
    rw [numB_leL, hs4]
    simp [leL]
  have r4 := bt_range s 4
  have r5 := bt_range s 5
  have h5 : bt s 5 = 0 := by omega
  have h4 : bt s 4 = (getR s).2.1 := by omega
  refine ⟨h24, ?_, hm, h4⟩
  have hhd : hdB (getR s).1 (getR s).2.1 (getR s).2.2.1 (getR s).2.2.2 = s.extract 0 12 := by
    refine bytesOf_inj ?_
    rw [hdB_bytes, ← h4]
    have q1 : lowL (getR s).1 4 = bytesOf (s.extract 0 4) := by
      show lowL (numB (s.extract 0 4)) 4 = _
      rw [numB_leL, ← lowL_leL _ (byt_of (s.extract 0 4)), bytesOf_length, ext_size, show min 4 s.size - 0 = 4 by omega, leL_lowL 4 _ (leL_range _ (byt_of _)).1 (by have := (leL_range _ (byt_of (s.extract 0 4))).2; rw [bytesOf_length, ext_size, show min 4 s.size - 0 = 4 by omega] at this; exact this)]
    have q4 : lowL (getR s).2.2.1 2 = bytesOf (s.extract 6 8) := by
      show lowL (numB (s.extract 6 8)) 2 = _
      rw [numB_leL, ← lowL_leL _ (byt_of (s.extract 6 8)), bytesOf_length, ext_size, show min 8 s.size - 6 = 2 by omega, leL_lowL 2 _ (leL_range _ (byt_of _)).1 (by have := (leL_range _ (byt_of (s.extract 6 8))).2; rw [bytesOf_length, ext_size, show min 8 s.size - 6 = 2 by omega] at this; exact this)]
    have q5 : lowL (getR s).2.2.2 4 = bytesOf (s.extract 8 12) := by
      show lowL (numB (s.extract 8 12)) 4 = _
      rw [numB_leL, ← lowL_leL _ (byt_of (s.extract 8 12)), bytesOf_length, ext_size, show min 12 s.size - 8 = 4 by omega, leL_lowL 4 _ (leL_range _ (byt_of _)).1 (by have := (leL_range _ (byt_of (s.extract 8 12))).2; rw [bytesOf_length, ext_size, show min 12 s.size - 8 = 4 by omega] at this; exact this)]
    have q2 : lowL (bt s 4) 1 ++ lowL 0 1 = bytesOf (s.extract 4 6) := by
      rw [hs4, h5, lowL_cons, Int.emod_eq_of_lt r4.1 (by omega)]
      rfl
    rw [q1, q4, q5, List.append_assoc (bytesOf (s.extract 0 4)), q2]
    simp only [bytesOf_ext]
    have hl : (bytesOf s).length = 24 := by rw [bytesOf_length, h24]
    generalize bytesOf s = B at *
    match B, hl with
    | [a0, a1, a2, a3, a4, a5, a6, a7, a8, a9, a10, a11, a12, a13, a14, a15, a16, a17, a18, a19, a20, a21, a22, a23], _ => rfl
  rw [entB, hhd, hc]
  refine bytes_ext fun i => ?_
  rw [lst_app]
  have e1 : (lst (s.extract 0 12)).length = 12 := by rw [lst_len, ext_size]; omega
  by_cases h0 : i < 12
  · rw [List.getElem?_append_left (by omega), get_ext, if_pos (by omega), Nat.zero_add]
  · rw [List.getElem?_append_right (by omega), e1, get_ext]
    by_cases h1 : i < 24
    · rw [if_pos (by omega)]
      congr 1
      omega
    · rw [if_neg (by omega), List.getElem?_eq_none (by rw [lst_len]; omega)]
theorem get_ref (s : ByteArray) : skiffref1_GetEntry.f s = entry_Get.f s := by
  unfold skiffref1_GetEntry.f entry_Get.f
  cases hb : getB s
  · cases hr : getRB s
    · rfl
    · exfalso
      unfold getRB at hr
      simp only [Bool.and_eq_true, decide_eq_true_eq] at hr
      obtain ⟨⟨h24, hm⟩, he⟩ := hr
      rw [bytes_toList, decide_eq_true_eq] at he
      have := (get_ent hm).1
      rw [he, hb] at this
      cases this
  · obtain ⟨h24, he, hm, h4⟩ := ent_get hb
    have hrr : getRR s = getR s := by
      unfold getRR
      rw [h4]
      rfl
    have hr : getRB s = true := by
      unfold getRB
      rw [hrr, hm, he, h24]
      simp
    rw [hr, hrr]
end Go.Proofs.Ytaibkfgpdgabaaa.P
end
