/- A part of the proof of T: what its last text uses; conditions: see there. -/
import Derived.Lib.Strings
import Derived.Test.YtaibkfgpdgabaaaTHTorn
import Derived.Test.YtaibkfgpdgabaaaTHTornR
import Derived.Test.YtaibkfgpdgabaaaTHWords
section
namespace Go.Proofs.Ytaibkfgpdgabaaa.P
open Go.RowKit Go.Proofs.YtaibkfgpdgabaaaW.PrintWords Go.Proofs.YtaibkfgpdgabaaaW.PrintLast Go.Proofs.YtaibkfgpdgabaaaW.PrintMore
set_option linter.unusedVariables false
set_option linter.unusedSimpArgs false
def lst (s : ByteArray) : List UInt8 := s.data.toList
theorem lst_len (s : ByteArray) : (lst s).length = s.size := data_length s
theorem lst_inj {a b : ByteArray} (h : lst a = lst b) : a = b := WideShapes.bytes_inj h
theorem lst_app (a b : ByteArray) : lst (a ++ b) = lst a ++ lst b := ByteArray.toList_data_append
theorem lst_ext (s : ByteArray) (a b : Nat) : lst (s.extract a b) = ((lst s).drop a).take (b - a) := Lib.extract_data s a b
theorem lst_ff (n : Nat) : lst (ffB n) = List.replicate n 255 := by simp [lst, ffB]
theorem get_ext (s : ByteArray) (a b i : Nat) : (lst (s.extract a b))[i]? = if i < b - a then (lst s)[a + i]? else none := by
  rw [lst_ext, List.getElem?_take]
  split
  · rw [List.getElem?_drop]
  · rfl
theorem ext_size (s : ByteArray) (a b : Nat) : (s.extract a b).size = min b s.size - a := by
  rw [← lst_len, lst_ext, List.length_take, List.length_drop, lst_len]; omega
theorem lst_put (f : ByteArray) (a : Nat) (t : ByteArray) : lst (putAt f a t) = (lst f).take a ++ lst t ++ (lst f).drop (a + t.size) := by
  rw [putAt, lst_app, lst_app, lst_ext, lst_ext, List.drop_zero, Nat.sub_zero, List.take_of_length_le (l := (lst f).drop _) (by rw [List.length_drop, lst_len]; omega)]
theorem put_size (f : ByteArray) (a : Nat) (t : ByteArray) (h : a + t.size ≤ f.size) : (putAt f a t).size = f.size := by
  rw [← lst_len, lst_put, List.length_append, List.length_append, List.length_take, List.length_drop, lst_len, lst_len]; omega
theorem get_put (f : ByteArray) (a : Nat) (t : ByteArray) (h : a + t.size ≤ f.size) (i : Nat) : (lst (putAt f a t))[i]? = if a ≤ i ∧ i < a + t.size then (lst t)[i - a]? else (lst f)[i]? := by
  rw [lst_put]
  have hl := lst_len f
  have ht := lst_len t
  by_cases h1 : i < a
  · rw [if_neg (by omega), List.append_assoc, List.getElem?_append_left (by rw [List.length_take]; omega), List.getElem?_take, if_pos h1]
  · by_cases h2 : i < a + t.size
    · rw [if_pos ⟨by omega, h2⟩, List.append_assoc, List.getElem?_append_right (by rw [List.length_take]; omega), List.getElem?_append_left (by rw [List.length_take]; omega), List.length_take, show min a (lst f).length = a by omega]
    · rw [if_neg (by omega), List.getElem?_append_right (by rw [List.length_append, List.length_take]; omega), List.getElem?_drop, List.length_append, List.length_take]
      congr 1
      omega
theorem bytes_ext {a b : ByteArray} (h : ∀ i : Nat, (lst a)[i]? = (lst b)[i]?) : a = b := lst_inj (List.ext_getElem? h)
theorem ext_put_off (f : ByteArray) (a : Nat) (t : ByteArray) (i j : Nat) (h : a + t.size ≤ f.size) (hd : j ≤ a ∨ a + t.size ≤ i) : (putAt f a t).extract i j = f.extract i j := by
  refine bytes_ext fun k => ?_
  rw [get_ext, get_ext]
  split
  · rw [get_put f a t h, if_neg (by omega)]
  · rfl
theorem ext_put_in (f : ByteArray) (a : Nat) (t : ByteArray) (i j : Nat) (h : a + t.size ≤ f.size) (h1 : a ≤ i) (h2 : j ≤ a + t.size) : (putAt f a t).extract i j = t.extract (i - a) (j - a) := by
  refine bytes_ext fun k => ?_
  rw [get_ext, get_ext]
  by_cases hk : k < j - i
  · rw [if_pos hk, if_pos (by omega), get_put f a t h, if_pos (by omega)]
    congr 1
    omega
  · rw [if_neg hk, if_neg (by omega)]
theorem ext_all (s : ByteArray) (n : Nat) (h : s.size ≤ n) : s.extract 0 n = s := by
  refine lst_inj ?_
  rw [lst_ext, List.drop_zero, List.take_of_length_le (by rw [lst_len]; omega)]
theorem ext_put_same (f : ByteArray) (a : Nat) (t : ByteArray) (h : a + t.size ≤ f.size) : (putAt f a t).extract a (a + t.size) = t := by
  rw [ext_put_in f a t _ _ h (Nat.le_refl _) (Nat.le_refl _), Nat.sub_self, ext_all t _ (by omega)]
theorem put_join (f : ByteArray) (a : Nat) (s t : ByteArray) (h : a + s.size + t.size ≤ f.size) : putAt (putAt f a s) (a + s.size) t = putAt f a (s ++ t) := by
  have hs : (putAt f a s).size = f.size := put_size f a s (by omega)
  have ha : (s ++ t).size = s.size + t.size := ByteArray.size_append
  refine bytes_ext fun i => ?_
  rw [get_put _ _ _ (by omega), get_put f a s (by omega), get_put f a (s ++ t) (by omega), lst_app]
  have hl := lst_len s
  by_cases h1 : a ≤ i ∧ i < a + s.size
  · rw [if_neg (by omega), if_pos h1, if_pos (by omega), List.getElem?_append_left (by omega)]
  · by_cases h2 : a + s.size ≤ i ∧ i < a + s.size + t.size
    · rw [if_pos h2, if_pos (by omega), List.getElem?_append_right (by omega)]
      congr 1
      omega
    · rw [if_neg h2, if_neg h1, if_neg (by omega)]
theorem put_nil (f : ByteArray) (a : Nat) (t : ByteArray) (h : t.size = 0) (ha : a ≤ f.size) : putAt f a t = f := by
  refine bytes_ext fun i => ?_
  rw [get_put f a t (by omega), if_neg (by omega)]
theorem wornB_put (f : ByteArray) (x m : Nat) : wornB f x m = putAt f (x * 96) (ffB m) := by rw [wornB, putAt, ffB_size]
theorem bt_lst (s : ByteArray) (i : Nat) (h : i < s.size) : bt s i = ((lst s)[i]'(by rw [lst_len]; exact h)).toNat := by
  unfold bt
  rw [dif_pos (by simpa using h)]
  rfl
theorem getD_bytesOf (s : ByteArray) (i : Nat) : (bytesOf s).getD i 0 = bt s i := by
  have h := rd_bytesOf s i
  unfold rd at h
  simpa using h
theorem strOf_get (xs : List Int) (i : Nat) : (lst (strOfNums xs))[i]? = (xs[i]?).map fun x => UInt8.ofNat x.toNat := by
  rw [lst, strOfNums_data, List.getElem?_map]
end Go.Proofs.Ytaibkfgpdgabaaa.P
end
