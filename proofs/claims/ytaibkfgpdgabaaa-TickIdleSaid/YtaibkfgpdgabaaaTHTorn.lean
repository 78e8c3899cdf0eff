/- A part of the proof of T: what its last text uses; conditions: see there. -/
import Derived.StillTailTactics
import Derived.Test.YtaibkfgpdgabaaaTHBase
import Derived.Test.YtaibkfgpdgabaaaTHComp
section
namespace Go.Proofs.Ytaibkfgpdgabaaa.P
open Go.RowKit Go.Proofs.YtaibkfgpdgabaaaW.PrintWords Go.Proofs.YtaibkfgpdgabaaaW.PrintLast Go.Proofs.YtaibkfgpdgabaaaW.PrintMore
set_option linter.unusedVariables false
set_option linter.unusedSimpArgs false
attribute [local go_sem] max2_int min2_int max_two min_two max_three min_three max_four min_four
def maskB (b m : Int) : Int := Go.bits .or .u8 b ((255 * 2 ^ (mn (mx m 0) 8).toNat) % 256)
theorem mask_calls (b m : Int) (w : World) : Calls Try.prog 117 #[.int .u8 b, .int .i64 m] w fun e w' => e = .returned (.int .u8 (maskB b m)) ∧ w = w' := by
  obtain ⟨x, hx⟩ : ∃ x, mx m 0 = x := ⟨_, rfl⟩
  have hx_ : (if m < 0 then 0 else m) = x := hx
  have hx0 : 0 ≤ x := by rw [← hx]; unfold mx; split <;> omega
  obtain ⟨y, hy⟩ : ∃ y, mn x 8 = y := ⟨_, rfl⟩
  have hy_ : (if 8 < x then 8 else x) = y := hy
  have HF := Lib.hid (show maskB b m = Go.bits .or .u8 b ((255 * 2 ^ y.toNat) % 256) by rw [maskB, hx, hy])
  go_enter Try.func117, Try.ntmps117
  go_wp2
  go_ret
  refine ⟨?_, rfl⟩
  rw [HF.out]
  rfl
def turnTo (g : Nat → Int → Int) (k : Nat) (xs : List Int) : List Int := (xs.take k).mapIdx g ++ xs.drop k
theorem turnTo_length (g : Nat → Int → Int) (k : Nat) (xs : List Int) : (turnTo g k xs).length = xs.length := by
  simp [turnTo]; omega
theorem turnTo_at (g : Nat → Int → Int) (k : Nat) (xs : List Int) (h : k < xs.length) : (turnTo g k xs).getD k 0 = xs.getD k 0 := by
  have hl : ((xs.take k).mapIdx g).length = k := by simp; omega
  rw [turnTo, List.getD_eq_getElem?_getD, List.getElem?_append_right (by omega), hl, Nat.sub_self, List.getElem?_drop, List.getD_eq_getElem?_getD]
  rfl
theorem turnTo_succ (g : Nat → Int → Int) (k : Nat) (xs : List Int) (h : k < xs.length) : (turnTo g k xs).set k (g k (xs.getD k 0)) = turnTo g (k + 1) xs := by
  have hl : ((xs.take k).mapIdx g).length = k := by simp; omega
  have hk : (xs.take k).length = k := by simp; omega
  rw [turnTo, List.set_append_right _ _ (by omega), hl, Nat.sub_self, List.drop_eq_getElem_cons h, List.set_cons_zero, turnTo, List.take_succ_eq_append_getElem h, List.mapIdx_append]
  simp [List.getD_eq_getElem?_getD, List.getElem?_eq_getElem h, hk]
def tornByte (w : ByteArray) (m : Int) (i : Nat) (x : Int) : Int := Go.bits .and .u8 x (maskB (bt w i) (m - 8 * (i : Int)))
def tornW (old w : ByteArray) (m : Int) : ByteArray := strOfNums ((bytesOf old).mapIdx (tornByte w m))
def putAt (f : ByteArray) (a : Nat) (t : ByteArray) : ByteArray := f.extract 0 a ++ t ++ f.extract (a + t.size) f.size
def tornB (f : ByteArray) (a : Int) (w : ByteArray) (m : Int) : Bool := decide ((f.size : Int) = 768) && (decide (0 ≤ a) && decide (a < 768) && decide (a % 4 = 0)) && decide ((w.size : Int) = 4) && decide (0 ≤ m) && decide (m ≤ 32)
def nor_Torn.f (a0 : ByteArray) (a1 : Int) (a2 : ByteArray) (a3 : Int) : Option (ByteArray × Int) := if tornB a0 a1 a2 a3 = true then some (putAt a0 a1.toNat (tornW (a0.extract a1.toNat (a1.toNat + 4)) a2 a3), 0) else some (⟨#[]⟩, 200)
set_option maxHeartbeats 800000 in
set_option maxRecDepth 100000 in
theorem torn_no (f : ByteArray) (a : Int) (t : ByteArray) (m : Int) (w : World) (h : tornB f a t m = false) :
    Calls Try.prog 94 #[.string f, .int .i64 a, .string t, .int .i64 m] w fun e w' => e = .returned (.tuple #[.string ⟨#[]⟩, .int .i64 200]) ∧ Below w.heap.size w w' := by
  have H := Lib.hid h
  clear h
  go_enter Try.func94, Try.ntmps94
  go_wp2
  all_goals first | (go_ret2; exact ⟨rfl, Below.refl _ _⟩) | (exfalso; have := H.out; simp [tornB, *] at this)
set_option maxHeartbeats 800000 in
set_option maxRecDepth 100000 in
theorem torn_yes (f : ByteArray) (a : Int) (t : ByteArray) (m : Int) (w : World) (h : tornB f a t m = true) :
    Calls Try.prog 94 #[.string f, .int .i64 a, .string t, .int .i64 m] w fun e w' => e = .returned (.tuple #[.string (putAt f a.toNat (tornW (f.extract a.toNat (a.toNat + 4)) t m)), .int .i64 0]) ∧ Below w.heap.size w w' := by
  simp only [tornB, Bool.and_eq_true, decide_eq_true_eq] at h
  obtain ⟨⟨⟨⟨h1, ⟨h2, h3⟩, h4⟩, h5⟩, h6⟩, h7⟩ := h
  obtain ⟨n, rfl⟩ := Int.eq_ofNat_of_zero_le h2
  have hn : n + 4 ≤ f.size := by omega
  simp only [Int.toNat_natCast]
  have hcv := Lib.run_convert_string_bytes (P := Try.prog) w 9 67 5 (f.extract n (n + 4)) (u := .string) Try.underlying9 Try.underlying67 Try.underlying5
  go_enter Try.func94, Try.ntmps94
  go_wp2
  have HB := Aside0.mk (bytes_below (Below.refl w.heap.size w) (Nat.le_refl _) 5 (f.extract n (n + 4)))
  have HC := Aside0.mk (brow_of_bytes w 5 (f.extract n (n + 4)))
  generalize Lib.bytesWorld w 5 (f.extract n (n + 4)) = W at *
  generalize grownCap w 4 0 5 = C at *
  have HS := Lib.hid (show (bytesOf (f.extract n (n + 4))).length = 4 by rw [bytesOf_length, ByteArray.size_extract]; omega)
  clear hcv
  obtain ⟨old, hold⟩ : ∃ old, old = f.extract n (n + 4) := ⟨_, rfl⟩
  have HOLD := Lib.hid hold
  rw [← hold] at HC HS
  clear hold
  go_loopw [41] (fun i wr => ∃ k : Nat, k ≤ 4 ∧ i = .int .i64 k ∧ Aside0 (BRow wr w.heap.size (turnTo (tornByte t m) k (bytesOf old))) ∧ Aside0 (Below w.heap.size w wr)) (fun i _ => 4 - (intOf i).toNat)
  case atStart => exact ⟨0, by omega, rfl, ⟨by rw [turnTo]; exact HC.out⟩, HB⟩
  case round =>
    obtain ⟨k, hk, rfl, HR1, HB1⟩ := hrel
    have HL1 := Lib.hid ((turnTo_length (tornByte t m) k (bytesOf old)).trans HS.out)
    by_cases hlt : k < 4
    · have hc := HR1.out.cell k (by rw [HL1.out]; exact hlt)
      have hf := HR1.out.free k (by rw [HL1.out]; exact hlt)
      rw [turnTo_at _ k _ (by rw [HS.out]; exact hlt)] at hc
      have HN := Lib.hid (turnTo_succ (tornByte t m) k (bytesOf old) (by rw [HS.out]; exact hlt))
      generalize (bytesOf old).getD k 0 = x at *
      have HX := Lib.hid (bt_at t k (by simp; omega)).symm
      simp only [Int.toNat_natCast] at HX
      have p1 : 0 ≤ (k : Int) := by omega
      have p2 : (k : Int) < (t.size : Int) := by omega
      go_wp2
      go_region_with (go_at_call 117; refine (mask_calls _ _ _).mono ?_; rintro e w' ⟨rfl, rfl⟩)
      all_goals
        go_wp2
        go_roundw
        case rel =>
          refine ⟨k + 1, by omega, by go_num, ⟨?_⟩, ⟨?_⟩⟩
          · have e5 : tornByte t m k x = Go.bits .and .u8 x (maskB ((t[k]'(by omega)).toNat : Int) (m - 8 * (k : Int))) := by rw [tornByte, HX.out]
            rw [← HN.out, e5]
            exact (HR1.out.set k _ (by rw [HL1.out]; exact hlt)).drew
          · exact below_drew1 (below_set HB1.out (Nat.le_refl _))
        case measure => simp [intOf]; omega
    · obtain rfl : k = 4 := by omega
      have hcs := fun C => BRow.string (P := Try.prog) (c := C) Try.underlying67 Try.underlying5 Try.underlying9 HR1.out (by rw [HL1.out]; decide)
      rw [HL1.out] at hcs
      have e4 : turnTo (tornByte t m) 4 (bytesOf old) = (bytesOf old).mapIdx (tornByte t m) := by
        rw [turnTo, ← HS.out]; simp
      rw [e4] at hcs
      have hsz : (strOfNums ((bytesOf old).mapIdx (tornByte t m))).size = 4 := by rw [strOfNums_size, List.length_mapIdx, HS.out]
      obtain ⟨s, hs⟩ : ∃ s, s = strOfNums ((bytesOf old).mapIdx (tornByte t m)) := ⟨_, rfl⟩
      rw [← hs] at hcs hsz
      have HSS := Lib.hid hs
      clear hs e4
      go_wp2
      go_quiet (fail)
      go_wp2
      go_ret2
      refine ⟨congrArg (fun z => Ending.returned (.tuple #[.string z, .int .i64 0])) ?_, ?_⟩
      · show f.extract 0 n ++ s ++ f.extract (n + 4) f.size = _
        rw [putAt, tornW, ← HOLD.out, ← HSS.out, hsz]
      · repeat (first | (with_reducible exact HB1.out) | (with_reducible apply pw_below_drewN) | (with_reducible apply below_drew1))
theorem nor_Torn.calls (a0 : ByteArray) (a1 : Int) (a2 : ByteArray) (a3 : Int) (r1 : ByteArray) (r2 : Int) (w : World) (h : nor_Torn.f a0 a1 a2 a3 = some (r1, r2)) :
    Calls Try.prog 94 #[.string a0, .int .i64 a1, .string a2, .int .i64 a3] w fun e w' => e = .returned (.tuple #[.string r1, .int .i64 r2]) ∧ Below w.heap.size w w' := by
  unfold nor_Torn.f at h
  cases hb : tornB a0 a1 a2 a3
  · rw [hb, if_neg (by decide)] at h
    simp only [Option.some.injEq, Prod.mk.injEq] at h
    obtain ⟨rfl, rfl⟩ := h
    exact torn_no _ _ _ _ _ hb
  · rw [hb, if_pos rfl] at h
    simp only [Option.some.injEq, Prod.mk.injEq] at h
    obtain ⟨rfl, rfl⟩ := h
    exact torn_yes _ _ _ _ _ hb
end Go.Proofs.Ytaibkfgpdgabaaa.P
end
