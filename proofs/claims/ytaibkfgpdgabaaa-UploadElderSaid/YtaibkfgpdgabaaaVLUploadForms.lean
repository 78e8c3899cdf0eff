/- A part of the proof of V: what its last text uses; conditions: see there. -/
import Derived.Test.YtaibkfgpdgabaaaVLUploadRow
section
namespace Go.Proofs.Ytaibkfgpdgabaaa.P
open Go.RowKit Go.Proofs.YtaibkfgpdgabaaaW.PrintWords Go.Proofs.YtaibkfgpdgabaaaW.PrintLast Go.Proofs.YtaibkfgpdgabaaaW.PrintMore
set_option linter.unusedVariables false
set_option linter.unusedSimpArgs false
theorem and1023_i64 (a : Int) : ∃ x : Nat, Go.bits .and .i64 a 1023 = (x : Int) ∧ x < 1024 := by
  have e : Go.bits .and .i64 a 1023 = IntKind.i64.wrap (((BitVec.ofInt 64 a).toNat &&& 1023 : Nat) : Int) := by
    show IntKind.i64.wrap ((BitVec.ofInt 64 a &&& BitVec.ofInt 64 (1023 : Int)).toNat : Int) = _
    rw [BitVec.toNat_and]
    rfl
  have h := Nat.and_lt_two_pow (n := 10) (BitVec.ofInt 64 a).toNat (y := 1023) (by decide)
  exact ⟨_, by rw [e, IntKind.wrap_i64]; omega, h⟩
def BadGive (f : ByteArray) (a0 a2 b n : Int) : Prop := f.size ≠ 768 ∨ a2 < 0 ∨ (a0 ≠ 0 ∧ a0 ≠ 6) ∨ b < 0 ∨ 65535 < b ∨ n < 0 ∨ 32 < n
theorem bad_give {f : ByteArray} {a0 a1 a2 a3 a4 b n : Int} (h : BadGive f a0 a2 b n) : giveMayB f a0 a1 a2 a3 a4 [] b n = false := by
  cases hm : giveMayB f a0 a1 a2 a3 a4 [] b n with
  | false => rfl
  | true =>
    exfalso
    simp only [giveMayB, devMayB, Bool.and_eq_true, Bool.or_eq_true, decide_eq_true_eq] at hm
    unfold BadGive at h
    omega
theorem giveNo_calls (f : ByteArray) (a0 a1 a2 a3 a4 b n : Int) (w : World) (h : BadGive f a0 a2 b n) :
    Calls Try.prog 17 #[.string f, .agg #[.int .i64 a0, .int .i64 a1, .int .i64 a2, .int .i64 a3, .int .i64 a4, .slice none 0 0], .int .i64 b, .int .i64 n] w fun e w' => ∃ (A : Option Addr) (c : Nat), e = .returned (.tuple #[.agg #[.int .i64 0, .int .i64 0, .int .i64 0, .int .i64 0, .int .i64 0, .slice A 0 c], .string ⟨#[]⟩, .int .i64 2000]) ∧ Aside0 (Kd.C k59 w' A ([] : List SOp).length []) ∧ Aside0 (Below w.heap.size w w') :=
  give_calls f a0 a1 a2 a3 a4 b n _ _ _ _ _ _ _ w (give_bad _ _ _ _ _ _ _ _ _ (bad_give h))
theorem modU (a m : Int) (hm : 1 ≤ m) (hm2 : m ≤ 1000) : ∃ x : Nat, (IntKind.u64.wrap a).tmod m = (x : Int) ∧ (x : Int) < m := by
  have h0 : 0 ≤ IntKind.u64.wrap a := by rw [IntKind.wrap_u64]; omega
  rw [Int.tmod_eq_emod_of_nonneg h0]
  have h1 := Int.emod_nonneg (IntKind.u64.wrap a) (by omega : m ≠ 0)
  have h2 := Int.emod_lt_of_pos (IntKind.u64.wrap a) (by omega : 0 < m)
  obtain ⟨x, hx⟩ := Int.eq_ofNat_of_zero_le h1
  exact ⟨x, hx, by omega⟩
set_option maxHeartbeats 1000000 in
set_option maxRecDepth 100000 in
theorem forms_0 (a0 a1 : Int) (w : World) (hx : (IntKind.u64.wrap a0).tmod 7 = 0) : Calls Try.prog 3 #[.int .i64 a0, .int .i64 a1] w fun e w' => e = .returned (.bool true) ∧ Below w.heap.size w w' := by
  obtain ⟨d, hd, hd1, hd2⟩ : ∃ d : Nat, wrap64 (1 + Go.bits .and .i64 a1 1023) = (d : Int) ∧ 1 ≤ (d : Int) ∧ (d : Int) ≤ 1024 := by
    obtain ⟨y, hy, hlt⟩ := and1023_i64 a1
    exact ⟨y + 1, by rw [hy, w64 (by omega) (by omega)]; omega, by omega, by omega⟩
  have HD := Lib.hid hd
  have HX := Lib.hid hx
  have hs := held_size
  clear hd hx
  go_enter Try.func3, Try.ntmps3
  go_upto_region 5 with (first | (go_at_call 15; refine (awake_calls _).mono ?_; rintro e w0 ⟨rfl, hb0⟩; have HB0 := Aside0.mk hb0; clear hb0) | (go_at_call 16; refine (held_calls _).mono ?_; rintro e wh1 ⟨rfl, hb⟩; have HH1 := Aside0.mk hb; clear hb))
  rw [HD.out]
  go_upto_region 7 with (fail)
  rw [HX.out]
  go_upto_region 20 with (go_at_call 17; refine (giveNo_calls _ _ _ _ _ _ _ _ _ (.inl (by rw [ext_size, held_size]; omega))).mono ?_; rintro e w1 ⟨A1, c1, rfl, HC1, HB1⟩)
  have K1 := Aside0.mk (fun i => newcell (Below.refl (w1.alloc (Obj.cells #[.int .i64 0, .int .i64 0, .int .i64 0, .int .i64 0, .int .i64 0, .slice A1 0 c1] 26)).heap.size (w1.alloc (Obj.cells #[.int .i64 0, .int .i64 0, .int .i64 0, .int .i64 0, .int .i64 0, .slice A1 0 c1] 26))) i)
  have HB2 := Aside0.mk (show Below wh1.heap.size wh1 w1 from bthen (by first | exact balloc _ _ | exact bthen (balloc _ _) (balloc _ _)) HB1.out)
  have KB := Aside0.mk (bthen HB0.out (bthen HH1.out (bthen HB2.out (balloc w1 (Obj.cells #[.int .i64 0, .int .i64 0, .int .i64 0, .int .i64 0, .int .i64 0, .slice A1 0 c1] 26)))))
  have N1 := Aside0.mk (Kd.C_below HC1.out (balloc w1 (Obj.cells #[.int .i64 0, .int .i64 0, .int .i64 0, .int .i64 0, .int .i64 0, .slice A1 0 c1] 26)))
  clear HH1 HB0 HB1 HB2 HC1 HD HX hs hd1 hd2
  generalize w1.alloc (Obj.cells #[.int .i64 0, .int .i64 0, .int .i64 0, .int .i64 0, .int .i64 0, .slice A1 0 c1] 26) = W at *
  have KS : Aside0 (W.cell? ⟨w1.heap.size, 0, none⟩ = some (.int .i64 0) ∧ W.cell? ⟨w1.heap.size, 1, none⟩ = some (.int .i64 0) ∧ W.cell? ⟨w1.heap.size, 2, none⟩ = some (.int .i64 0) ∧ W.cell? ⟨w1.heap.size, 3, none⟩ = some (.int .i64 0) ∧ W.cell? ⟨w1.heap.size, 4, none⟩ = some (.int .i64 0) ∧ W.cell? ⟨w1.heap.size, 5, none⟩ = some (.slice A1 0 c1)) := ⟨K1.out 0, K1.out 1, K1.out 2, K1.out 3, K1.out 4, K1.out 5⟩
  clear K1
  obtain ⟨k0, k1, k2, k3, k4, k5⟩ := KS.out
  go_wp2_with (first | (go_at_call 19; refine (num0_calls _ _).mono ?_; rintro e w' ⟨rfl, rfl⟩) | (go_at_call 18; ((with_reducible refine (same0_calls 0 0 0 0 0 A1 none c1 0 W N1.out (opsNil _)).mono ?_); rintro e ws1 ⟨rfl, hbs⟩; have HS1 := Aside0.mk hbs; clear hbs k0 k1 k2 k3 k4 k5)))
  go_ret
  exact ⟨rfl, bthen KB.out HS1.out⟩
set_option maxHeartbeats 1000000 in
set_option maxRecDepth 100000 in
theorem forms_1 (a0 a1 : Int) (w : World) (hx : (IntKind.u64.wrap a0).tmod 7 = 1) : Calls Try.prog 3 #[.int .i64 a0, .int .i64 a1] w fun e w' => e = .returned (.bool true) ∧ Below w.heap.size w w' := by
  obtain ⟨d, hd, hd1, hd2⟩ : ∃ d : Nat, wrap64 (1 + Go.bits .and .i64 a1 1023) = (d : Int) ∧ 1 ≤ (d : Int) ∧ (d : Int) ≤ 1024 := by
    obtain ⟨y, hy, hlt⟩ := and1023_i64 a1
    exact ⟨y + 1, by rw [hy, w64 (by omega) (by omega)]; omega, by omega, by omega⟩
  have HD := Lib.hid hd
  have HX := Lib.hid hx
  have hs := held_size
  clear hd hx
  go_enter Try.func3, Try.ntmps3
  go_upto_region 5 with (first | (go_at_call 15; refine (awake_calls _).mono ?_; rintro e w0 ⟨rfl, hb0⟩; have HB0 := Aside0.mk hb0; clear hb0) | (go_at_call 16; refine (held_calls _).mono ?_; rintro e wh1 ⟨rfl, hb⟩; have HH1 := Aside0.mk hb; clear hb))
  rw [HD.out]
  go_upto_region 7 with (fail)
  rw [HX.out]
  go_upto_region 20 with (go_at_call 17; refine (giveNo_calls _ _ _ _ _ _ _ _ _ (by unfold BadGive; omega)).mono ?_; rintro e w1 ⟨A1, c1, rfl, HC1, HB1⟩)
  have K1 := Aside0.mk (fun i => newcell (Below.refl (w1.alloc (Obj.cells #[.int .i64 0, .int .i64 0, .int .i64 0, .int .i64 0, .int .i64 0, .slice A1 0 c1] 26)).heap.size (w1.alloc (Obj.cells #[.int .i64 0, .int .i64 0, .int .i64 0, .int .i64 0, .int .i64 0, .slice A1 0 c1] 26))) i)
  have HB2 := Aside0.mk (show Below wh1.heap.size wh1 w1 from bthen (by first | exact balloc _ _ | exact bthen (balloc _ _) (balloc _ _)) HB1.out)
  have KB := Aside0.mk (bthen HB0.out (bthen HH1.out (bthen HB2.out (balloc w1 (Obj.cells #[.int .i64 0, .int .i64 0, .int .i64 0, .int .i64 0, .int .i64 0, .slice A1 0 c1] 26)))))
  have N1 := Aside0.mk (Kd.C_below HC1.out (balloc w1 (Obj.cells #[.int .i64 0, .int .i64 0, .int .i64 0, .int .i64 0, .int .i64 0, .slice A1 0 c1] 26)))
  clear HH1 HB0 HB1 HB2 HC1 HD HX hs hd1 hd2
  generalize w1.alloc (Obj.cells #[.int .i64 0, .int .i64 0, .int .i64 0, .int .i64 0, .int .i64 0, .slice A1 0 c1] 26) = W at *
  have KS : Aside0 (W.cell? ⟨w1.heap.size, 0, none⟩ = some (.int .i64 0) ∧ W.cell? ⟨w1.heap.size, 1, none⟩ = some (.int .i64 0) ∧ W.cell? ⟨w1.heap.size, 2, none⟩ = some (.int .i64 0) ∧ W.cell? ⟨w1.heap.size, 3, none⟩ = some (.int .i64 0) ∧ W.cell? ⟨w1.heap.size, 4, none⟩ = some (.int .i64 0) ∧ W.cell? ⟨w1.heap.size, 5, none⟩ = some (.slice A1 0 c1)) := ⟨K1.out 0, K1.out 1, K1.out 2, K1.out 3, K1.out 4, K1.out 5⟩
  clear K1
  obtain ⟨k0, k1, k2, k3, k4, k5⟩ := KS.out
  go_wp2_with (first | (go_at_call 19; refine (num0_calls _ _).mono ?_; rintro e w' ⟨rfl, rfl⟩) | (go_at_call 18; ((with_reducible refine (same0_calls 0 0 0 0 0 A1 none c1 0 W N1.out (opsNil _)).mono ?_); rintro e ws1 ⟨rfl, hbs⟩; have HS1 := Aside0.mk hbs; clear hbs k0 k1 k2 k3 k4 k5)))
  go_ret
  exact ⟨rfl, bthen KB.out HS1.out⟩
set_option maxHeartbeats 1000000 in
set_option maxRecDepth 100000 in
theorem forms_3 (a0 a1 : Int) (w : World) (hx : (IntKind.u64.wrap a0).tmod 7 = 3) : Calls Try.prog 3 #[.int .i64 a0, .int .i64 a1] w fun e w' => e = .returned (.bool true) ∧ Below w.heap.size w w' := by
  obtain ⟨d, hd, hd1, hd2⟩ : ∃ d : Nat, wrap64 (1 + Go.bits .and .i64 a1 1023) = (d : Int) ∧ 1 ≤ (d : Int) ∧ (d : Int) ≤ 1024 := by
    obtain ⟨y, hy, hlt⟩ := and1023_i64 a1
    exact ⟨y + 1, by rw [hy, w64 (by omega) (by omega)]; omega, by omega, by omega⟩
  have HD := Lib.hid hd
  have HX := Lib.hid hx
  have hs := held_size
  clear hd hx
  go_enter Try.func3, Try.ntmps3
  go_upto_region 5 with (first | (go_at_call 15; refine (awake_calls _).mono ?_; rintro e w0 ⟨rfl, hb0⟩; have HB0 := Aside0.mk hb0; clear hb0) | (go_at_call 16; refine (held_calls _).mono ?_; rintro e wh1 ⟨rfl, hb⟩; have HH1 := Aside0.mk hb; clear hb))
  rw [HD.out]
  go_upto_region 7 with (fail)
  rw [HX.out]
  go_upto_region 20 with (go_at_call 17; refine (giveNo_calls _ _ _ _ _ _ _ _ _ (by unfold BadGive; omega)).mono ?_; rintro e w1 ⟨A1, c1, rfl, HC1, HB1⟩)
  have K1 := Aside0.mk (fun i => newcell (Below.refl (w1.alloc (Obj.cells #[.int .i64 0, .int .i64 0, .int .i64 0, .int .i64 0, .int .i64 0, .slice A1 0 c1] 26)).heap.size (w1.alloc (Obj.cells #[.int .i64 0, .int .i64 0, .int .i64 0, .int .i64 0, .int .i64 0, .slice A1 0 c1] 26))) i)
  have HB2 := Aside0.mk (show Below wh1.heap.size wh1 w1 from bthen (by first | exact balloc _ _ | exact bthen (balloc _ _) (balloc _ _)) HB1.out)
  have KB := Aside0.mk (bthen HB0.out (bthen HH1.out (bthen HB2.out (balloc w1 (Obj.cells #[.int .i64 0, .int .i64 0, .int .i64 0, .int .i64 0, .int .i64 0, .slice A1 0 c1] 26)))))
  have N1 := Aside0.mk (Kd.C_below HC1.out (balloc w1 (Obj.cells #[.int .i64 0, .int .i64 0, .int .i64 0, .int .i64 0, .int .i64 0, .slice A1 0 c1] 26)))
  clear HH1 HB0 HB1 HB2 HC1 HD HX hs hd1 hd2
  generalize w1.alloc (Obj.cells #[.int .i64 0, .int .i64 0, .int .i64 0, .int .i64 0, .int .i64 0, .slice A1 0 c1] 26) = W at *
  have KS : Aside0 (W.cell? ⟨w1.heap.size, 0, none⟩ = some (.int .i64 0) ∧ W.cell? ⟨w1.heap.size, 1, none⟩ = some (.int .i64 0) ∧ W.cell? ⟨w1.heap.size, 2, none⟩ = some (.int .i64 0) ∧ W.cell? ⟨w1.heap.size, 3, none⟩ = some (.int .i64 0) ∧ W.cell? ⟨w1.heap.size, 4, none⟩ = some (.int .i64 0) ∧ W.cell? ⟨w1.heap.size, 5, none⟩ = some (.slice A1 0 c1)) := ⟨K1.out 0, K1.out 1, K1.out 2, K1.out 3, K1.out 4, K1.out 5⟩
  clear K1
  obtain ⟨k0, k1, k2, k3, k4, k5⟩ := KS.out
  go_wp2_with (first | (go_at_call 19; refine (num0_calls _ _).mono ?_; rintro e w' ⟨rfl, rfl⟩) | (go_at_call 18; ((with_reducible refine (same0_calls 0 0 0 0 0 A1 none c1 0 W N1.out (opsNil _)).mono ?_); rintro e ws1 ⟨rfl, hbs⟩; have HS1 := Aside0.mk hbs; clear hbs k0 k1 k2 k3 k4 k5)))
  go_ret
  exact ⟨rfl, bthen KB.out HS1.out⟩
set_option maxHeartbeats 1000000 in
set_option maxRecDepth 100000 in
theorem forms_4 (a0 a1 : Int) (w : World) (hx : (IntKind.u64.wrap a0).tmod 7 = 4) : Calls Try.prog 3 #[.int .i64 a0, .int .i64 a1] w fun e w' => e = .returned (.bool true) ∧ Below w.heap.size w w' := by
  obtain ⟨d, hd, hd1, hd2⟩ : ∃ d : Nat, wrap64 (1 + Go.bits .and .i64 a1 1023) = (d : Int) ∧ 1 ≤ (d : Int) ∧ (d : Int) ≤ 1024 := by
    obtain ⟨y, hy, hlt⟩ := and1023_i64 a1
    exact ⟨y + 1, by rw [hy, w64 (by omega) (by omega)]; omega, by omega, by omega⟩
  have HD := Lib.hid hd
  have HX := Lib.hid hx
  have hs := held_size
  clear hd hx
  go_enter Try.func3, Try.ntmps3
  go_upto_region 5 with (first | (go_at_call 15; refine (awake_calls _).mono ?_; rintro e w0 ⟨rfl, hb0⟩; have HB0 := Aside0.mk hb0; clear hb0) | (go_at_call 16; refine (held_calls _).mono ?_; rintro e wh1 ⟨rfl, hb⟩; have HH1 := Aside0.mk hb; clear hb))
  rw [HD.out]
  go_upto_region 7 with (fail)
  rw [HX.out]
  go_upto_region 20 with (go_at_call 17; refine (giveNo_calls _ _ _ _ _ _ _ _ _ (by unfold BadGive; omega)).mono ?_; rintro e w1 ⟨A1, c1, rfl, HC1, HB1⟩)
  have K1 := Aside0.mk (fun i => newcell (Below.refl (w1.alloc (Obj.cells #[.int .i64 0, .int .i64 0, .int .i64 0, .int .i64 0, .int .i64 0, .slice A1 0 c1] 26)).heap.size (w1.alloc (Obj.cells #[.int .i64 0, .int .i64 0, .int .i64 0, .int .i64 0, .int .i64 0, .slice A1 0 c1] 26))) i)
  have HB2 := Aside0.mk (show Below wh1.heap.size wh1 w1 from bthen (by first | exact balloc _ _ | exact bthen (balloc _ _) (balloc _ _)) HB1.out)
  have KB := Aside0.mk (bthen HB0.out (bthen HH1.out (bthen HB2.out (balloc w1 (Obj.cells #[.int .i64 0, .int .i64 0, .int .i64 0, .int .i64 0, .int .i64 0, .slice A1 0 c1] 26)))))
  have N1 := Aside0.mk (Kd.C_below HC1.out (balloc w1 (Obj.cells #[.int .i64 0, .int .i64 0, .int .i64 0, .int .i64 0, .int .i64 0, .slice A1 0 c1] 26)))
  clear HH1 HB0 HB1 HB2 HC1 HD HX hs hd1 hd2
  generalize w1.alloc (Obj.cells #[.int .i64 0, .int .i64 0, .int .i64 0, .int .i64 0, .int .i64 0, .slice A1 0 c1] 26) = W at *
  have KS : Aside0 (W.cell? ⟨w1.heap.size, 0, none⟩ = some (.int .i64 0) ∧ W.cell? ⟨w1.heap.size, 1, none⟩ = some (.int .i64 0) ∧ W.cell? ⟨w1.heap.size, 2, none⟩ = some (.int .i64 0) ∧ W.cell? ⟨w1.heap.size, 3, none⟩ = some (.int .i64 0) ∧ W.cell? ⟨w1.heap.size, 4, none⟩ = some (.int .i64 0) ∧ W.cell? ⟨w1.heap.size, 5, none⟩ = some (.slice A1 0 c1)) := ⟨K1.out 0, K1.out 1, K1.out 2, K1.out 3, K1.out 4, K1.out 5⟩
  clear K1
  obtain ⟨k0, k1, k2, k3, k4, k5⟩ := KS.out
  go_wp2_with (first | (go_at_call 19; refine (num0_calls _ _).mono ?_; rintro e w' ⟨rfl, rfl⟩) | (go_at_call 18; ((with_reducible refine (same0_calls 0 0 0 0 0 A1 none c1 0 W N1.out (opsNil _)).mono ?_); rintro e ws1 ⟨rfl, hbs⟩; have HS1 := Aside0.mk hbs; clear hbs k0 k1 k2 k3 k4 k5)))
  go_ret
  exact ⟨rfl, bthen KB.out HS1.out⟩
set_option maxHeartbeats 1000000 in
set_option maxRecDepth 100000 in
theorem forms_5 (a0 a1 : Int) (w : World) (hx : (IntKind.u64.wrap a0).tmod 7 = 5) : Calls Try.prog 3 #[.int .i64 a0, .int .i64 a1] w fun e w' => e = .returned (.bool true) ∧ Below w.heap.size w w' := by
  obtain ⟨d, hd, hd1, hd2⟩ : ∃ d : Nat, wrap64 (1 + Go.bits .and .i64 a1 1023) = (d : Int) ∧ 1 ≤ (d : Int) ∧ (d : Int) ≤ 1024 := by
    obtain ⟨y, hy, hlt⟩ := and1023_i64 a1
    exact ⟨y + 1, by rw [hy, w64 (by omega) (by omega)]; omega, by omega, by omega⟩
  have HD := Lib.hid hd
  have HX := Lib.hid hx
  have hs := held_size
  clear hd hx
  go_enter Try.func3, Try.ntmps3
  go_upto_region 5 with (first | (go_at_call 15; refine (awake_calls _).mono ?_; rintro e w0 ⟨rfl, hb0⟩; have HB0 := Aside0.mk hb0; clear hb0) | (go_at_call 16; refine (held_calls _).mono ?_; rintro e wh1 ⟨rfl, hb⟩; have HH1 := Aside0.mk hb; clear hb))
  rw [HD.out]
  go_upto_region 7 with (fail)
  rw [HX.out]
  go_upto_region 20 with (go_at_call 17; refine (giveNo_calls _ _ _ _ _ _ _ _ _ (by unfold BadGive; omega)).mono ?_; rintro e w1 ⟨A1, c1, rfl, HC1, HB1⟩)
  have K1 := Aside0.mk (fun i => newcell (Below.refl (w1.alloc (Obj.cells #[.int .i64 0, .int .i64 0, .int .i64 0, .int .i64 0, .int .i64 0, .slice A1 0 c1] 26)).heap.size (w1.alloc (Obj.cells #[.int .i64 0, .int .i64 0, .int .i64 0, .int .i64 0, .int .i64 0, .slice A1 0 c1] 26))) i)
  have HB2 := Aside0.mk (show Below wh1.heap.size wh1 w1 from bthen (by first | exact balloc _ _ | exact bthen (balloc _ _) (balloc _ _)) HB1.out)
  have KB := Aside0.mk (bthen HB0.out (bthen HH1.out (bthen HB2.out (balloc w1 (Obj.cells #[.int .i64 0, .int .i64 0, .int .i64 0, .int .i64 0, .int .i64 0, .slice A1 0 c1] 26)))))
  have N1 := Aside0.mk (Kd.C_below HC1.out (balloc w1 (Obj.cells #[.int .i64 0, .int .i64 0, .int .i64 0, .int .i64 0, .int .i64 0, .slice A1 0 c1] 26)))
  clear HH1 HB0 HB1 HB2 HC1 HD HX hs hd1 hd2
  generalize w1.alloc (Obj.cells #[.int .i64 0, .int .i64 0, .int .i64 0, .int .i64 0, .int .i64 0, .slice A1 0 c1] 26) = W at *
  have KS : Aside0 (W.cell? ⟨w1.heap.size, 0, none⟩ = some (.int .i64 0) ∧ W.cell? ⟨w1.heap.size, 1, none⟩ = some (.int .i64 0) ∧ W.cell? ⟨w1.heap.size, 2, none⟩ = some (.int .i64 0) ∧ W.cell? ⟨w1.heap.size, 3, none⟩ = some (.int .i64 0) ∧ W.cell? ⟨w1.heap.size, 4, none⟩ = some (.int .i64 0) ∧ W.cell? ⟨w1.heap.size, 5, none⟩ = some (.slice A1 0 c1)) := ⟨K1.out 0, K1.out 1, K1.out 2, K1.out 3, K1.out 4, K1.out 5⟩
  clear K1
  obtain ⟨k0, k1, k2, k3, k4, k5⟩ := KS.out
  go_wp2_with (first | (go_at_call 19; refine (num0_calls _ _).mono ?_; rintro e w' ⟨rfl, rfl⟩) | (go_at_call 18; ((with_reducible refine (same0_calls 0 0 0 0 0 A1 none c1 0 W N1.out (opsNil _)).mono ?_); rintro e ws1 ⟨rfl, hbs⟩; have HS1 := Aside0.mk hbs; clear hbs k0 k1 k2 k3 k4 k5)))
  go_ret
  exact ⟨rfl, bthen KB.out HS1.out⟩
set_option maxHeartbeats 1000000 in
set_option maxRecDepth 100000 in
theorem forms_6 (a0 a1 : Int) (w : World) (hx : (IntKind.u64.wrap a0).tmod 7 = 6) : Calls Try.prog 3 #[.int .i64 a0, .int .i64 a1] w fun e w' => e = .returned (.bool true) ∧ Below w.heap.size w w' := by
  obtain ⟨d, hd, hd1, hd2⟩ : ∃ d : Nat, wrap64 (1 + Go.bits .and .i64 a1 1023) = (d : Int) ∧ 1 ≤ (d : Int) ∧ (d : Int) ≤ 1024 := by
    obtain ⟨y, hy, hlt⟩ := and1023_i64 a1
    exact ⟨y + 1, by rw [hy, w64 (by omega) (by omega)]; omega, by omega, by omega⟩
  have HD := Lib.hid hd
  have HX := Lib.hid hx
  have hs := held_size
  clear hd hx
  go_enter Try.func3, Try.ntmps3
  go_upto_region 5 with (first | (go_at_call 15; refine (awake_calls _).mono ?_; rintro e w0 ⟨rfl, hb0⟩; have HB0 := Aside0.mk hb0; clear hb0) | (go_at_call 16; refine (held_calls _).mono ?_; rintro e wh1 ⟨rfl, hb⟩; have HH1 := Aside0.mk hb; clear hb))
  rw [HD.out]
  go_upto_region 7 with (fail)
  rw [HX.out]
  go_upto_region 20 with (go_at_call 17; refine (giveNo_calls _ _ _ _ _ _ _ _ _ (by unfold BadGive; omega)).mono ?_; rintro e w1 ⟨A1, c1, rfl, HC1, HB1⟩)
  have K1 := Aside0.mk (fun i => newcell (Below.refl (w1.alloc (Obj.cells #[.int .i64 0, .int .i64 0, .int .i64 0, .int .i64 0, .int .i64 0, .slice A1 0 c1] 26)).heap.size (w1.alloc (Obj.cells #[.int .i64 0, .int .i64 0, .int .i64 0, .int .i64 0, .int .i64 0, .slice A1 0 c1] 26))) i)
  have HB2 := Aside0.mk (show Below wh1.heap.size wh1 w1 from bthen (by first | exact balloc _ _ | exact bthen (balloc _ _) (balloc _ _)) HB1.out)
  have KB := Aside0.mk (bthen HB0.out (bthen HH1.out (bthen HB2.out (balloc w1 (Obj.cells #[.int .i64 0, .int .i64 0, .int .i64 0, .int .i64 0, .int .i64 0, .slice A1 0 c1] 26)))))
  have N1 := Aside0.mk (Kd.C_below HC1.out (balloc w1 (Obj.cells #[.int .i64 0, .int .i64 0, .int .i64 0, .int .i64 0, .int .i64 0, .slice A1 0 c1] 26)))
  clear HH1 HB0 HB1 HB2 HC1 HD HX hs hd1 hd2
  generalize w1.alloc (Obj.cells #[.int .i64 0, .int .i64 0, .int .i64 0, .int .i64 0, .int .i64 0, .slice A1 0 c1] 26) = W at *
  have KS : Aside0 (W.cell? ⟨w1.heap.size, 0, none⟩ = some (.int .i64 0) ∧ W.cell? ⟨w1.heap.size, 1, none⟩ = some (.int .i64 0) ∧ W.cell? ⟨w1.heap.size, 2, none⟩ = some (.int .i64 0) ∧ W.cell? ⟨w1.heap.size, 3, none⟩ = some (.int .i64 0) ∧ W.cell? ⟨w1.heap.size, 4, none⟩ = some (.int .i64 0) ∧ W.cell? ⟨w1.heap.size, 5, none⟩ = some (.slice A1 0 c1)) := ⟨K1.out 0, K1.out 1, K1.out 2, K1.out 3, K1.out 4, K1.out 5⟩
  clear K1
  obtain ⟨k0, k1, k2, k3, k4, k5⟩ := KS.out
  go_wp2_with (first | (go_at_call 19; refine (num0_calls _ _).mono ?_; rintro e w' ⟨rfl, rfl⟩) | (go_at_call 18; ((with_reducible refine (same0_calls 0 0 0 0 0 A1 none c1 0 W N1.out (opsNil _)).mono ?_); rintro e ws1 ⟨rfl, hbs⟩; have HS1 := Aside0.mk hbs; clear hbs k0 k1 k2 k3 k4 k5)))
  go_ret
  exact ⟨rfl, bthen KB.out HS1.out⟩
set_option maxHeartbeats 1000000 in
set_option maxRecDepth 100000 in
theorem forms_2_0 (a0 a1 : Int) (w : World) (hx : (IntKind.u64.wrap a0).tmod 7 = 2) (hz : (IntKind.u64.wrap a0 / 8).tmod 6 = 0) : Calls Try.prog 3 #[.int .i64 a0, .int .i64 a1] w fun e w' => e = .returned (.bool true) ∧ Below w.heap.size w w' := by
  obtain ⟨d, hd, hd1, hd2⟩ : ∃ d : Nat, wrap64 (1 + Go.bits .and .i64 a1 1023) = (d : Int) ∧ 1 ≤ (d : Int) ∧ (d : Int) ≤ 1024 := by
    obtain ⟨y, hy, hlt⟩ := and1023_i64 a1
    exact ⟨y + 1, by rw [hy, w64 (by omega) (by omega)]; omega, by omega, by omega⟩
  have HD := Lib.hid hd
  have HX := Lib.hid hx
  have hs := held_size
  clear hd hx
  go_enter Try.func3, Try.ntmps3
  go_upto_region 5 with (first | (go_at_call 15; refine (awake_calls _).mono ?_; rintro e w0 ⟨rfl, hb0⟩; have HB0 := Aside0.mk hb0; clear hb0) | (go_at_call 16; refine (held_calls _).mono ?_; rintro e wh1 ⟨rfl, hb⟩; have HH1 := Aside0.mk hb; clear hb))
  rw [HD.out]
  go_upto_region 7 with (fail)
  rw [HX.out]
  go_upto_region 12 with (fail)
  have hz2 := hz
  rw [show (8 : Int) = 2 ^ 3 from rfl] at hz2
  go_upto_region 20 with (go_at_call 17; refine (giveNo_calls _ _ _ _ _ _ _ _ _ (by unfold BadGive; omega)).mono ?_; rintro e w1 ⟨A1, c1, rfl, HC1, HB1⟩)
  have K1 := Aside0.mk (fun i => newcell (Below.refl (w1.alloc (Obj.cells #[.int .i64 0, .int .i64 0, .int .i64 0, .int .i64 0, .int .i64 0, .slice A1 0 c1] 26)).heap.size (w1.alloc (Obj.cells #[.int .i64 0, .int .i64 0, .int .i64 0, .int .i64 0, .int .i64 0, .slice A1 0 c1] 26))) i)
  have HB2 := Aside0.mk (show Below wh1.heap.size wh1 w1 from bthen (by first | exact balloc _ _ | exact bthen (balloc _ _) (balloc _ _)) HB1.out)
  have KB := Aside0.mk (bthen HB0.out (bthen HH1.out (bthen HB2.out (balloc w1 (Obj.cells #[.int .i64 0, .int .i64 0, .int .i64 0, .int .i64 0, .int .i64 0, .slice A1 0 c1] 26)))))
  have N1 := Aside0.mk (Kd.C_below HC1.out (balloc w1 (Obj.cells #[.int .i64 0, .int .i64 0, .int .i64 0, .int .i64 0, .int .i64 0, .slice A1 0 c1] 26)))
  clear hz hz2 HH1 HB0 HB1 HB2 HC1 HD HX hs hd1 hd2
  generalize w1.alloc (Obj.cells #[.int .i64 0, .int .i64 0, .int .i64 0, .int .i64 0, .int .i64 0, .slice A1 0 c1] 26) = W at *
  have KS : Aside0 (W.cell? ⟨w1.heap.size, 0, none⟩ = some (.int .i64 0) ∧ W.cell? ⟨w1.heap.size, 1, none⟩ = some (.int .i64 0) ∧ W.cell? ⟨w1.heap.size, 2, none⟩ = some (.int .i64 0) ∧ W.cell? ⟨w1.heap.size, 3, none⟩ = some (.int .i64 0) ∧ W.cell? ⟨w1.heap.size, 4, none⟩ = some (.int .i64 0) ∧ W.cell? ⟨w1.heap.size, 5, none⟩ = some (.slice A1 0 c1)) := ⟨K1.out 0, K1.out 1, K1.out 2, K1.out 3, K1.out 4, K1.out 5⟩
  clear K1
  obtain ⟨k0, k1, k2, k3, k4, k5⟩ := KS.out
  go_wp2_with (first | (go_at_call 19; refine (num0_calls _ _).mono ?_; rintro e w' ⟨rfl, rfl⟩) | (go_at_call 18; ((with_reducible refine (same0_calls 0 0 0 0 0 A1 none c1 0 W N1.out (opsNil _)).mono ?_); rintro e ws1 ⟨rfl, hbs⟩; have HS1 := Aside0.mk hbs; clear hbs k0 k1 k2 k3 k4 k5)))
  go_ret
  exact ⟨rfl, bthen KB.out HS1.out⟩
set_option maxHeartbeats 1000000 in
set_option maxRecDepth 100000 in
theorem forms_2_1 (a0 a1 : Int) (w : World) (hx : (IntKind.u64.wrap a0).tmod 7 = 2) (hz : (IntKind.u64.wrap a0 / 8).tmod 6 = 1) : Calls Try.prog 3 #[.int .i64 a0, .int .i64 a1] w fun e w' => e = .returned (.bool true) ∧ Below w.heap.size w w' := by
  obtain ⟨d, hd, hd1, hd2⟩ : ∃ d : Nat, wrap64 (1 + Go.bits .and .i64 a1 1023) = (d : Int) ∧ 1 ≤ (d : Int) ∧ (d : Int) ≤ 1024 := by
    obtain ⟨y, hy, hlt⟩ := and1023_i64 a1
    exact ⟨y + 1, by rw [hy, w64 (by omega) (by omega)]; omega, by omega, by omega⟩
  have HD := Lib.hid hd
  have HX := Lib.hid hx
  have hs := held_size
  clear hd hx
  go_enter Try.func3, Try.ntmps3
  go_upto_region 5 with (first | (go_at_call 15; refine (awake_calls _).mono ?_; rintro e w0 ⟨rfl, hb0⟩; have HB0 := Aside0.mk hb0; clear hb0) | (go_at_call 16; refine (held_calls _).mono ?_; rintro e wh1 ⟨rfl, hb⟩; have HH1 := Aside0.mk hb; clear hb))
  rw [HD.out]
  go_upto_region 7 with (fail)
  rw [HX.out]
  go_upto_region 12 with (fail)
  have hz2 := hz
  rw [show (8 : Int) = 2 ^ 3 from rfl] at hz2
  go_upto_region 20 with (go_at_call 17; refine (giveNo_calls _ _ _ _ _ _ _ _ _ (by unfold BadGive; omega)).mono ?_; rintro e w1 ⟨A1, c1, rfl, HC1, HB1⟩)
  have K1 := Aside0.mk (fun i => newcell (Below.refl (w1.alloc (Obj.cells #[.int .i64 0, .int .i64 0, .int .i64 0, .int .i64 0, .int .i64 0, .slice A1 0 c1] 26)).heap.size (w1.alloc (Obj.cells #[.int .i64 0, .int .i64 0, .int .i64 0, .int .i64 0, .int .i64 0, .slice A1 0 c1] 26))) i)
  have HB2 := Aside0.mk (show Below wh1.heap.size wh1 w1 from bthen (by first | exact balloc _ _ | exact bthen (balloc _ _) (balloc _ _)) HB1.out)
  have KB := Aside0.mk (bthen HB0.out (bthen HH1.out (bthen HB2.out (balloc w1 (Obj.cells #[.int .i64 0, .int .i64 0, .int .i64 0, .int .i64 0, .int .i64 0, .slice A1 0 c1] 26)))))
  have N1 := Aside0.mk (Kd.C_below HC1.out (balloc w1 (Obj.cells #[.int .i64 0, .int .i64 0, .int .i64 0, .int .i64 0, .int .i64 0, .slice A1 0 c1] 26)))
  clear hz hz2 HH1 HB0 HB1 HB2 HC1 HD HX hs hd1 hd2
  generalize w1.alloc (Obj.cells #[.int .i64 0, .int .i64 0, .int .i64 0, .int .i64 0, .int .i64 0, .slice A1 0 c1] 26) = W at *
  have KS : Aside0 (W.cell? ⟨w1.heap.size, 0, none⟩ = some (.int .i64 0) ∧ W.cell? ⟨w1.heap.size, 1, none⟩ = some (.int .i64 0) ∧ W.cell? ⟨w1.heap.size, 2, none⟩ = some (.int .i64 0) ∧ W.cell? ⟨w1.heap.size, 3, none⟩ = some (.int .i64 0) ∧ W.cell? ⟨w1.heap.size, 4, none⟩ = some (.int .i64 0) ∧ W.cell? ⟨w1.heap.size, 5, none⟩ = some (.slice A1 0 c1)) := ⟨K1.out 0, K1.out 1, K1.out 2, K1.out 3, K1.out 4, K1.out 5⟩
  clear K1
  obtain ⟨k0, k1, k2, k3, k4, k5⟩ := KS.out
  go_wp2_with (first | (go_at_call 19; refine (num0_calls _ _).mono ?_; rintro e w' ⟨rfl, rfl⟩) | (go_at_call 18; ((with_reducible refine (same0_calls 0 0 0 0 0 A1 none c1 0 W N1.out (opsNil _)).mono ?_); rintro e ws1 ⟨rfl, hbs⟩; have HS1 := Aside0.mk hbs; clear hbs k0 k1 k2 k3 k4 k5)))
  go_ret
  exact ⟨rfl, bthen KB.out HS1.out⟩
set_option maxHeartbeats 1000000 in
set_option maxRecDepth 100000 in
theorem forms_2_2 (a0 a1 : Int) (w : World) (hx : (IntKind.u64.wrap a0).tmod 7 = 2) (hz : (IntKind.u64.wrap a0 / 8).tmod 6 = 2) : Calls Try.prog 3 #[.int .i64 a0, .int .i64 a1] w fun e w' => e = .returned (.bool true) ∧ Below w.heap.size w w' := by
  obtain ⟨d, hd, hd1, hd2⟩ : ∃ d : Nat, wrap64 (1 + Go.bits .and .i64 a1 1023) = (d : Int) ∧ 1 ≤ (d : Int) ∧ (d : Int) ≤ 1024 := by
    obtain ⟨y, hy, hlt⟩ := and1023_i64 a1
    exact ⟨y + 1, by rw [hy, w64 (by omega) (by omega)]; omega, by omega, by omega⟩
  have HD := Lib.hid hd
  have HX := Lib.hid hx
  have hs := held_size
  clear hd hx
  go_enter Try.func3, Try.ntmps3
  go_upto_region 5 with (first | (go_at_call 15; refine (awake_calls _).mono ?_; rintro e w0 ⟨rfl, hb0⟩; have HB0 := Aside0.mk hb0; clear hb0) | (go_at_call 16; refine (held_calls _).mono ?_; rintro e wh1 ⟨rfl, hb⟩; have HH1 := Aside0.mk hb; clear hb))
  rw [HD.out]
  go_upto_region 7 with (fail)
  rw [HX.out]
  go_upto_region 12 with (fail)
  have hz2 := hz
  rw [show (8 : Int) = 2 ^ 3 from rfl] at hz2
  go_upto_region 20 with (go_at_call 17; refine (giveNo_calls _ _ _ _ _ _ _ _ _ (by unfold BadGive; omega)).mono ?_; rintro e w1 ⟨A1, c1, rfl, HC1, HB1⟩)
  have K1 := Aside0.mk (fun i => newcell (Below.refl (w1.alloc (Obj.cells #[.int .i64 0, .int .i64 0, .int .i64 0, .int .i64 0, .int .i64 0, .slice A1 0 c1] 26)).heap.size (w1.alloc (Obj.cells #[.int .i64 0, .int .i64 0, .int .i64 0, .int .i64 0, .int .i64 0, .slice A1 0 c1] 26))) i)
  have HB2 := Aside0.mk (show Below wh1.heap.size wh1 w1 from bthen (by first | exact balloc _ _ | exact bthen (balloc _ _) (balloc _ _)) HB1.out)
  have KB := Aside0.mk (bthen HB0.out (bthen HH1.out (bthen HB2.out (balloc w1 (Obj.cells #[.int .i64 0, .int .i64 0, .int .i64 0, .int .i64 0, .int .i64 0, .slice A1 0 c1] 26)))))
  have N1 := Aside0.mk (Kd.C_below HC1.out (balloc w1 (Obj.cells #[.int .i64 0, .int .i64 0, .int .i64 0, .int .i64 0, .int .i64 0, .slice A1 0 c1] 26)))
  clear hz hz2 HH1 HB0 HB1 HB2 HC1 HD HX hs hd1 hd2
  generalize w1.alloc (Obj.cells #[.int .i64 0, .int .i64 0, .int .i64 0, .int .i64 0, .int .i64 0, .slice A1 0 c1] 26) = W at *
  have KS : Aside0 (W.cell? ⟨w1.heap.size, 0, none⟩ = some (.int .i64 0) ∧ W.cell? ⟨w1.heap.size, 1, none⟩ = some (.int .i64 0) ∧ W.cell? ⟨w1.heap.size, 2, none⟩ = some (.int .i64 0) ∧ W.cell? ⟨w1.heap.size, 3, none⟩ = some (.int .i64 0) ∧ W.cell? ⟨w1.heap.size, 4, none⟩ = some (.int .i64 0) ∧ W.cell? ⟨w1.heap.size, 5, none⟩ = some (.slice A1 0 c1)) := ⟨K1.out 0, K1.out 1, K1.out 2, K1.out 3, K1.out 4, K1.out 5⟩
  clear K1
  obtain ⟨k0, k1, k2, k3, k4, k5⟩ := KS.out
  go_wp2_with (first | (go_at_call 19; refine (num0_calls _ _).mono ?_; rintro e w' ⟨rfl, rfl⟩) | (go_at_call 18; ((with_reducible refine (same0_calls 0 0 0 0 0 A1 none c1 0 W N1.out (opsNil _)).mono ?_); rintro e ws1 ⟨rfl, hbs⟩; have HS1 := Aside0.mk hbs; clear hbs k0 k1 k2 k3 k4 k5)))
  go_ret
  exact ⟨rfl, bthen KB.out HS1.out⟩
set_option maxHeartbeats 1000000 in
set_option maxRecDepth 100000 in
theorem forms_2_3 (a0 a1 : Int) (w : World) (hx : (IntKind.u64.wrap a0).tmod 7 = 2) (hz : (IntKind.u64.wrap a0 / 8).tmod 6 = 3) : Calls Try.prog 3 #[.int .i64 a0, .int .i64 a1] w fun e w' => e = .returned (.bool true) ∧ Below w.heap.size w w' := by
  obtain ⟨d, hd, hd1, hd2⟩ : ∃ d : Nat, wrap64 (1 + Go.bits .and .i64 a1 1023) = (d : Int) ∧ 1 ≤ (d : Int) ∧ (d : Int) ≤ 1024 := by
    obtain ⟨y, hy, hlt⟩ := and1023_i64 a1
    exact ⟨y + 1, by rw [hy, w64 (by omega) (by omega)]; omega, by omega, by omega⟩
  have HD := Lib.hid hd
  have HX := Lib.hid hx
  have hs := held_size
  clear hd hx
  go_enter Try.func3, Try.ntmps3
  go_upto_region 5 with (first | (go_at_call 15; refine (awake_calls _).mono ?_; rintro e w0 ⟨rfl, hb0⟩; have HB0 := Aside0.mk hb0; clear hb0) | (go_at_call 16; refine (held_calls _).mono ?_; rintro e wh1 ⟨rfl, hb⟩; have HH1 := Aside0.mk hb; clear hb))
  rw [HD.out]
  go_upto_region 7 with (fail)
  rw [HX.out]
  go_upto_region 12 with (fail)
  have hz2 := hz
  rw [show (8 : Int) = 2 ^ 3 from rfl] at hz2
  go_upto_region 20 with (go_at_call 17; refine (giveNo_calls _ _ _ _ _ _ _ _ _ (by unfold BadGive; omega)).mono ?_; rintro e w1 ⟨A1, c1, rfl, HC1, HB1⟩)
  have K1 := Aside0.mk (fun i => newcell (Below.refl (w1.alloc (Obj.cells #[.int .i64 0, .int .i64 0, .int .i64 0, .int .i64 0, .int .i64 0, .slice A1 0 c1] 26)).heap.size (w1.alloc (Obj.cells #[.int .i64 0, .int .i64 0, .int .i64 0, .int .i64 0, .int .i64 0, .slice A1 0 c1] 26))) i)
  have HB2 := Aside0.mk (show Below wh1.heap.size wh1 w1 from bthen (by first | exact balloc _ _ | exact bthen (balloc _ _) (balloc _ _)) HB1.out)
  have KB := Aside0.mk (bthen HB0.out (bthen HH1.out (bthen HB2.out (balloc w1 (Obj.cells #[.int .i64 0, .int .i64 0, .int .i64 0, .int .i64 0, .int .i64 0, .slice A1 0 c1] 26)))))
  have N1 := Aside0.mk (Kd.C_below HC1.out (balloc w1 (Obj.cells #[.int .i64 0, .int .i64 0, .int .i64 0, .int .i64 0, .int .i64 0, .slice A1 0 c1] 26)))
  clear hz hz2 HH1 HB0 HB1 HB2 HC1 HD HX hs hd1 hd2
  generalize w1.alloc (Obj.cells #[.int .i64 0, .int .i64 0, .int .i64 0, .int .i64 0, .int .i64 0, .slice A1 0 c1] 26) = W at *
  have KS : Aside0 (W.cell? ⟨w1.heap.size, 0, none⟩ = some (.int .i64 0) ∧ W.cell? ⟨w1.heap.size, 1, none⟩ = some (.int .i64 0) ∧ W.cell? ⟨w1.heap.size, 2, none⟩ = some (.int .i64 0) ∧ W.cell? ⟨w1.heap.size, 3, none⟩ = some (.int .i64 0) ∧ W.cell? ⟨w1.heap.size, 4, none⟩ = some (.int .i64 0) ∧ W.cell? ⟨w1.heap.size, 5, none⟩ = some (.slice A1 0 c1)) := ⟨K1.out 0, K1.out 1, K1.out 2, K1.out 3, K1.out 4, K1.out 5⟩
  clear K1
  obtain ⟨k0, k1, k2, k3, k4, k5⟩ := KS.out
  go_wp2_with (first | (go_at_call 19; refine (num0_calls _ _).mono ?_; rintro e w' ⟨rfl, rfl⟩) | (go_at_call 18; ((with_reducible refine (same0_calls 0 0 0 0 0 A1 none c1 0 W N1.out (opsNil _)).mono ?_); rintro e ws1 ⟨rfl, hbs⟩; have HS1 := Aside0.mk hbs; clear hbs k0 k1 k2 k3 k4 k5)))
  go_ret
  exact ⟨rfl, bthen KB.out HS1.out⟩
set_option maxHeartbeats 1000000 in
set_option maxRecDepth 100000 in
theorem forms_2_4 (a0 a1 : Int) (w : World) (hx : (IntKind.u64.wrap a0).tmod 7 = 2) (hz : (IntKind.u64.wrap a0 / 8).tmod 6 = 4) : Calls Try.prog 3 #[.int .i64 a0, .int .i64 a1] w fun e w' => e = .returned (.bool true) ∧ Below w.heap.size w w' := by
  obtain ⟨d, hd, hd1, hd2⟩ : ∃ d : Nat, wrap64 (1 + Go.bits .and .i64 a1 1023) = (d : Int) ∧ 1 ≤ (d : Int) ∧ (d : Int) ≤ 1024 := by
    obtain ⟨y, hy, hlt⟩ := and1023_i64 a1
    exact ⟨y + 1, by rw [hy, w64 (by omega) (by omega)]; omega, by omega, by omega⟩
  have HD := Lib.hid hd
  have HX := Lib.hid hx
  have hs := held_size
  clear hd hx
  go_enter Try.func3, Try.ntmps3
  go_upto_region 5 with (first | (go_at_call 15; refine (awake_calls _).mono ?_; rintro e w0 ⟨rfl, hb0⟩; have HB0 := Aside0.mk hb0; clear hb0) | (go_at_call 16; refine (held_calls _).mono ?_; rintro e wh1 ⟨rfl, hb⟩; have HH1 := Aside0.mk hb; clear hb))
  rw [HD.out]
  go_upto_region 7 with (fail)
  rw [HX.out]
  go_upto_region 12 with (fail)
  have hz2 := hz
  rw [show (8 : Int) = 2 ^ 3 from rfl] at hz2
  go_upto_region 20 with (go_at_call 17; refine (giveNo_calls _ _ _ _ _ _ _ _ _ (by unfold BadGive; omega)).mono ?_; rintro e w1 ⟨A1, c1, rfl, HC1, HB1⟩)
  have K1 := Aside0.mk (fun i => newcell (Below.refl (w1.alloc (Obj.cells #[.int .i64 0, .int .i64 0, .int .i64 0, .int .i64 0, .int .i64 0, .slice A1 0 c1] 26)).heap.size (w1.alloc (Obj.cells #[.int .i64 0, .int .i64 0, .int .i64 0, .int .i64 0, .int .i64 0, .slice A1 0 c1] 26))) i)
  have HB2 := Aside0.mk (show Below wh1.heap.size wh1 w1 from bthen (by first | exact balloc _ _ | exact bthen (balloc _ _) (balloc _ _)) HB1.out)
  have KB := Aside0.mk (bthen HB0.out (bthen HH1.out (bthen HB2.out (balloc w1 (Obj.cells #[.int .i64 0, .int .i64 0, .int .i64 0, .int .i64 0, .int .i64 0, .slice A1 0 c1] 26)))))
  have N1 := Aside0.mk (Kd.C_below HC1.out (balloc w1 (Obj.cells #[.int .i64 0, .int .i64 0, .int .i64 0, .int .i64 0, .int .i64 0, .slice A1 0 c1] 26)))
  clear hz hz2 HH1 HB0 HB1 HB2 HC1 HD HX hs hd1 hd2
  generalize w1.alloc (Obj.cells #[.int .i64 0, .int .i64 0, .int .i64 0, .int .i64 0, .int .i64 0, .slice A1 0 c1] 26) = W at *
  have KS : Aside0 (W.cell? ⟨w1.heap.size, 0, none⟩ = some (.int .i64 0) ∧ W.cell? ⟨w1.heap.size, 1, none⟩ = some (.int .i64 0) ∧ W.cell? ⟨w1.heap.size, 2, none⟩ = some (.int .i64 0) ∧ W.cell? ⟨w1.heap.size, 3, none⟩ = some (.int .i64 0) ∧ W.cell? ⟨w1.heap.size, 4, none⟩ = some (.int .i64 0) ∧ W.cell? ⟨w1.heap.size, 5, none⟩ = some (.slice A1 0 c1)) := ⟨K1.out 0, K1.out 1, K1.out 2, K1.out 3, K1.out 4, K1.out 5⟩
  clear K1
  obtain ⟨k0, k1, k2, k3, k4, k5⟩ := KS.out
  go_wp2_with (first | (go_at_call 19; refine (num0_calls _ _).mono ?_; rintro e w' ⟨rfl, rfl⟩) | (go_at_call 18; ((with_reducible refine (same0_calls 0 0 0 0 0 A1 none c1 0 W N1.out (opsNil _)).mono ?_); rintro e ws1 ⟨rfl, hbs⟩; have HS1 := Aside0.mk hbs; clear hbs k0 k1 k2 k3 k4 k5)))
  go_ret
  exact ⟨rfl, bthen KB.out HS1.out⟩
set_option maxHeartbeats 1000000 in
set_option maxRecDepth 100000 in
theorem forms_2_5 (a0 a1 : Int) (w : World) (hx : (IntKind.u64.wrap a0).tmod 7 = 2) (hz : (IntKind.u64.wrap a0 / 8).tmod 6 = 5) : Calls Try.prog 3 #[.int .i64 a0, .int .i64 a1] w fun e w' => e = .returned (.bool true) ∧ Below w.heap.size w w' := by
  obtain ⟨d, hd, hd1, hd2⟩ : ∃ d : Nat, wrap64 (1 + Go.bits .and .i64 a1 1023) = (d : Int) ∧ 1 ≤ (d : Int) ∧ (d : Int) ≤ 1024 := by
    obtain ⟨y, hy, hlt⟩ := and1023_i64 a1
    exact ⟨y + 1, by rw [hy, w64 (by omega) (by omega)]; omega, by omega, by omega⟩
  have HD := Lib.hid hd
  have HX := Lib.hid hx
  have hs := held_size
  clear hd hx
  go_enter Try.func3, Try.ntmps3
  go_upto_region 5 with (first | (go_at_call 15; refine (awake_calls _).mono ?_; rintro e w0 ⟨rfl, hb0⟩; have HB0 := Aside0.mk hb0; clear hb0) | (go_at_call 16; refine (held_calls _).mono ?_; rintro e wh1 ⟨rfl, hb⟩; have HH1 := Aside0.mk hb; clear hb))
  rw [HD.out]
  go_upto_region 7 with (fail)
  rw [HX.out]
  go_upto_region 12 with (fail)
  have hz2 := hz
  rw [show (8 : Int) = 2 ^ 3 from rfl] at hz2
  go_upto_region 20 with (go_at_call 17; refine (giveNo_calls _ _ _ _ _ _ _ _ _ (by unfold BadGive; omega)).mono ?_; rintro e w1 ⟨A1, c1, rfl, HC1, HB1⟩)
  have K1 := Aside0.mk (fun i => newcell (Below.refl (w1.alloc (Obj.cells #[.int .i64 0, .int .i64 0, .int .i64 0, .int .i64 0, .int .i64 0, .slice A1 0 c1] 26)).heap.size (w1.alloc (Obj.cells #[.int .i64 0, .int .i64 0, .int .i64 0, .int .i64 0, .int .i64 0, .slice A1 0 c1] 26))) i)
  have HB2 := Aside0.mk (show Below wh1.heap.size wh1 w1 from bthen (by first | exact balloc _ _ | exact bthen (balloc _ _) (balloc _ _)) HB1.out)
  have KB := Aside0.mk (bthen HB0.out (bthen HH1.out (bthen HB2.out (balloc w1 (Obj.cells #[.int .i64 0, .int .i64 0, .int .i64 0, .int .i64 0, .int .i64 0, .slice A1 0 c1] 26)))))
  have N1 := Aside0.mk (Kd.C_below HC1.out (balloc w1 (Obj.cells #[.int .i64 0, .int .i64 0, .int .i64 0, .int .i64 0, .int .i64 0, .slice A1 0 c1] 26)))
  clear hz hz2 HH1 HB0 HB1 HB2 HC1 HD HX hs hd1 hd2
  generalize w1.alloc (Obj.cells #[.int .i64 0, .int .i64 0, .int .i64 0, .int .i64 0, .int .i64 0, .slice A1 0 c1] 26) = W at *
  have KS : Aside0 (W.cell? ⟨w1.heap.size, 0, none⟩ = some (.int .i64 0) ∧ W.cell? ⟨w1.heap.size, 1, none⟩ = some (.int .i64 0) ∧ W.cell? ⟨w1.heap.size, 2, none⟩ = some (.int .i64 0) ∧ W.cell? ⟨w1.heap.size, 3, none⟩ = some (.int .i64 0) ∧ W.cell? ⟨w1.heap.size, 4, none⟩ = some (.int .i64 0) ∧ W.cell? ⟨w1.heap.size, 5, none⟩ = some (.slice A1 0 c1)) := ⟨K1.out 0, K1.out 1, K1.out 2, K1.out 3, K1.out 4, K1.out 5⟩
  clear K1
  obtain ⟨k0, k1, k2, k3, k4, k5⟩ := KS.out
  go_wp2_with (first | (go_at_call 19; refine (num0_calls _ _).mono ?_; rintro e w' ⟨rfl, rfl⟩) | (go_at_call 18; ((with_reducible refine (same0_calls 0 0 0 0 0 A1 none c1 0 W N1.out (opsNil _)).mono ?_); rintro e ws1 ⟨rfl, hbs⟩; have HS1 := Aside0.mk hbs; clear hbs k0 k1 k2 k3 k4 k5)))
  go_ret
  exact ⟨rfl, bthen KB.out HS1.out⟩
theorem uploadForms_calls (a0 a1 : Int) (w : World) : Calls Try.prog 3 #[.int .i64 a0, .int .i64 a1] w fun e w' => e = .returned (.bool true) ∧ Below w.heap.size w w' := by
  obtain ⟨x, hx, hl⟩ := modU a0 7 (by omega) (by omega)
  have h0 : 0 ≤ IntKind.u64.wrap a0 := by rw [IntKind.wrap_u64]; omega
  obtain ⟨z, hz, hz2⟩ : ∃ z : Nat, (IntKind.u64.wrap a0 / 8).tmod 6 = (z : Int) ∧ (z : Int) < 6 := by
    rw [Int.tmod_eq_emod_of_nonneg (by omega)]
    exact ⟨(IntKind.u64.wrap a0 / 8 % 6).toNat, by omega, by omega⟩
  match x, hx, hl with
  | 0, hx, _ => exact forms_0 a0 a1 w hx
  | 1, hx, _ => exact forms_1 a0 a1 w hx
  | 2, hx, _ =>
    match z, hz, hz2 with
    | 0, hz, _ => exact forms_2_0 a0 a1 w hx hz
    | 1, hz, _ => exact forms_2_1 a0 a1 w hx hz
    | 2, hz, _ => exact forms_2_2 a0 a1 w hx hz
    | 3, hz, _ => exact forms_2_3 a0 a1 w hx hz
    | 4, hz, _ => exact forms_2_4 a0 a1 w hx hz
    | 5, hz, _ => exact forms_2_5 a0 a1 w hx hz
    | z + 6, _, h => omega
  | 3, hx, _ => exact forms_3 a0 a1 w hx
  | 4, hx, _ => exact forms_4 a0 a1 w hx
  | 5, hx, _ => exact forms_5 a0 a1 w hx
  | 6, hx, _ => exact forms_6 a0 a1 w hx
  | x + 7, _, h => omega
end Go.Proofs.Ytaibkfgpdgabaaa.P
end
