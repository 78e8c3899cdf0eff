/- A part of the proof of V: what its last text uses; conditions: see there. -/
import Derived.Test.YtaibkfgpdgabaaaVLUploadShort
section
namespace Go.Proofs.Ytaibkfgpdgabaaa.P
open Go.RowKit Go.Proofs.YtaibkfgpdgabaaaW.PrintWords Go.Proofs.YtaibkfgpdgabaaaW.PrintLast Go.Proofs.YtaibkfgpdgabaaaW.PrintMore
set_option linter.unusedVariables false
set_option linter.unusedSimpArgs false
theorem and15_i64 (a : Int) : ∃ x : Nat, Go.bits .and .i64 a 15 = (x : Int) ∧ x < 16 := by
  have e : Go.bits .and .i64 a 15 = IntKind.i64.wrap (((BitVec.ofInt 64 a).toNat &&& 15 : Nat) : Int) := by
    show IntKind.i64.wrap ((BitVec.ofInt 64 a &&& BitVec.ofInt 64 (15 : Int)).toNat : Int) = _
    rw [BitVec.toNat_and]
    rfl
  have h := Nat.and_lt_two_pow (n := 4) (BitVec.ofInt 64 a).toNat (y := 15) (by decide)
  exact ⟨_, by rw [e, IntKind.wrap_i64]; omega, h⟩
theorem row_may (k b : Nat) (hk : k < 9) (hb : b < 16) : giveMayB heldB 6 0 k 0 0 [] b 32 = true := by
  have hd : devMayB 6 0 k 0 0 [] = true := by
    simp only [devMayB, opsMayB, Bool.and_eq_true, Bool.or_eq_true, decide_eq_true_eq, List.all_nil, List.length_nil]
    refine ⟨⟨⟨⟨⟨⟨⟨⟨⟨⟨?_, ?_⟩, ?_⟩, ?_⟩, ?_⟩, ?_⟩, ?_⟩, ?_⟩, ?_⟩, ?_⟩, ?_⟩ <;> first | omega | trivial | (left; trivial)
  have hs := held_size
  simp only [giveMayB, hd, Bool.and_eq_true, Bool.or_eq_true, decide_eq_true_eq]
  exact ⟨⟨⟨⟨by omega, trivial⟩, .inr trivial⟩, by omega, by omega⟩, by omega, by omega⟩
theorem row_g (k b : Nat) (hk : k < 9) (hb : b < 16) : (b ≠ k → upload_Give.f heldB 6 0 k 0 0 [] b 32 = some (7, 4, 0, 0, 0, [], ⟨#[]⟩, 0)) ∧ (b = k → k = 0 → upload_Give.f heldB 6 0 k 0 0 [] b 32 = some (0, 0, 0, 0, 0, [], ⟨#[97, 98, 97, 98, 97, 98, 97, 98, 97, 98, 97, 98]⟩, 0)) ∧ (b = k → k ≠ 0 → upload_Give.f heldB 6 0 k 0 0 [] b 32 = some (0, 0, 0, 0, 0, [], ⟨#[]⟩, 0)) := by
  obtain ⟨j, hj, ha⟩ := held_act
  have hm := row_may k b hk hb
  have hl : giveLen ab12 b 32 < 32 := by unfold giveLen; rw [ab_size]; omega
  refine ⟨fun h => ?_, fun h h0 => ?_, fun h h0 => ?_⟩
  · exact give_addr_f _ _ _ _ _ _ _ _ _ _ hm ha (by rw [if_neg (by decide)]; omega)
  · subst h h0
    rw [give_held 6 0 (0 : Nat) 0 0 (0 : Nat) 32 hm rfl hl]
    have := ab_give
    exact congrArg (fun s => some ((0, 0, 0, 0, 0, [], s, 0) : Int × Int × Int × Int × Int × List SOp × ByteArray × Int)) this
  · subst h
    rw [give_held 6 0 b 0 0 b 32 hm (by rw [if_neg (by decide)]) hl, size_zero (t := giveS ab12 b 32) (by rw [giveLen_eq]; unfold giveLen; rw [ab_size]; omega)]
set_option maxHeartbeats 4000000 in
set_option maxRecDepth 100000 in
theorem uploadRow_calls (a0 a1 : Int) (w : World) : Calls Try.prog 5 #[.int .i64 a0, .int .i64 a1] w fun e w' => e = .returned (.bool true) ∧ Below w.heap.size w w' := by
  obtain ⟨k, hx, hk⟩ := mod_range a0 9 (by omega) (by omega)
  obtain ⟨b, hy, hb⟩ := and15_i64 a1
  obtain ⟨g1, g2, g3⟩ := row_g k b (by omega) hb
  have G1 := Aside0.mk g1
  have G2 := Aside0.mk g2
  have G3 := Aside0.mk g3
  have HX := Lib.hid hx
  have HY := Lib.hid hy
  clear hx hy g1 g2 g3
  by_cases hbk : b = k
  · subst hbk
    by_cases h0 : b = 0
    · subst h0
      have GX := Aside0.mk (G2.out rfl rfl)
      have HX2 := Aside0.mk (show _ = (0 : Int) from HX.out)
      have HY2 := Aside0.mk (show _ = (0 : Int) from HY.out)
      clear G1 G2 G3 HX HY
      go_enter Try.func5, Try.ntmps5
      go_upto_region 4 with (go_at_call 15; refine (awake_calls _).mono ?_; rintro e w0 ⟨rfl, hb0⟩; have HB0 := Aside0.mk hb0; clear hb0)
      rw [HX2.out, HY2.out]
      go_upto_region 5 with (first | (go_at_call 16; refine (held_calls _).mono ?_; rintro e wh1 ⟨rfl, hb⟩; have HH1 := Aside0.mk hb; clear hb) | (go_at_call 17; refine (give_calls _ _ _ _ _ _ _ _ _ _ _ _ _ _ _ _ GX.out).mono ?_; rintro e w1 ⟨A1, c1, rfl, HC1, HB1⟩))
      have K1 := Aside0.mk (fun i => newcell (Below.refl (w1.alloc (Obj.cells #[.int .i64 0, .int .i64 0, .int .i64 0, .int .i64 0, .int .i64 0, .slice A1 0 c1] 26)).heap.size (w1.alloc (Obj.cells #[.int .i64 0, .int .i64 0, .int .i64 0, .int .i64 0, .int .i64 0, .slice A1 0 c1] 26))) i)
      have KB := Aside0.mk (bthen HB0.out (bthen (bthen HH1.out HB1.out) (balloc w1 (Obj.cells #[.int .i64 0, .int .i64 0, .int .i64 0, .int .i64 0, .int .i64 0, .slice A1 0 c1] 26))))
      have N1 := Aside0.mk (Kd.C_below HC1.out (balloc w1 (Obj.cells #[.int .i64 0, .int .i64 0, .int .i64 0, .int .i64 0, .int .i64 0, .slice A1 0 c1] 26)))
      clear HH1 HB0 HB1 HC1 GX HX2 HY2
      generalize w1.alloc (Obj.cells #[.int .i64 0, .int .i64 0, .int .i64 0, .int .i64 0, .int .i64 0, .slice A1 0 c1] 26) = W at *
      have KS : Aside0 (W.cell? ⟨w1.heap.size, 0, none⟩ = some (.int .i64 0) ∧ W.cell? ⟨w1.heap.size, 1, none⟩ = some (.int .i64 0) ∧ W.cell? ⟨w1.heap.size, 2, none⟩ = some (.int .i64 0) ∧ W.cell? ⟨w1.heap.size, 3, none⟩ = some (.int .i64 0) ∧ W.cell? ⟨w1.heap.size, 4, none⟩ = some (.int .i64 0) ∧ W.cell? ⟨w1.heap.size, 5, none⟩ = some (.slice A1 0 c1)) := ⟨K1.out 0, K1.out 1, K1.out 2, K1.out 3, K1.out 4, K1.out 5⟩
      clear K1
      obtain ⟨k0, k1, k2, k3, k4, k5⟩ := KS.out
      go_wp2_with (first | (go_at_call 19; refine (num0_calls _ _).mono ?_; rintro e w' ⟨rfl, rfl⟩) | (go_at_call 18; ((with_reducible refine (same0_calls 0 0 0 0 0 A1 none c1 0 W N1.out (opsNil _)).mono ?_); rintro e ws1 ⟨rfl, hbs⟩; have HS1 := Aside0.mk hbs; clear hbs k0 k1 k2 k3 k4 k5)))
      go_ret
      exact ⟨rfl, bthen KB.out HS1.out⟩
    · have hd0 : ¬ ((b : Int) = 0) := by omega
      have hd1 : ((b : Int) == 0) = false := by simp [h0]
      have GX := Aside0.mk (G3.out rfl h0)
      have HX2 := Aside0.mk (HX.out)
      have HY2 := Aside0.mk (HY.out)
      clear G1 G2 G3 HX HY
      go_enter Try.func5, Try.ntmps5
      go_upto_region 4 with (go_at_call 15; refine (awake_calls _).mono ?_; rintro e w0 ⟨rfl, hb0⟩; have HB0 := Aside0.mk hb0; clear hb0)
      rw [HX2.out, HY2.out]
      go_upto_region 5 with (first | (go_at_call 16; refine (held_calls _).mono ?_; rintro e wh1 ⟨rfl, hb⟩; have HH1 := Aside0.mk hb; clear hb) | (go_at_call 17; refine (give_calls _ _ _ _ _ _ _ _ _ _ _ _ _ _ _ _ GX.out).mono ?_; rintro e w1 ⟨A1, c1, rfl, HC1, HB1⟩))
      have K1 := Aside0.mk (fun i => newcell (Below.refl (w1.alloc (Obj.cells #[.int .i64 0, .int .i64 0, .int .i64 0, .int .i64 0, .int .i64 0, .slice A1 0 c1] 26)).heap.size (w1.alloc (Obj.cells #[.int .i64 0, .int .i64 0, .int .i64 0, .int .i64 0, .int .i64 0, .slice A1 0 c1] 26))) i)
      have KB := Aside0.mk (bthen HB0.out (bthen (bthen HH1.out HB1.out) (balloc w1 (Obj.cells #[.int .i64 0, .int .i64 0, .int .i64 0, .int .i64 0, .int .i64 0, .slice A1 0 c1] 26))))
      have N1 := Aside0.mk (Kd.C_below HC1.out (balloc w1 (Obj.cells #[.int .i64 0, .int .i64 0, .int .i64 0, .int .i64 0, .int .i64 0, .slice A1 0 c1] 26)))
      clear HH1 HB0 HB1 HC1 GX HX2 HY2
      generalize w1.alloc (Obj.cells #[.int .i64 0, .int .i64 0, .int .i64 0, .int .i64 0, .int .i64 0, .slice A1 0 c1] 26) = W at *
      have KS : Aside0 (W.cell? ⟨w1.heap.size, 0, none⟩ = some (.int .i64 0) ∧ W.cell? ⟨w1.heap.size, 1, none⟩ = some (.int .i64 0) ∧ W.cell? ⟨w1.heap.size, 2, none⟩ = some (.int .i64 0) ∧ W.cell? ⟨w1.heap.size, 3, none⟩ = some (.int .i64 0) ∧ W.cell? ⟨w1.heap.size, 4, none⟩ = some (.int .i64 0) ∧ W.cell? ⟨w1.heap.size, 5, none⟩ = some (.slice A1 0 c1)) := ⟨K1.out 0, K1.out 1, K1.out 2, K1.out 3, K1.out 4, K1.out 5⟩
      clear K1
      obtain ⟨k0, k1, k2, k3, k4, k5⟩ := KS.out
      go_wp2_with (first | (go_at_call 19; refine (num0_calls _ _).mono ?_; rintro e w' ⟨rfl, rfl⟩) | (go_at_call 18; ((with_reducible refine (same0_calls 0 0 0 0 0 A1 none c1 0 W N1.out (opsNil _)).mono ?_); rintro e ws1 ⟨rfl, hbs⟩; have HS1 := Aside0.mk hbs; clear hbs k0 k1 k2 k3 k4 k5)))
      go_ret
      exact ⟨rfl, bthen KB.out HS1.out⟩
  · have hd0 : ((b : Int) != (k : Int)) = true := by simp; omega
    have hd1 : ¬ ((b : Int) = (k : Int)) := by omega
    have GX := Aside0.mk (G1.out hbk)
    have HX2 := Aside0.mk (HX.out)
    have HY2 := Aside0.mk (HY.out)
    clear G1 G2 G3 HX HY
    go_enter Try.func5, Try.ntmps5
    go_upto_region 4 with (go_at_call 15; refine (awake_calls _).mono ?_; rintro e w0 ⟨rfl, hb0⟩; have HB0 := Aside0.mk hb0; clear hb0)
    rw [HX2.out, HY2.out]
    go_upto_region 5 with (first | (go_at_call 16; refine (held_calls _).mono ?_; rintro e wh1 ⟨rfl, hb⟩; have HH1 := Aside0.mk hb; clear hb) | (go_at_call 17; refine (give_calls _ _ _ _ _ _ _ _ _ _ _ _ _ _ _ _ GX.out).mono ?_; rintro e w1 ⟨A1, c1, rfl, HC1, HB1⟩))
    have K1 := Aside0.mk (fun i => newcell (Below.refl (w1.alloc (Obj.cells #[.int .i64 7, .int .i64 4, .int .i64 0, .int .i64 0, .int .i64 0, .slice A1 0 c1] 26)).heap.size (w1.alloc (Obj.cells #[.int .i64 7, .int .i64 4, .int .i64 0, .int .i64 0, .int .i64 0, .slice A1 0 c1] 26))) i)
    have KB := Aside0.mk (bthen HB0.out (bthen (bthen HH1.out HB1.out) (balloc w1 (Obj.cells #[.int .i64 7, .int .i64 4, .int .i64 0, .int .i64 0, .int .i64 0, .slice A1 0 c1] 26))))
    have N1 := Aside0.mk (Kd.C_below HC1.out (balloc w1 (Obj.cells #[.int .i64 7, .int .i64 4, .int .i64 0, .int .i64 0, .int .i64 0, .slice A1 0 c1] 26)))
    clear HH1 HB0 HB1 HC1 GX HX2 HY2
    generalize w1.alloc (Obj.cells #[.int .i64 7, .int .i64 4, .int .i64 0, .int .i64 0, .int .i64 0, .slice A1 0 c1] 26) = W at *
    have k0 : W.cell? ⟨w1.heap.size, 0, none⟩ = some (.int .i64 7) := K1.out 0
    have k1 : W.cell? ⟨w1.heap.size, 1, none⟩ = some (.int .i64 4) := K1.out 1
    clear K1
    go_wp2_with (go_at_call 19; refine (num0_calls _ _).mono ?_; rintro e w' ⟨rfl, rfl⟩)
    go_ret
    exact ⟨rfl, KB.out⟩
end Go.Proofs.Ytaibkfgpdgabaaa.P
end
