/- A part of the proof of V: what its last text uses; conditions: see there. -/
import Derived.Test.YtaibkfgpdgabaaaVHAwk20
section
namespace Go.Proofs.Ytaibkfgpdgabaaa.P
open Go.RowKit Go.Proofs.YtaibkfgpdgabaaaW.PrintWords Go.Proofs.YtaibkfgpdgabaaaW.PrintLast Go.Proofs.YtaibkfgpdgabaaaW.PrintMore
set_option linter.unusedVariables false
set_option linter.unusedSimpArgs false
theorem mod_range (a m : Int) (hm : 1 ≤ m) (hm2 : m ≤ 1000) : ∃ x : Nat, wrap64 (Int.tmod (IntKind.u64.wrap a) m) = (x : Int) ∧ (x : Int) < m := by
  have h0 : 0 ≤ IntKind.u64.wrap a := by rw [IntKind.wrap_u64]; omega
  rw [Int.tmod_eq_emod_of_nonneg h0]
  have h1 := Int.emod_nonneg (IntKind.u64.wrap a) (by omega : m ≠ 0)
  have h2 := Int.emod_lt_of_pos (IntKind.u64.wrap a) (by omega : 0 < m)
  obtain ⟨x, hx⟩ := Int.eq_ofNat_of_zero_le h1
  rw [hx] at h2 ⊢
  exact ⟨x, by rw [w64 (by omega) (by omega)], h2⟩
theorem give_held (a0 a1 a2 a3 a4 b n : Int) (hm : giveMayB heldB a0 a1 a2 a3 a4 [] b n = true) (hb : b = if a0 = 0 then 0 else a2) (hl : giveLen ab12 b n < 32) : upload_Give.f heldB a0 a1 a2 a3 a4 [] b n = some (0, 0, 0, 0, 0, [], giveS ab12 b n, 0) := by
  obtain ⟨k, hk, ha⟩ := held_act
  rw [give_yes_f _ _ _ _ _ _ _ _ _ _ hm ha hb, held_img, if_pos hl]
theorem short_g (x : Nat) (hlt : (x : Int) < 33) : upload_Give.f heldB 0 0 0 0 0 [] 0 x = some (0, 0, 0, 0, 0, [], (⟨#[97, 98, 97, 98, 97, 98, 97, 98, 97, 98, 97, 98]⟩ : ByteArray).extract 0 (min 12 (x : Int)).toNat, 0) ∧ upload_Give.f heldB 6 0 1 0 0 [] 1 x = some (0, 0, 0, 0, 0, [], ⟨#[]⟩, 0) := by
  have hl : ∀ b, giveLen ab12 b x < 32 := fun b => by unfold giveLen; rw [ab_size]; omega
  have g1 := give_held 0 0 0 0 0 0 x (give_may0 _ held_size 0 x (by omega) (by omega)) rfl (hl 0)
  have hm2 : giveMayB heldB 6 0 1 0 0 [] 1 x = true := by
    have hd : devMayB 6 0 1 0 0 [] = true := rfl
    have hs := held_size
    simp only [giveMayB, hd, Bool.and_eq_true, Bool.or_eq_true, decide_eq_true_eq]
    exact ⟨⟨⟨⟨by omega, trivial⟩, .inr trivial⟩, by omega, by omega⟩, by omega, by omega⟩
  have g2 := give_held 6 0 1 0 0 1 x hm2 (by decide) (hl 1)
  have s1 : giveS ab12 0 x = ab12.extract 0 (min 12 (x : Int)).toNat := by
    have e1 : min (32 * (0 : Int).toNat) 12 = 0 := rfl
    unfold giveS
    rw [ab_size, e1, ext_all ab12 12 (by rw [ab_size]; omega), Int.toNat_natCast, Nat.sub_zero, show (min 12 (x : Int)).toNat = min x 12 by omega]
  have s2 : giveS ab12 1 x = ⟨#[]⟩ := size_zero (by rw [giveLen_eq]; unfold giveLen; rw [ab_size]; simp)
  rw [s1] at g1
  rw [s2] at g2
  exact ⟨g1, g2⟩
theorem zero_keep {W w' : World} {a c : Nat} {A : Option Addr} (h : W.cell? ⟨a, 0, none⟩ = some (.int .i64 0) ∧ W.cell? ⟨a, 1, none⟩ = some (.int .i64 0) ∧ W.cell? ⟨a, 2, none⟩ = some (.int .i64 0) ∧ W.cell? ⟨a, 3, none⟩ = some (.int .i64 0) ∧ W.cell? ⟨a, 4, none⟩ = some (.int .i64 0) ∧ W.cell? ⟨a, 5, none⟩ = some (.slice A 0 c)) (hb : Below W.heap.size W w') : w'.cell? ⟨a, 0, none⟩ = some (.int .i64 0) ∧ w'.cell? ⟨a, 1, none⟩ = some (.int .i64 0) ∧ w'.cell? ⟨a, 2, none⟩ = some (.int .i64 0) ∧ w'.cell? ⟨a, 3, none⟩ = some (.int .i64 0) ∧ w'.cell? ⟨a, 4, none⟩ = some (.int .i64 0) ∧ w'.cell? ⟨a, 5, none⟩ = some (.slice A 0 c) :=
  have k : ∀ {g o : Nat} {v : Value}, W.cell? ⟨g, o, none⟩ = some v → w'.cell? ⟨g, o, none⟩ = some v := fun h => pw_cell_below hb h
  ⟨k h.1, k h.2.1, k h.2.2.1, k h.2.2.2.1, k h.2.2.2.2.1, k h.2.2.2.2.2⟩
set_option maxHeartbeats 4000000 in
set_option maxRecDepth 100000 in
theorem uploadShort_calls (a0 : Int) (w : World) : Calls Try.prog 6 #[.int .i64 a0] w fun e w' => e = .returned (.bool true) ∧ Below w.heap.size w w' := by
  obtain ⟨x, hx, hlt⟩ := mod_range a0 33 (by omega) (by omega)
  obtain ⟨hg1, hg2⟩ := short_g x hlt
  have G1 := Aside0.mk hg1
  have G2 := Aside0.mk hg2
  have HX := Lib.hid hx
  clear hx hg1 hg2
  go_enter Try.func6, Try.ntmps6
  go_upto_region 4 with (go_at_call 15; refine (awake_calls _).mono ?_; rintro e w0 ⟨rfl, hb0⟩; have HB0 := Aside0.mk hb0; clear hb0)
  rw [HX.out]
  go_upto_region 5 with (first | (go_at_call 16; refine (held_calls _).mono ?_; rintro e wh1 ⟨rfl, hb⟩; have HH1 := Aside0.mk hb; clear hb) | (go_at_call 17; refine (give_calls _ _ _ _ _ _ _ _ _ _ _ _ _ _ _ _ G1.out).mono ?_; rintro e w1 ⟨A1, c1, rfl, HC1, HB1⟩))
  go_upto_region 6 with (first | (go_at_call 16; refine (held_calls _).mono ?_; rintro e wh2 ⟨rfl, hb⟩; have HH2 := Aside0.mk hb; clear hb) | (go_at_call 17; refine (give_calls _ _ _ _ _ _ _ _ _ _ _ _ _ _ _ _ G2.out).mono ?_; rintro e w2 ⟨A2, c2, rfl, HC2, HB2⟩))
  have K1 := Aside0.mk (fun i => newcell (bthen (bthen HH2.out HB2.out) (balloc w2 (Obj.cells #[.int .i64 0, .int .i64 0, .int .i64 0, .int .i64 0, .int .i64 0, .slice A2 0 c2] 26))) i)
  have K2 := Aside0.mk (fun i => newcell (Below.refl (w2.alloc (Obj.cells #[.int .i64 0, .int .i64 0, .int .i64 0, .int .i64 0, .int .i64 0, .slice A2 0 c2] 26)).heap.size (w2.alloc (Obj.cells #[.int .i64 0, .int .i64 0, .int .i64 0, .int .i64 0, .int .i64 0, .slice A2 0 c2] 26))) i)
  have KB := Aside0.mk (bthen HB0.out (bthen (bthen HH1.out HB1.out) (bthen (balloc w1 _) (bthen (bthen HH2.out HB2.out) (balloc w2 (Obj.cells #[.int .i64 0, .int .i64 0, .int .i64 0, .int .i64 0, .int .i64 0, .slice A2 0 c2] 26))))))
  have N1 := Aside0.mk (Kd.C_below HC1.out (bthen (balloc w1 _) (bthen (bthen HH2.out HB2.out) (balloc w2 (Obj.cells #[.int .i64 0, .int .i64 0, .int .i64 0, .int .i64 0, .int .i64 0, .slice A2 0 c2] 26)))))
  have N2 := Aside0.mk (Kd.C_below HC2.out (balloc w2 (Obj.cells #[.int .i64 0, .int .i64 0, .int .i64 0, .int .i64 0, .int .i64 0, .slice A2 0 c2] 26)))
  clear HH1 HH2 HB0 HB1 HB2 HC1 HC2 G1 G2 HX
  generalize w2.alloc (Obj.cells #[.int .i64 0, .int .i64 0, .int .i64 0, .int .i64 0, .int .i64 0, .slice A2 0 c2] 26) = W at *
  have KS : Aside0 ((W.cell? ⟨w1.heap.size, 0, none⟩ = some (.int .i64 0) ∧ W.cell? ⟨w1.heap.size, 1, none⟩ = some (.int .i64 0) ∧ W.cell? ⟨w1.heap.size, 2, none⟩ = some (.int .i64 0) ∧ W.cell? ⟨w1.heap.size, 3, none⟩ = some (.int .i64 0) ∧ W.cell? ⟨w1.heap.size, 4, none⟩ = some (.int .i64 0) ∧ W.cell? ⟨w1.heap.size, 5, none⟩ = some (.slice A1 0 c1)) ∧ (W.cell? ⟨w2.heap.size, 0, none⟩ = some (.int .i64 0) ∧ W.cell? ⟨w2.heap.size, 1, none⟩ = some (.int .i64 0) ∧ W.cell? ⟨w2.heap.size, 2, none⟩ = some (.int .i64 0) ∧ W.cell? ⟨w2.heap.size, 3, none⟩ = some (.int .i64 0) ∧ W.cell? ⟨w2.heap.size, 4, none⟩ = some (.int .i64 0) ∧ W.cell? ⟨w2.heap.size, 5, none⟩ = some (.slice A2 0 c2))) := ⟨⟨⟨K1.out 0, K1.out 1, K1.out 2, K1.out 3, K1.out 4, K1.out 5⟩, ⟨K2.out 0, K2.out 1, K2.out 2, K2.out 3, K2.out 4, K2.out 5⟩⟩⟩
  clear K1 K2
  obtain ⟨⟨k0, k1, k2, k3, k4, k5⟩, l0, l1, l2, l3, l4, l5⟩ := KS.out
  go_wp2_with (first | (go_at_call 19; refine (num0_calls _ _).mono ?_; rintro e w' ⟨rfl, rfl⟩) | (go_at_call 18; first | ((with_reducible refine (same0_calls 0 0 0 0 0 A1 none c1 0 W N1.out (opsNil _)).mono ?_); rintro e ws1 ⟨rfl, hbs⟩; have HS1 := Aside0.mk hbs; clear hbs k0 k1 k2 k3 k4 k5 l0 l1 l2 l3 l4 l5; obtain ⟨l0, l1, l2, l3, l4, l5⟩ := zero_keep KS.out.2 HS1.out) | ((with_reducible refine (same0_calls 0 0 0 0 0 A2 none c2 0 ws1 (Kd.C_below N2.out HS1.out) (opsNil _)).mono ?_); rintro e ws2 ⟨rfl, hbs⟩; have HS2 := Aside0.mk hbs; clear hbs)))
  go_ret
  exact ⟨rfl, bthen KB.out (bthen HS1.out HS2.out)⟩
end Go.Proofs.Ytaibkfgpdgabaaa.P
end
