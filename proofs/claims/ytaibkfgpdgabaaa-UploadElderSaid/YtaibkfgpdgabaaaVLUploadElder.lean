/- A part of the proof of V: what its last text uses; conditions: see there. -/
import Derived.IntWalk
import Derived.Test.YtaibkfgpdgabaaaVLUploadAll
import Derived.Test.YtaibkfgpdgabaaaVP0x0
section
namespace Go.Proofs.Ytaibkfgpdgabaaa.P
open Go.RowKit Go.Proofs.YtaibkfgpdgabaaaW.PrintWords Go.Proofs.YtaibkfgpdgabaaaW.PrintLast Go.Proofs.YtaibkfgpdgabaaaW.PrintMore
set_option linter.unusedVariables false
set_option linter.unusedSimpArgs false
set_option maxHeartbeats 1000000 in
set_option maxRecDepth 100000 in
theorem elder_no (f s : ByteArray) (w : World) (p0 p1 p2 p3 p4 p5 : Int) (ha : skiffref1_Active.f 3000 f = some (p0, p1, p2, p3, p4, p5)) (h : ¬ p5 = 0) : Calls Try.prog 7 #[.string f, .string s] w fun e w' => e = .returned (.bool true) ∧ Below w.heap.size w w' := by
  have HA := Aside0.mk ha
  have h1 : (p5 != 0) = true := by simp [h]
  have h2 : (p5 == 0) = false := by simp [h]
  clear ha
  go_enter Try.func7, Try.ntmps7
  go_wp2_with (first | (go_at_call 15; refine (awake_calls _).mono ?_; rintro e w0 ⟨rfl, hb0⟩; have HB0 := Aside0.mk hb0; clear hb0) | (go_at_call 20; refine (actR_calls _ _ _ _ _ _ _ _ HA.out).mono ?_; rintro e w1 ⟨rfl, hb1⟩; have HB1 := Aside0.mk hb1; clear hb1))
  go_ret
  exact ⟨rfl, bthen HB0.out (bthen HB1.out (balloc _ _))⟩
set_option maxHeartbeats 1000000 in
set_option maxRecDepth 100000 in
theorem elder_long (f s : ByteArray) (w : World) (p0 p1 p2 p3 p4 : Int) (ha : skiffref1_Active.f 3000 f = some (p0, p1, p2, p3, p4, 0)) (h : (288 : Int) < (s.size : Int)) : Calls Try.prog 7 #[.string f, .string s] w fun e w' => e = .returned (.bool true) ∧ Below w.heap.size w w' := by
  have HA := Aside0.mk ha
  clear ha
  go_enter Try.func7, Try.ntmps7
  go_wp2_with (first | (go_at_call 15; refine (awake_calls _).mono ?_; rintro e w0 ⟨rfl, hb0⟩; have HB0 := Aside0.mk hb0; clear hb0) | (go_at_call 20; refine (actR_calls _ _ _ _ _ _ _ _ HA.out).mono ?_; rintro e w1 ⟨rfl, hb1⟩; have HB1 := Aside0.mk hb1; clear hb1))
  go_ret
  exact ⟨rfl, bthen HB0.out (bthen HB1.out (balloc _ _))⟩
theorem base_calls (b : Int) (w : World) (hb : 0 ≤ b ∧ b ≤ 1) : Calls Try.prog 23 #[.int .i64 b] w fun e w' => e = .returned (.tuple #[.int .i64 (192 + 288 * b), .int .i64 0]) ∧ Aside0 (Below w.heap.size w w') := by
  have e1 : wrap64 (3 * b) = 3 * b := w64 (by omega) (by omega)
  have e2 : wrap64 (2 + 3 * b) = 2 + 3 * b := w64 (by omega) (by omega)
  have e3 : wrap64 ((2 + 3 * b) * 96) = 192 + 288 * b := by rw [w64 (by omega) (by omega)]; omega
  have eb : skiffref1_Base.f b = some (192 + 288 * b, 0) := by
    unfold skiffref1_Base.f skiffref1_upTo.f
    rw [if_pos (by omega), Option.bind_some, if_pos (by simpa using hb.2), e1, e2, e3]
  refine (skiffref1_Base.calls b _ _ w eb).mono fun e w' h => ⟨h.1, ⟨h.2.below⟩⟩
theorem baseN_calls (b : Int) (a : Nat) (w : World) (hb : 0 ≤ b ∧ b ≤ 1) (ha : 192 + 288 * b = (a : Int)) : Calls Try.prog 23 #[.int .i64 b] w fun e w' => e = .returned (.tuple #[.int .i64 a, .int .i64 0]) ∧ Aside0 (Below w.heap.size w w') := by
  rw [← ha]
  exact base_calls b w hb
theorem eqRec (d : Nat) (w : World) (x0 y0 x1 y1 x2 y2 x3 y3 : Int) :
    (Op.equalIn (d + 2) 36 (.agg #[.int .i64 x0, .int .i64 x1, .int .i64 x2, .int .i64 x3]) (.agg #[.int .i64 y0, .int .i64 y1, .int .i64 y2, .int .i64 y3])).run Try.prog w = .ok (x0 == y0 && (x1 == y1 && (x2 == y2 && x3 == y3))) w := by
  refine eqA_of Try.underlying36 (by kernel_rfl) ?_
  refine eqf_cons (by rfl) (by go_simp; rfl) (by go_simp; rfl) (by go_simp) ?_
  refine eqf_cons (by rfl) (by go_simp; rfl) (by go_simp; rfl) (by go_simp) ?_
  refine eqf_cons (by rfl) (by go_simp; rfl) (by go_simp; rfl) (by go_simp) ?_
  exact eqf_last (by rfl) (by go_simp; rfl) (by go_simp; rfl) (by go_simp)
theorem eqPlace (d : Nat) (w : World) (x0 y0 x1 y1 x2 y2 x3 y3 x4 y4 : Int) :
    (Op.equalIn (d + 3) 38 (.agg #[.int .i64 x0, .int .i64 x1, .int .i64 x2, .int .i64 x3, .int .i64 x4]) (.agg #[.int .i64 y0, .int .i64 y1, .int .i64 y2, .int .i64 y3, .int .i64 y4])).run Try.prog w = .ok (x0 == y0 && (x1 == y1 && (x2 == y2 && (x3 == y3 && x4 == y4)))) w := by
  refine eqA_of Try.underlying38 (by kernel_rfl) ?_
  refine eqf_cons (by rfl) (by go_simp; rfl) (by go_simp; rfl) (by go_simp) ?_
  exact eqf_last (by rfl) (by go_simp) (by go_simp) (eqRec d w _ _ _ _ _ _ _ _)
theorem neqPlace (w : World) (x0 y0 x1 y1 x2 y2 x3 y3 x4 y4 : Int) :
    (binOp .neq 38 (.agg #[.int .i64 x0, .int .i64 x1, .int .i64 x2, .int .i64 x3, .int .i64 x4]) (.agg #[.int .i64 y0, .int .i64 y1, .int .i64 y2, .int .i64 y3, .int .i64 y4])).run Try.prog w = .ok (.bool (!(x0 == y0 && (x1 == y1 && (x2 == y2 && (x3 == y3 && x4 == y4)))))) w := by
  simp only [binOp]
  simp [Op.equal, Op.maxDepth, eqPlace 9997]
theorem bofN {a b : World} {n : Nat} (h : Below (a.drewN n).heap.size (a.drewN n) b) : Below a.heap.size a b := bthen (pw_below_drewN (Below.refl _ _) n) h
set_option maxHeartbeats 2000000 in
set_option maxRecDepth 100000 in
theorem elder_x (f s : ByteArray) (w : World) (p0 p1 p2 p3 p4 q0 q1 q2 q3 q4 q5 : Int) (a : Nat) (hf : f.size = 768) (hs : (s.size : Int) ≤ 288) (hp : 0 ≤ p2 ∧ p2 ≤ 1) (hat : 192 + 288 * (1 - p2) = (a : Int)) (ha : skiffref1_Active.f 3000 f = some (p0, p1, p2, p3, p4, 0)) (hx : skiffref1_Active.f 3000 (putAt f a s) = some (q0, q1, q2, q3, q4, q5)) (h : ¬ q5 = 0 ∨ (q5 = 0 ∧ (q0 == p0 && (q1 == p1 && (q2 == p2 && (q3 == p3 && q4 == p4)))) = false)) : Calls Try.prog 7 #[.string f, .string s] w fun e w' => e = .returned (.bool true) ∧ Below w.heap.size w w' := by
  have HA := Aside0.mk ha
  have HX : Aside0 (skiffref1_Active.f 3000 (f.extract 0 a ++ s ++ f.extract (a + s.size) f.size) = some (q0, q1, q2, q3, q4, q5)) := ⟨hx⟩
  have HAT := Aside0.mk hat
  have HF := Aside0.mk hf
  have c1 : (0 : Int) ≤ (a : Int) := by omega
  have c2 : (a : Int) ≤ (f.size : Int) := by omega
  have c3 : (a : Int) + (s.size : Int) ≤ (f.size : Int) := by omega
  have c4 : (0 : Int) ≤ (a : Int) + (s.size : Int) := by omega
  have c5 : ((a : Int) + (s.size : Int)).toNat = a + s.size := by omega
  have c6 : IntKind.i64.wrap ((a : Int) + (s.size : Int)) = (a : Int) + (s.size : Int) := IntWalk.i64_in _ (by omega)
  have c7 : (f.size : Int) ≤ 768 := by omega
  obtain ⟨hp1, hp2⟩ := hp
  have HQ : Aside0 (∀ W : World, (binOp .neq 38 (.agg #[.int .i64 q0, .int .i64 q1, .int .i64 q2, .int .i64 q3, .int .i64 q4]) (.agg #[.int .i64 p0, .int .i64 p1, .int .i64 p2, .int .i64 p3, .int .i64 p4])).run Try.prog W = .ok (.bool (!(q0 == p0 && (q1 == p1 && (q2 == p2 && (q3 == p3 && q4 == p4)))))) W) := ⟨fun W => neqPlace W _ _ _ _ _ _ _ _ _ _⟩
  clear ha hx hf hat
  go_enter Try.func7, Try.ntmps7
  go_upto_region 7 with (first | (go_at_call 15; refine (awake_calls _).mono ?_; rintro e w0 ⟨rfl, hb0⟩; have HB0 := Aside0.mk hb0; clear hb0) | (go_at_call 20; refine (actR_calls _ _ _ _ _ _ _ _ HA.out).mono ?_; rintro e w1 ⟨rfl, hb1⟩; have HB1 := Aside0.mk hb1; clear hb1) | (go_at_call 23; refine (baseN_calls _ a _ (by omega) HAT.out).mono ?_; rintro e w2 ⟨rfl, HB2⟩))
  go_quiet (fail)
  clear c1 c2 c3 c4 c5 c6
  go_upto_region 9 with (go_at_call 20; refine (actR_calls _ _ _ _ _ _ _ _ HX.out).mono ?_; rintro e w3 ⟨rfl, hb3⟩; have HB3 := Aside0.mk (bofN hb3); clear hb3)
  have K1 := Aside0.mk (fun i => newcell (bthen HB2.out (bthen HB3.out (balloc w3 (.cells #[.int .i64 q0, .int .i64 q1, .int .i64 q2, .int .i64 q3, .int .i64 q4] 38)))) i)
  have K2 := Aside0.mk (fun i => newcell (Below.refl (w3.alloc (.cells #[.int .i64 q0, .int .i64 q1, .int .i64 q2, .int .i64 q3, .int .i64 q4] 38)).heap.size (w3.alloc (.cells #[.int .i64 q0, .int .i64 q1, .int .i64 q2, .int .i64 q3, .int .i64 q4] 38))) i)
  have KB := Aside0.mk (bthen HB0.out (bthen HB1.out (bthen (balloc w1 _) (bthen HB2.out (bthen HB3.out (balloc w3 (.cells #[.int .i64 q0, .int .i64 q1, .int .i64 q2, .int .i64 q3, .int .i64 q4] 38)))))))
  generalize w3.alloc (.cells #[.int .i64 q0, .int .i64 q1, .int .i64 q2, .int .i64 q3, .int .i64 q4] 38) = W at *
  have a0 : W.cell? ⟨w1.heap.size, 0, none⟩ = some (.int .i64 p0) := K1.out 0
  have a1 : W.cell? ⟨w1.heap.size, 1, none⟩ = some (.int .i64 p1) := K1.out 1
  have a2 : W.cell? ⟨w1.heap.size, 2, none⟩ = some (.int .i64 p2) := K1.out 2
  have a3 : W.cell? ⟨w1.heap.size, 3, none⟩ = some (.int .i64 p3) := K1.out 3
  have a4 : W.cell? ⟨w1.heap.size, 4, none⟩ = some (.int .i64 p4) := K1.out 4
  have b0 : W.cell? ⟨w3.heap.size, 0, none⟩ = some (.int .i64 q0) := K2.out 0
  have b1 : W.cell? ⟨w3.heap.size, 1, none⟩ = some (.int .i64 q1) := K2.out 1
  have b2 : W.cell? ⟨w3.heap.size, 2, none⟩ = some (.int .i64 q2) := K2.out 2
  have b3 : W.cell? ⟨w3.heap.size, 3, none⟩ = some (.int .i64 q3) := K2.out 3
  have b4 : W.cell? ⟨w3.heap.size, 4, none⟩ = some (.int .i64 q4) := K2.out 4
  clear K1 K2 HB0 HB1 HB2 HB3 HA HX HAT HF
  rcases h with h | ⟨h, he⟩
  · have h1 : (q5 != 0) = true := by simp [h]
    have h2 : (q5 == 0) = false := by simp [h]
    clear HQ a0 a1 a2 a3 a4 b0 b1 b2 b3 b4
    go_wp2
    go_ret
    exact ⟨rfl, KB.out⟩
  · subst h
    have hq := HQ.out
    rw [he] at hq
    clear HQ he
    go_wp2
    go_ret
    exact ⟨rfl, KB.out⟩
theorem elder_g (f s : ByteArray) (a : Nat) (hf : f.size = 768) (hs : (s.size : Int) ≤ 288) (p : SPl) (ha : actO f = some p) (hat : 192 + 288 * (1 - p.f1.f1) = (a : Int)) (hx : actO (putAt f a s) = some p) :
    ∃ (st nx : Int) (T : ByteArray), upload_Give.f f 0 0 0 0 0 [] 0 32 = some (st, 0, nx, 0, 0, [], T, 0) ∧ upload_Give.f (putAt f a s) 0 0 0 0 0 [] 0 32 = some (st, 0, nx, 0, 0, [], T, 0) ∧ (T.size : Int) = min 32 p.f1.f2 := by
  obtain ⟨hm, _, _⟩ := actO_may hf ha
  obtain ⟨_, hb, hc, _⟩ := rec_bounds hm
  have hx2 : (putAt f a s).size = 768 := by rw [put_size _ _ _ (by omega), hf]
  have hS := imgB_size f _ _ _ _ hf hm
  have hi : imgB (putAt f a s) p.f1.f1 p.f1.f2 = imgB f p.f1.f1 p.f1.f2 := by
    unfold imgB baseN
    exact ext_put_off _ _ _ _ _ (by omega) (by omega)
  have h1 := give_yes_f f 0 0 0 0 0 [] 0 32 p (give_may0 f hf 0 32 (by omega) (by omega)) ha rfl
  have h2 := give_yes_f (putAt f a s) 0 0 0 0 0 [] 0 32 p (give_may0 _ hx2 0 32 (by omega) (by omega)) hx rfl
  rw [hi] at h2
  have hz : (giveS (imgB f p.f1.f1 p.f1.f2) 0 32).size = min 32 p.f1.f2.toNat := by
    rw [giveLen_eq, giveLen, hS]
    show min 32 (p.f1.f2.toNat - min (32 * 0) p.f1.f2.toNat) = _
    omega
  by_cases hl : giveLen (imgB f p.f1.f1 p.f1.f2) 0 32 < 32
  · rw [if_pos hl] at h1 h2
    exact ⟨_, _, _, h1, h2, by omega⟩
  · rw [if_neg hl] at h1 h2
    exact ⟨_, _, _, h1, h2, by omega⟩
set_option maxHeartbeats 2000000 in
set_option maxRecDepth 100000 in
theorem elder_same (f s : ByteArray) (w : World) (p0 p1 p2 p3 p4 : Int) (a : Nat) (hf : f.size = 768) (hs : (s.size : Int) ≤ 288) (hp : 0 ≤ p2 ∧ p2 ≤ 1) (hat : 192 + 288 * (1 - p2) = (a : Int)) (ha : skiffref1_Active.f 3000 f = some (p0, p1, p2, p3, p4, 0)) (hx : skiffref1_Active.f 3000 (putAt f a s) = some (p0, p1, p2, p3, p4, 0)) (st nx : Int) (T : ByteArray) (hg1 : upload_Give.f f 0 0 0 0 0 [] 0 32 = some (st, 0, nx, 0, 0, [], T, 0)) (hg2 : upload_Give.f (putAt f a s) 0 0 0 0 0 [] 0 32 = some (st, 0, nx, 0, 0, [], T, 0)) (hT : (T.size : Int) = min 32 p3) : Calls Try.prog 7 #[.string f, .string s] w fun e w' => e = .returned (.bool true) ∧ Below w.heap.size w w' := by
  have HT := Lib.hid hT
  clear hT
  have HA := Aside0.mk ha
  have HX : Aside0 (skiffref1_Active.f 3000 (f.extract 0 a ++ s ++ f.extract (a + s.size) f.size) = some (p0, p1, p2, p3, p4, 0)) := ⟨hx⟩
  have HAT := Aside0.mk hat
  have HF := Aside0.mk hf
  have c1 : (0 : Int) ≤ (a : Int) := by omega
  have c2 : (a : Int) ≤ (f.size : Int) := by omega
  have c3 : (a : Int) + (s.size : Int) ≤ (f.size : Int) := by omega
  have c4 : (0 : Int) ≤ (a : Int) + (s.size : Int) := by omega
  have c5 : ((a : Int) + (s.size : Int)).toNat = a + s.size := by omega
  have c6 : IntKind.i64.wrap ((a : Int) + (s.size : Int)) = (a : Int) + (s.size : Int) := IntWalk.i64_in _ (by omega)
  have c7 : (f.size : Int) ≤ 768 := by omega
  obtain ⟨hp1, hp2⟩ := hp
  have HG1 := Aside0.mk hg1
  have HG2 : Aside0 (upload_Give.f (f.extract 0 a ++ s ++ f.extract (a + s.size) f.size) 0 0 0 0 0 [] 0 32 = some (st, 0, nx, 0, 0, [], T, 0)) := ⟨hg2⟩
  have HQ : Aside0 (∀ W : World, (binOp .neq 38 (.agg #[.int .i64 p0, .int .i64 p1, .int .i64 p2, .int .i64 p3, .int .i64 p4]) (.agg #[.int .i64 p0, .int .i64 p1, .int .i64 p2, .int .i64 p3, .int .i64 p4])).run Try.prog W = .ok (.bool (!(p0 == p0 && (p1 == p1 && (p2 == p2 && (p3 == p3 && p4 == p4)))))) W) := ⟨fun W => neqPlace W _ _ _ _ _ _ _ _ _ _⟩
  clear ha hx hf hat hg1 hg2
  go_enter Try.func7, Try.ntmps7
  go_upto_region 7 with (first | (go_at_call 15; refine (awake_calls _).mono ?_; rintro e w0 ⟨rfl, hb0⟩; have HB0 := Aside0.mk hb0; clear hb0) | (go_at_call 20; refine (actR_calls _ _ _ _ _ _ _ _ HA.out).mono ?_; rintro e w1 ⟨rfl, hb1⟩; have HB1 := Aside0.mk hb1; clear hb1) | (go_at_call 23; refine (baseN_calls _ a _ (by omega) HAT.out).mono ?_; rintro e w2 ⟨rfl, HB2⟩))
  go_quiet (fail)
  clear c1 c2 c3 c4 c5 c6
  go_upto_region 9 with (go_at_call 20; refine (actR_calls _ _ _ _ _ _ _ _ HX.out).mono ?_; rintro e w3 ⟨rfl, hb3⟩; have HB3 := Aside0.mk (bofN hb3); clear hb3)
  have K1 := Aside0.mk (fun i => newcell (bthen HB2.out (bthen HB3.out (balloc w3 (.cells #[.int .i64 p0, .int .i64 p1, .int .i64 p2, .int .i64 p3, .int .i64 p4] 38)))) i)
  have K2 := Aside0.mk (fun i => newcell (Below.refl (w3.alloc (.cells #[.int .i64 p0, .int .i64 p1, .int .i64 p2, .int .i64 p3, .int .i64 p4] 38)).heap.size (w3.alloc (.cells #[.int .i64 p0, .int .i64 p1, .int .i64 p2, .int .i64 p3, .int .i64 p4] 38))) i)
  have KB := Aside0.mk (bthen HB0.out (bthen HB1.out (bthen (balloc w1 _) (bthen HB2.out (bthen HB3.out (balloc w3 (.cells #[.int .i64 p0, .int .i64 p1, .int .i64 p2, .int .i64 p3, .int .i64 p4] 38)))))))
  generalize w3.alloc (.cells #[.int .i64 p0, .int .i64 p1, .int .i64 p2, .int .i64 p3, .int .i64 p4] 38) = W at *
  have a0 : W.cell? ⟨w1.heap.size, 0, none⟩ = some (.int .i64 p0) := K1.out 0
  have a1 : W.cell? ⟨w1.heap.size, 1, none⟩ = some (.int .i64 p1) := K1.out 1
  have a2 : W.cell? ⟨w1.heap.size, 2, none⟩ = some (.int .i64 p2) := K1.out 2
  have a3 : W.cell? ⟨w1.heap.size, 3, none⟩ = some (.int .i64 p3) := K1.out 3
  have a4 : W.cell? ⟨w1.heap.size, 4, none⟩ = some (.int .i64 p4) := K1.out 4
  have b0 : W.cell? ⟨w3.heap.size, 0, none⟩ = some (.int .i64 p0) := K2.out 0
  have b1 : W.cell? ⟨w3.heap.size, 1, none⟩ = some (.int .i64 p1) := K2.out 1
  have b2 : W.cell? ⟨w3.heap.size, 2, none⟩ = some (.int .i64 p2) := K2.out 2
  have b3 : W.cell? ⟨w3.heap.size, 3, none⟩ = some (.int .i64 p3) := K2.out 3
  have b4 : W.cell? ⟨w3.heap.size, 4, none⟩ = some (.int .i64 p4) := K2.out 4
  clear K1 K2 HB0 HB1 HB2 HB3 HA HX HAT HF
  have hq := HQ.out
  have hz : (!(p0 == p0 && (p1 == p1 && (p2 == p2 && (p3 == p3 && p4 == p4))))) = false := by simp
  rw [hz] at hq
  clear HQ hz
  go_upto_region 12 with (go_at_call 17; refine (give_calls _ _ _ _ _ _ _ _ _ _ _ _ _ _ _ _ HG1.out).mono ?_; rintro e w4 ⟨A1, c1, rfl, HC1, HB4⟩)
  go_upto_region 13 with (go_at_call 17; refine (give_calls _ _ _ _ _ _ _ _ _ _ _ _ _ _ _ _ HG2.out).mono ?_; rintro e w5 ⟨A2, c2, rfl, HC2, HB5⟩)
  have HP := Aside0.mk (show Below W.heap.size W (w5.alloc (Obj.cells #[.int .i64 st, .int .i64 0, .int .i64 nx, .int .i64 0, .int .i64 0, .slice A2 0 c2] 26)) from bthen HB4.out (bthen (balloc w4 _) (bthen HB5.out (balloc w5 (Obj.cells #[.int .i64 st, .int .i64 0, .int .i64 nx, .int .i64 0, .int .i64 0, .slice A2 0 c2] 26)))))
  have L1 := Aside0.mk (fun i => newcell (bthen HB5.out (balloc w5 (Obj.cells #[.int .i64 st, .int .i64 0, .int .i64 nx, .int .i64 0, .int .i64 0, .slice A2 0 c2] 26))) i)
  have L2 := Aside0.mk (fun i => newcell (Below.refl (w5.alloc (Obj.cells #[.int .i64 st, .int .i64 0, .int .i64 nx, .int .i64 0, .int .i64 0, .slice A2 0 c2] 26)).heap.size (w5.alloc (Obj.cells #[.int .i64 st, .int .i64 0, .int .i64 nx, .int .i64 0, .int .i64 0, .slice A2 0 c2] 26))) i)
  have a5 := pw_cell_below HP.out a3
  have N1 := Aside0.mk (C_any HC1.out (w5.alloc (Obj.cells #[.int .i64 st, .int .i64 0, .int .i64 nx, .int .i64 0, .int .i64 0, .slice A2 0 c2] 26)))
  have N2 := Aside0.mk (C_any HC2.out (w5.alloc (Obj.cells #[.int .i64 st, .int .i64 0, .int .i64 nx, .int .i64 0, .int .i64 0, .slice A2 0 c2] 26)))
  generalize w5.alloc (Obj.cells #[.int .i64 st, .int .i64 0, .int .i64 nx, .int .i64 0, .int .i64 0, .slice A2 0 c2] 26) = V at *
  have e0 : V.cell? ⟨w4.heap.size, 0, none⟩ = some (.int .i64 st) := L1.out 0
  have e1 : V.cell? ⟨w4.heap.size, 1, none⟩ = some (.int .i64 0) := L1.out 1
  have e2 : V.cell? ⟨w4.heap.size, 2, none⟩ = some (.int .i64 nx) := L1.out 2
  have e3 : V.cell? ⟨w4.heap.size, 3, none⟩ = some (.int .i64 0) := L1.out 3
  have e4 : V.cell? ⟨w4.heap.size, 4, none⟩ = some (.int .i64 0) := L1.out 4
  have e5 : V.cell? ⟨w4.heap.size, 5, none⟩ = some (.slice A1 0 c1) := L1.out 5
  have g0 : V.cell? ⟨w5.heap.size, 0, none⟩ = some (.int .i64 st) := L2.out 0
  have g1 : V.cell? ⟨w5.heap.size, 1, none⟩ = some (.int .i64 0) := L2.out 1
  have g2 : V.cell? ⟨w5.heap.size, 2, none⟩ = some (.int .i64 nx) := L2.out 2
  have g3 : V.cell? ⟨w5.heap.size, 3, none⟩ = some (.int .i64 0) := L2.out 3
  have g4 : V.cell? ⟨w5.heap.size, 4, none⟩ = some (.int .i64 0) := L2.out 4
  have g5 : V.cell? ⟨w5.heap.size, 5, none⟩ = some (.slice A2 0 c2) := L2.out 5
  clear L1 L2 HB4 HB5 HC1 HC2 HG1 HG2 a0 a1 a2 a3 a4 b0 b1 b2 b3 b4 hq
  have hs9 : (heldB.size : Int) = 768 := by rw [held_size]; rfl
  have hT := HT.out
  go_wp2_with (first | (go_at_call 19; refine (num0_calls _ _).mono ?_; rintro e w' ⟨rfl, rfl⟩) | (go_at_call 18; ((with_reducible refine (same0_calls st 0 nx 0 0 A1 A2 c1 c2 V N1.out N2.out).mono ?_); rintro e ws1 ⟨rfl, hbs⟩; have HS1 := Aside0.mk hbs; have a6 := pw_cell_below hbs a5; clear hbs)) | (go_at_call 16; refine (held_calls _).mono ?_; rintro e w6 ⟨rfl, hb6⟩; have HB6 := Aside0.mk hb6; clear hb6))
  go_ret
  exact ⟨rfl, bthen KB.out (bthen HP.out (bthen HS1.out HB6.out))⟩
theorem uploadElder_calls (f s : ByteArray) (w : World) : Calls Try.prog 7 #[.string f, .string s] w fun e w' => e = .returned (.bool true) ∧ Below w.heap.size w w' := by
  by_cases hf : f.size = 768
  · have ha := actR_f f 3000 (Nat.le_refl _) hf
    cases ho : actO f with
    | none =>
      rw [ho] at ha
      exact elder_no f s w _ _ _ _ _ _ ha (by decide)
    | some p =>
      rw [ho] at ha
      by_cases hs : (288 : Int) < (s.size : Int)
      · exact elder_long f s w _ _ _ _ _ ha hs
      · obtain ⟨hm, _, _⟩ := actO_may hf ho
        obtain ⟨_, hb, _, _⟩ := rec_bounds hm
        have hat : 192 + 288 * (1 - p.f1.f1) = (((192 + 288 * (1 - p.f1.f1)).toNat : Nat) : Int) := by omega
        generalize (192 + 288 * (1 - p.f1.f1)).toNat = a at hat
        have hx2 : (putAt f a s).size = 768 := by rw [put_size _ _ _ (by omega), hf]
        have hx := actR_f (putAt f a s) 3000 (Nat.le_refl _) hx2
        cases hq : actO (putAt f a s) with
        | none =>
          rw [hq] at hx
          exact elder_x f s w _ _ _ _ _ _ _ _ _ _ _ a hf (by omega) hb hat ha hx (.inl (by decide))
        | some q =>
          rw [hq] at hx
          by_cases he : (q.f0 == p.f0 && (q.f1.f0 == p.f1.f0 && (q.f1.f1 == p.f1.f1 && (q.f1.f2 == p.f1.f2 && q.f1.f3 == p.f1.f3)))) = true
          · have hpq : q = p := by
              obtain ⟨q0, q1, q2, q3, q4⟩ := q
              obtain ⟨p0, p1, p2, p3, p4⟩ := p
              simp only [Bool.and_eq_true, beq_iff_eq] at he
              obtain ⟨rfl, rfl, rfl, rfl, rfl⟩ := he
              rfl
            subst hpq
            obtain ⟨st, nx, T, g1, g2, g3⟩ := elder_g f s a hf (by omega) q ho hat hq
            exact elder_same f s w _ _ _ _ _ a hf (by omega) hb hat ha hx st nx T g1 g2 g3
          · exact elder_x f s w _ _ _ _ _ _ _ _ _ _ _ a hf (by omega) hb hat ha hx (.inr ⟨rfl, by simpa using he⟩)
  · exact elder_no f s w _ _ _ _ _ _ (actR_no f 3000 hf) (by decide)
end Go.Proofs.Ytaibkfgpdgabaaa.P
end
