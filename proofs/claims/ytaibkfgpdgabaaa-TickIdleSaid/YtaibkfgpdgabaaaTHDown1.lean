/- A part of the proof of T: what its last text uses; conditions: see there. -/
import Derived.StillTailTactics
import Derived.Test.YtaibkfgpdgabaaaTHTick
import Derived.Test.YtaibkfgpdgabaaaTP1x0
import Derived.Test.YtaibkfgpdgabaaaTP0x0
section
namespace Go.Proofs.Ytaibkfgpdgabaaa.P
open Go.RowKit Go.Proofs.YtaibkfgpdgabaaaW.PrintWords Go.Proofs.YtaibkfgpdgabaaaW.PrintLast Go.Proofs.YtaibkfgpdgabaaaW.PrintMore
set_option linter.unusedVariables false
set_option linter.unusedSimpArgs false
theorem upTo16_calls (x a b : Int) (w : World) : Calls Try.prog 62 #[.int .i64 x, .int .i64 a, .int .i64 b] w fun e w' => e = .returned (.bool (decide (a ≤ x) && decide (x ≤ b))) ∧ w = w' := by
  go_enter Try.func62, Try.ntmps62
  go_wp2
  all_goals
    go_ret
    exact ⟨ret_b (by first | (simp [*]; done) | (simp [*]; omega)), rfl⟩
theorem OwnOps.old {base g j : Nat} {W : World} {v u : Value} {l : List SOp} (h : OwnOps base W v l) (hg : g < base) : OwnOps base (W.setCell ⟨g, j, none⟩ u) v l :=
  Kd.Q_mono (Kd.Q_move (Kd.Q_bound h) (fun k hk => Below.heap_setCell W ⟨g, j, none⟩ u k (by have := hk.2.1; show k ≠ g; omega))) (fun _ _ => trivial)
noncomputable def otherN (f : ByteArray) : Int := match actO f with
  | some p => 1 - p.f1.f1
  | none => 0
theorem otherN_range (f : ByteArray) (hf : f.size = 768) : 0 ≤ otherN f ∧ otherN f ≤ 1 := by
  unfold otherN
  cases h : actO f with
  | none => simp
  | some p =>
    have := (rec_bounds (actO_may hf h).1).2.1
    simp only
    omega
theorem otherR_f (f : ByteArray) (hf : f.size = 768) : skiffref1_Other.f 3000 f = some (otherN f, 0) := by
  rw [skiffref1_Other.f, actR_f f 3000 (Nat.le_refl _) hf, Option.bind_some, otherN]
  cases h : actO f with
  | none =>
    rw [if_neg (show ¬ (vals none).2.2.2.2.2 = 0 by decide), if_pos (show (vals none).2.2.2.2.2 = 701 from rfl)]
  | some p =>
    have := (rec_bounds (actO_may hf h).1).2.1
    rw [if_pos (show (vals (some p)).2.2.2.2.2 = 0 from rfl)]
    show some (wrap64 (1 - p.f1.f1), 0) = _
    rw [w64 (by omega) (by omega)]
def erasesL (a : Nat) : List SOp := [⟨true, (a : Int), ⟨#[]⟩⟩, ⟨true, ((a + 96 : Nat) : Int), ⟨#[]⟩⟩, ⟨true, ((a + 192 : Nat) : Int), ⟨#[]⟩⟩]
theorem baseR_f (b : Int) (hb : 0 ≤ b ∧ b ≤ 1) : skiffref1_Base.f b = some (((baseN b : Nat) : Int), 0) := by
  have e1 : wrap64 (3 * b) = 3 * b := w64 (by omega) (by omega)
  have e2 : wrap64 (2 + 3 * b) = 2 + 3 * b := w64 (by omega) (by omega)
  have e3 : wrap64 ((2 + 3 * b) * 96) = ((baseN b : Nat) : Int) := by rw [w64 (by omega) (by omega), baseN]; omega
  unfold skiffref1_Base.f skiffref1_upTo.f
  rw [if_pos (by omega), Option.bind_some, if_pos (by simpa using hb.2), e1, e2, e3]
theorem erasesR_f (b : Int) (hb : 0 ≤ b ∧ b ≤ 1) : skiffref1_Erases.f 5 b = some (erasesL (baseN b), 0) := by
  have hn : baseN b ≤ 480 := by unfold baseN; omega
  have e0 : wrap64 (((baseN b : Nat) : Int) + wrap64 (0 * 96)) = ((baseN b : Nat) : Int) := by rw [w64 (x := 0 * 96) (by omega) (by omega), w64 (by omega) (by omega)]; omega
  have e1 : wrap64 (((baseN b : Nat) : Int) + wrap64 (1 * 96)) = ((baseN b + 96 : Nat) : Int) := by rw [w64 (x := 1 * 96) (by omega) (by omega), w64 (by omega) (by omega)]; omega
  have e2 : wrap64 (((baseN b : Nat) : Int) + wrap64 (2 * 96)) = ((baseN b + 192 : Nat) : Int) := by rw [w64 (x := 2 * 96) (by omega) (by omega), w64 (by omega) (by omega)]; omega
  rw [skiffref1_Erases.f, baseR_f b hb, Option.bind_some, if_pos rfl]
  rw [skiffref1_Erases.l0, if_pos (by decide), if_pos (by decide), e0, show wrap64 (0 + 1) = 1 from (w64 (x := 0 + 1) (by decide) (by decide)), skiffref1_Erases.l0, if_pos (by decide), if_pos (by simp), e1, show wrap64 (1 + 1) = 2 from (w64 (x := 1 + 1) (by decide) (by decide)), skiffref1_Erases.l0, if_pos (by decide), if_pos (by simp), e2, show wrap64 (2 + 1) = 3 from (w64 (x := 2 + 1) (by decide) (by decide)), skiffref1_Erases.l0, if_neg (by decide)]
  rfl
def wordsOf (a : Nat) (t : ByteArray) : List SOp := wordsL (a : Int) (padB t) ((padB t).size / 4)
theorem wordsR_f (a : Nat) (t : ByteArray) (ha : a % 4 = 0) (h : a + t.size ≤ 768) : skiffref1_Words.f a t = some (wordsOf a t, 0) := by
  rw [skiffref1_Words.f, if_pos (by simp only [wordsMayB, Bool.and_eq_true, decide_eq_true_eq]; omega)]
  rfl
noncomputable def firstOps (f t : ByteArray) : List SOp := erasesL (baseN (otherN f)) ++ wordsOf (baseN (otherN f)) t
theorem both0_f (f : ByteArray) (hf : f.size = 768) : skiffref16_both.f 2 f 0 0 0 0 0 [] = some true := by
  unfold skiffref16_both.f skiffref1_FlashMay.f skiffref16_DeviceMay.f
  rw [Option.bind_some, if_pos (by simp [hf]), skiffref16_DeviceMay.l0, if_neg (by decide)]
  rfl
theorem base16_calls (b : Int) (w : World) (hb : 0 ≤ b ∧ b ≤ 1) : Calls Try.prog 23 #[.int .i64 b] w fun e w' => e = .returned (.tuple #[.int .i64 (baseN b : Nat), .int .i64 0]) ∧ Aside0 (Below w.heap.size w w') :=
  (skiffref1_Base.calls b _ _ w (baseR_f b hb)).mono fun e w' h => ⟨h.1, ⟨h.2.below⟩⟩
set_option maxHeartbeats 4000000 in
set_option maxRecDepth 100000 in
theorem down_first (f t : ByteArray) (A : Option Addr) (c : Nat) (w : World) (hf : f.size = 768) (ht0 : 1 ≤ t.size) (ht1 : t.size ≤ 32) (hr : Kd.C k59 w A ([] : List SOp).length []) :
    Calls Try.prog 66 #[.string f, .agg #[.int .i64 0, .int .i64 0, .int .i64 0, .int .i64 0, .int .i64 0, .slice A 0 c], .int .i64 0, .string t] w fun e w' => ∃ v : Value, e = .returned (.tuple #[.agg #[.int .i64 1, .int .i64 0, .int .i64 1, .int .i64 t.size, .int .i64 (otherN f), v], .int .i64 0]) ∧ OwnOps w.heap.size w' v (firstOps f t) ∧ Below w.heap.size w w' := by
  have HR := Aside0.mk hr
  have HBO := Aside0.mk (both0_f f hf)
  have hob := otherN_range f hf
  have HOT := Aside0.mk (otherR_f f hf)
  have HER := Aside0.mk (erasesR_f (otherN f) hob)
  have hbn : baseN (otherN f) ≤ 480 := by unfold baseN; omega
  have hbm : baseN (otherN f) % 4 = 0 := by unfold baseN; omega
  have HWO := Aside0.mk (wordsR_f (baseN (otherN f)) t hbm (by omega))
  have HOB := Aside0.mk hob
  have hts : (t.toList.isEmpty) = false := by rw [toList_empty, decide_eq_false_iff_not]; omega
  have hti : (t.size : Int) ≤ 32 := by omega
  have hlen : (erasesL (baseN (otherN f))).length = 3 := rfl
  have HLE := Lib.hid hlen
  have hpz : (padB t).size / 4 ≤ 8 := by rw [padB_size]; omega
  have HWL := Aside0.mk (show (wordsOf (baseN (otherN f)) t).length ≤ 8 by rw [wordsOf, wordsL_length]; exact hpz)
  have HFO := Aside0.mk (show firstOps f t = erasesL (baseN (otherN f)) ++ wordsOf (baseN (otherN f)) t from rfl)
  generalize otherN f = ot at *
  generalize firstOps f t = fo at *
  generalize wordsOf (baseN ot) t = wl at *
  generalize erasesL (baseN ot) = el at *
  clear hr hf hob hbn hbm hlen hpz ht0
  obtain ⟨W, hW⟩ : ∃ W, W = (w.alloc (.cells #[.int .i64 0, .int .i64 0, .int .i64 0, .int .i64 0, .int .i64 0, .slice A 0 c] 26)).alloc (.cells #[.int .i64 0, .int .i64 0, .int .i64 0, .int .i64 0, .int .i64 0, .slice none 0 0] 26) := ⟨_, rfl⟩
  have H2 := Aside0.mk (two_devs w 0 0 0 0 0 (.slice A 0 c) W hW)
  have HW := Lib.hid hW
  clear hW
  go_enter Try.func66, Try.ntmps66
  go_upto_region 1 with (fail)
  rw [← HW.out]
  clear HW
  obtain ⟨⟨d0, d1, d2, d3, d4, d5⟩, ⟨z0, z1, z2, z3, z4, z5⟩, ⟨y0, y1, y2, y3, y4, y5⟩⟩ := And.intro H2.out.1.cells (And.intro H2.out.2.1.cells H2.out.2.1.free)
  go_upto_region 4 with (first | (go_at_call 58; refine (skiffref16_both.calls 2 f 0 0 0 0 0 A c [] true W (C_any HR.out W) (Nat.zero_le _) HBO.out).mono ?_; rintro e w1 ⟨rfl, hb1⟩; have HD0 := Aside0.mk (H2.out.1.below hb1); have HD := Aside0.mk (H2.out.2.1.below hb1); have HB1 := Aside0.mk (bthen H2.out.2.2 hb1); clear hb1 d0 d1 d2 d3 d4 d5 z0 z1 z2 z3 z4 z5 y0 y1 y2 y3 y4 y5; obtain ⟨⟨d0, d1, d2, d3, d4, d5⟩, ⟨z0, z1, z2, z3, z4, z5⟩, ⟨y0, y1, y2, y3, y4, y5⟩⟩ := And.intro HD0.out.cells (And.intro HD.out.cells HD.out.free)) | (go_at_call 62; refine (upTo16_calls _ _ _ _).mono ?_; rintro e w' ⟨rfl, rfl⟩) | (go_at_call 59; refine (skiffref16_copyDevice.calls 0 0 0 0 0 A c [] 0 0 0 0 0 [] w1 (C_any HR.out w1) (Nat.zero_le _) rfl).mono ?_; rintro e w2 ⟨v5, rfl, ho, hb2⟩; obtain ⟨A5, c5, rfl, hc5, hC5⟩ := Kd.R_reads ho; clear ho hC5 hc5; have HB2 := Aside0.mk hb2; have HD2 := Aside0.mk (HD.out.below hb2); have HD02 := Aside0.mk (HD0.out.below hb2); clear hb2))
  have HX := Aside0.mk (Dev.new w2 0 0 0 0 0 (.slice A5 ([] : List SOp).length c5))
  have HP := Aside0.mk (HD02.out.below (balloc w2 (.cells #[.int .i64 0, .int .i64 0, .int .i64 0, .int .i64 0, .int .i64 0, .slice A5 ([] : List SOp).length c5] 26)))
  have HZ := Aside0.mk (HD2.out.below (balloc w2 (.cells #[.int .i64 0, .int .i64 0, .int .i64 0, .int .i64 0, .int .i64 0, .slice A5 ([] : List SOp).length c5] 26)))
  have HB := Aside0.mk (bthen HB1.out (bthen HB2.out (balloc w2 (.cells #[.int .i64 0, .int .i64 0, .int .i64 0, .int .i64 0, .int .i64 0, .slice A5 ([] : List SOp).length c5] 26))))
  have hlt : w.heap.size + 1 < w2.heap.size := HD2.out.lt
  clear HB1 HB2 HD HD0 HD2 HD02 H2 d0 d1 d2 d3 d4 d5 z0 z1 z2 z3 z4 z5 y0 y1 y2 y3 y4 y5
  generalize w2.alloc (.cells #[.int .i64 0, .int .i64 0, .int .i64 0, .int .i64 0, .int .i64 0, .slice A5 ([] : List SOp).length c5] 26) = V at *
  generalize hB7 : w2.heap.size = B7 at *
  have hne : ¬ w.heap.size + 1 = B7 := by omega
  have hne2 : ¬ B7 = w.heap.size + 1 := by omega
  have hne3 : ¬ w.heap.size = B7 := by omega
  have hge : w.heap.size ≤ B7 := by omega
  obtain ⟨x0, x1, x2, x3, x4, x5⟩ := HX.out.cells
  obtain ⟨v0, v1, v2, v3, v4, v5⟩ := HX.out.free
  go_upto_region 5 with (fail)
  have HX1 := Aside0.mk (HX.out.set0 1)
  have HP1 := Aside0.mk (HP.out.far (g := B7) (o := 0) (v := .int .i64 1) hne3)
  have HZ1 := Aside0.mk (HZ.out.far (g := B7) (o := 0) (v := .int .i64 1) hne)
  have HBU := Aside0.mk (below_set HB.out hge (v := .int .i64 1) (j := 0))
  clear HX HP HZ HB x0 x1 x2 x3 x4 x5 v0 v1 v2 v3 v4 v5
  generalize V.setCell ⟨B7, 0, none⟩ (.int .i64 1) = U at *
  obtain ⟨d0, d1, d2, d3, d4, d5⟩ := HP1.out.cells
  go_upto_region 14 with (first | (go_at_call 98; refine (skiffref1_Other.calls 3000 f ot 0 U HOT.out).mono ?_; rintro e u1 ⟨rfl, hb⟩; have HU1 := Aside0.mk hb; clear hb) | (go_at_call 23; refine (base16_calls ot u1 HOB.out).mono ?_; rintro e u2 ⟨rfl, HU2⟩) | (go_at_call 37; refine (skiffref1_Erases.calls 5 ot el 0 u2 HER.out).mono ?_; rintro e u3 ⟨ve, rfl, hR, hb⟩; obtain ⟨Ae, ce, rfl, hce, hCe⟩ := Kd.R_reads hR; have HCE := Aside0.mk hCe; have HU3 := Aside0.mk hb; clear hR hb hCe hce) | (go_at_call 32; refine (skiffref1_Words.calls (baseN ot : Nat) t wl 0 u3 HWO.out).mono ?_; rintro e X ⟨vw, rfl, hR, hb⟩; obtain ⟨Aw, cw, rfl, hcw, hCw⟩ := Kd.R_reads hR; have HCW := Aside0.mk hCw; have HU4 := Aside0.mk hb; clear hR hb hCw hcw))
  have HCX := Aside0.mk (Kd.C_below HCE.out HU4.out)
  have HUX := Aside0.mk (bthen HU1.out (bthen HU2.out (bthen HU3.out HU4.out)))
  clear HCE HU1 HU2 HU3 HU4 d0 d1 d2 d3 d4 d5
  go_upto_region 15 with (first | ((with_reducible refine gate_dst (N := 82) rfl ?_); refine Kd.R_lit k59 (w0 := X) X.heap.size 59 ?hg (N := 82) ?hd (xs := ([] : List SOp)) (inner := []) (ok := fun _ => True) (okp := fun _ => True) ?hr ?hp (fun _ hk => hk) trivial (Below.refl _ _) (Nat.le_refl _) (by simp) ?_; (case hd => rfl); (case hg => rfl); (case hr => first | (go_simp; done) | (go_simp; rfl)); (case hp => exact (Reps.none _ _)); intro v1 n1 ho hb hg_ hnew_; clear hg_ hnew_; have HO := Aside0.mk ho; have HBn := Aside0.mk hb; clear ho hb) | ((with_reducible refine gate_builtin (b := .append) (xs := #[.tmp 82, .tmp 83]) rfl ?_); at_builtin; refine Kd.R_append_rows k59 (w0 := X) X.heap.size rfl (.tmp 82) (.tmp 83) 24 59 (.agg #[(.bool false), (.int .i64 0), (.string ⟨#[]⟩)]) 32 rfl Try.underlying24 info59 rfl (by decide) (by omega) v1 [] el _ _ _ (fun _ => True) (fun _ => False) rfl rfl ?aO ?aR (fun _ _ h => h) (fun _ h => h.elim) ?aF ?aB ?aS ?aL ?_; (case aR => exact Kd.C_below HCX.out HBn.out); (case aB => exact HBn.out); (case aF => exact (fun _ _ => trivial)); (case aO => exact HO.out); (case aS => exact HBn.out.size); (case aL => have := HLE.out; have := HWL.out; simp only [List.length_append, List.length_nil]; omega); intro v2 n2 ho hb hg hat; clear HO HBn hg hat; have HO := Aside0.mk ho; have HBn := Aside0.mk hb; clear ho hb))
  go_upto_region 16 with ((with_reducible refine gate_builtin (b := .append) (xs := #[.tmp 85, .tmp 86]) rfl ?_); at_builtin; refine Kd.R_append_rows k59 (w0 := X) X.heap.size rfl (.tmp 85) (.tmp 86) 24 59 (.agg #[(.bool false), (.int .i64 0), (.string ⟨#[]⟩)]) 32 rfl Try.underlying24 info59 rfl (by decide) (by omega) v2 ([] ++ el) wl _ _ _ (fun _ => True) (fun _ => False) rfl rfl ?aO ?aR (fun _ _ h => h) (fun _ h => h.elim) ?aF ?aB ?aS ?aL ?_; (case aR => exact Kd.C_below HCW.out HBn.out); (case aB => exact HBn.out); (case aF => exact (fun _ _ => trivial)); (case aO => exact HO.out); (case aS => exact HBn.out.size); (case aL => have := HLE.out; have := HWL.out; simp only [List.length_append, List.length_nil]; omega); intro v3 n3 ho hb hg hat; clear HO HBn hg hat; have HO := Aside0.mk ho; have HBn := Aside0.mk hb; clear ho hb)
  obtain ⟨A3, c3, hv3, hc3, _⟩ := Kd.R_reads HO.out
  subst hv3
  have HQ := Aside0.mk (Kd.Q_of_R HO.out)
  have hw0 : w.heap.size ≤ X.heap.size := (bthen HBU.out HUX.out).size
  have hw1 : w.heap.size + 1 < X.heap.size := (HZ1.out.below HUX.out).lt
  have hw2 : B7 < X.heap.size := (HX1.out.below HUX.out).lt
  have HX3 := Aside0.mk (HX1.out.below (bthen HUX.out HBn.out))
  have HZ3 := Aside0.mk (HZ1.out.below (bthen HUX.out HBn.out))
  have HB3 := Aside0.mk (bthen HBU.out (bthen HUX.out HBn.out))
  clear HX1 HZ1 HP1 HUX HBn HCX HCW HO HBU
  obtain ⟨⟨x0, x1, x2, x3, x4, x5⟩, ⟨v0, v1, v2, v3, v4, v5⟩⟩ := And.intro HX3.out.cells HX3.out.free
  obtain ⟨⟨z0, z1, z2, z3, z4, z5⟩, ⟨y0, y1, y2, y3, y4, y5⟩⟩ := And.intro HZ3.out.cells HZ3.out.free
  go_wp2
  refine bodyPost_ret (v := .tuple #[.agg #[.int .i64 1, .int .i64 0, .int .i64 1, .int .i64 t.size, .int .i64 ot, .slice A3 ([] ++ el ++ wl).length c3], .int .i64 0]) (by simp [results, Try.results66, go_sem, *]) rfl ⟨_, rfl, ?_, ?_⟩
  · rw [HFO.out]
    refine Kd.Q_lower (base := X.heap.size) ?_ hw0
    have hqq : OwnOps X.heap.size n3 (.slice A3 ([] ++ el ++ wl).length c3) (el ++ wl) := HQ.out
    repeat (first | (with_reducible exact hqq) | (with_reducible refine OwnOps.old ?_ hw1) | (with_reducible refine OwnOps.old ?_ hw2))
  · have hbb := HB3.out
    repeat (first | (with_reducible exact hbb) | (with_reducible refine below_set ?_ (Nat.le_succ _)) | (with_reducible refine below_set ?_ hge))
end Go.Proofs.Ytaibkfgpdgabaaa.P
end
