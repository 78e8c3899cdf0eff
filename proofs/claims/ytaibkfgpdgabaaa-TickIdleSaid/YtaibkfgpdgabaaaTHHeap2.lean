/- A part of the proof of T: what its last text uses; conditions: see there. -/
import Derived.Test.YtaibkfgpdgabaaaTHHeap
section
namespace Go.Proofs.Ytaibkfgpdgabaaa.P
open Go.RowKit Go.Proofs.YtaibkfgpdgabaaaW.PrintWords Go.Proofs.YtaibkfgpdgabaaaW.PrintLast Go.Proofs.YtaibkfgpdgabaaaW.PrintMore
set_option linter.unusedVariables false
set_option linter.unusedSimpArgs false
def Sunk (g : Nat) (xs : List SPl) (w : World) (e : Ending) (w' : World) : Prop := ∃ b, e = .returned (.bool b) ∧ QRow w' g xs ∧ w.grownBy w' (some g)
set_option maxHeartbeats 4000000 in
set_option maxRecDepth 100000 in
theorem down_calls (B g len cap n i0 k0 : Nat) (xs : List SPl) (w : World) (hv : w.cell? ⟨B, 0, none⟩ = some (.slice (some ⟨g, 0, none⟩) len cap)) (hB : B ≠ g) (hr : QRow w g xs) (hn : xs.length = len) (hmax : len ≤ 8) (hnl : n ≤ len) (hi0 : i0 ≤ 8) (hk0 : n ≤ i0 + k0) :
    Calls Try.prog 110 #[.iface 109 (.pointer (some ⟨B, 0, none⟩)), .int .i64 i0, .int .i64 n] w (Sunk g (downL n k0 xs i0) w) := by
  have hmL := fun (W : World) (h : W.cell? ⟨B, 0, none⟩ = some (.slice (some ⟨g, 0, none⟩) len cap)) => (meth_less ⟨B, 0, none⟩ W).trans (load_queue _ W _ _ _ h _)
  have hmS := fun (W : World) (h : W.cell? ⟨B, 0, none⟩ = some (.slice (some ⟨g, 0, none⟩) len cap)) => (meth_swap ⟨B, 0, none⟩ W).trans (load_queue _ W _ _ _ h _)
  have HV := Aside0.mk hv
  have HR := Aside0.mk hr
  have HN := Lib.hid hn
  have HBG := Aside0.mk hB
  clear hr hn hB hv
  go_enter Try.func110, Try.ntmps110
  go_wp2
  go_loopw [7] (fun v wr => ∃ (i k : Nat) (ys : List SPl), v = .int .i64 i ∧ i ≤ 8 ∧ n ≤ i + k ∧ Aside0 (QRow wr g ys) ∧ Hid (ys.length = len) ∧ Aside0 (w.grownBy wr (some g)) ∧ Hid (downL n k ys i = downL n k0 xs i0)) (fun v _ => n - (intOf v).toNat)
  case atStart => exact ⟨i0, k0, xs, rfl, hi0, hk0, HR, HN, ⟨grown_refl _ _⟩, Lib.hid rfl⟩
  case round =>
    obtain ⟨i, k, ys, rfl, hi8, hik, HQ, HYN, HG, HD⟩ := hrel
    have hv1 := HG.out.cell HV.out (by simpa using HBG.out)
    by_cases h1 : 2 * i + 1 < n
    · obtain ⟨k, rfl⟩ : ∃ m, k = m + 1 := ⟨k - 1, by omega⟩
      by_cases h2 : 2 * i + 2 < n
      · cases hb : lessP (atQ ys (2 * i + 2)) (atQ ys (2 * i + 1))
        · have HCH := Lib.hid (show childQ ys i n = 2 * i + 1 by rw [childQ, if_neg (by rw [hb]; simp)])
          cases hc : lessP (atQ ys (2 * i + 1)) (atQ ys i)
          · have HE := Lib.hid (show downL n (k + 1) ys i = ys by rw [downL, if_pos h1, HCH.out, hc, if_neg (by decide)])
            go_wp2_with (first | (go_at_call 152; refine (less_int g len cap _ _ (2 * i + 2) (2 * i + 1) ys _ HQ.out HYN.out (by omega) (by omega) (by omega) (by omega) hmax).mono ?_; rintro e w1 ⟨rfl, hb1⟩; rw [hb]; have hv2 := pw_cell_below hb1 hv1; have HQ2 := Aside0.mk (HQ.out.grown hb1); have HG2 := Aside0.mk (grown_below HG.out hb1); clear hb1) | (go_at_call 152; refine (less_int g len cap _ _ (2 * i + 1) i ys _ HQ2.out HYN.out (by omega) (by omega) (by omega) (by omega) hmax).mono ?_; rintro e w2 ⟨rfl, hb1⟩; rw [hc]; have hv3 := pw_cell_below hb1 hv2; have HQ3 := Aside0.mk (HQ2.out.grown hb1); have HG3 := Aside0.mk (grown_below HG2.out hb1); clear hb1))
            go_ret
            exact ⟨_, rfl, by rw [← HD.out, HE.out]; exact HQ3.out, HG3.out⟩
          · have HE := Lib.hid (show downL n (k + 1) ys i = downL n k (swapQ ys i (2 * i + 1)) (2 * i + 1) by rw [downL, if_pos h1, HCH.out, hc, if_pos rfl])
            go_wp2_with (first | (go_at_call 152; refine (less_int g len cap _ _ (2 * i + 2) (2 * i + 1) ys _ HQ.out HYN.out (by omega) (by omega) (by omega) (by omega) hmax).mono ?_; rintro e w1 ⟨rfl, hb1⟩; rw [hb]; have hv2 := pw_cell_below hb1 hv1; have HQ2 := Aside0.mk (HQ.out.grown hb1); have HG2 := Aside0.mk (grown_below HG.out hb1); clear hb1) | (go_at_call 152; refine (less_int g len cap _ _ (2 * i + 1) i ys _ HQ2.out HYN.out (by omega) (by omega) (by omega) (by omega) hmax).mono ?_; rintro e w2 ⟨rfl, hb1⟩; rw [hc]; have hv3 := pw_cell_below hb1 hv2; have HQ3 := Aside0.mk (HQ2.out.grown hb1); have HG3 := Aside0.mk (grown_below HG2.out hb1); clear hb1) | (go_at_call 153; refine (swap_int g len cap _ _ i (2 * i + 1) ys _ HQ3.out HYN.out (by omega) (by omega) (by omega) (by omega) hmax).mono ?_; rintro e w3 ⟨rfl, hq, hg⟩; have HQ4 := Aside0.mk hq; have HG4 := Aside0.mk (World.grownBy.trans HG3.out hg); clear hq hg))
            go_roundw
            case rel => exact ⟨2 * i + 1, k, swapQ ys i (2 * i + 1), by go_num, by omega, by omega, HQ4, Lib.hid (by rw [swapQ_length]; exact HYN.out), HG4, Lib.hid (by rw [← HD.out, HE.out])⟩
            case measure => simp [intOf]; omega
        · have HCH := Lib.hid (show childQ ys i n = 2 * i + 2 by rw [childQ, if_pos ⟨h2, hb⟩])
          cases hc : lessP (atQ ys (2 * i + 2)) (atQ ys i)
          · have HE := Lib.hid (show downL n (k + 1) ys i = ys by rw [downL, if_pos h1, HCH.out, hc, if_neg (by decide)])
            go_wp2_with (first | (go_at_call 152; refine (less_int g len cap _ _ (2 * i + 2) (2 * i + 1) ys _ HQ.out HYN.out (by omega) (by omega) (by omega) (by omega) hmax).mono ?_; rintro e w1 ⟨rfl, hb1⟩; rw [hb]; have hv2 := pw_cell_below hb1 hv1; have HQ2 := Aside0.mk (HQ.out.grown hb1); have HG2 := Aside0.mk (grown_below HG.out hb1); clear hb1) | (go_at_call 152; refine (less_int g len cap _ _ (2 * i + 2) i ys _ HQ2.out HYN.out (by omega) (by omega) (by omega) (by omega) hmax).mono ?_; rintro e w2 ⟨rfl, hb1⟩; rw [hc]; have hv3 := pw_cell_below hb1 hv2; have HQ3 := Aside0.mk (HQ2.out.grown hb1); have HG3 := Aside0.mk (grown_below HG2.out hb1); clear hb1))
            go_ret
            exact ⟨_, rfl, by rw [← HD.out, HE.out]; exact HQ3.out, HG3.out⟩
          · have HE := Lib.hid (show downL n (k + 1) ys i = downL n k (swapQ ys i (2 * i + 2)) (2 * i + 2) by rw [downL, if_pos h1, HCH.out, hc, if_pos rfl])
            go_wp2_with (first | (go_at_call 152; refine (less_int g len cap _ _ (2 * i + 2) (2 * i + 1) ys _ HQ.out HYN.out (by omega) (by omega) (by omega) (by omega) hmax).mono ?_; rintro e w1 ⟨rfl, hb1⟩; rw [hb]; have hv2 := pw_cell_below hb1 hv1; have HQ2 := Aside0.mk (HQ.out.grown hb1); have HG2 := Aside0.mk (grown_below HG.out hb1); clear hb1) | (go_at_call 152; refine (less_int g len cap _ _ (2 * i + 2) i ys _ HQ2.out HYN.out (by omega) (by omega) (by omega) (by omega) hmax).mono ?_; rintro e w2 ⟨rfl, hb1⟩; rw [hc]; have hv3 := pw_cell_below hb1 hv2; have HQ3 := Aside0.mk (HQ2.out.grown hb1); have HG3 := Aside0.mk (grown_below HG2.out hb1); clear hb1) | (go_at_call 153; refine (swap_int g len cap _ _ i (2 * i + 2) ys _ HQ3.out HYN.out (by omega) (by omega) (by omega) (by omega) hmax).mono ?_; rintro e w3 ⟨rfl, hq, hg⟩; have HQ4 := Aside0.mk hq; have HG4 := Aside0.mk (World.grownBy.trans HG3.out hg); clear hq hg))
            go_roundw
            case rel => exact ⟨2 * i + 2, k, swapQ ys i (2 * i + 2), by go_num, by omega, by omega, HQ4, Lib.hid (by rw [swapQ_length]; exact HYN.out), HG4, Lib.hid (by rw [← HD.out, HE.out])⟩
            case measure => simp [intOf]; omega
      · have HCH := Lib.hid (show childQ ys i n = 2 * i + 1 by rw [childQ, if_neg (fun h => h2 h.1)])
        cases hc : lessP (atQ ys (2 * i + 1)) (atQ ys i)
        · have HE := Lib.hid (show downL n (k + 1) ys i = ys by rw [downL, if_pos h1, HCH.out, hc, if_neg (by decide)])
          go_wp2_with (first | (go_at_call 152; refine (less_int g len cap _ _ (2 * i + 1) i ys _ HQ.out HYN.out (by omega) (by omega) (by omega) (by omega) hmax).mono ?_; rintro e w2 ⟨rfl, hb1⟩; rw [hc]; have hv3 := pw_cell_below hb1 hv1; have HQ3 := Aside0.mk (HQ.out.grown hb1); have HG3 := Aside0.mk (grown_below HG.out hb1); clear hb1))
          go_ret
          exact ⟨_, rfl, by rw [← HD.out, HE.out]; exact HQ3.out, HG3.out⟩
        · have HE := Lib.hid (show downL n (k + 1) ys i = downL n k (swapQ ys i (2 * i + 1)) (2 * i + 1) by rw [downL, if_pos h1, HCH.out, hc, if_pos rfl])
          go_wp2_with (first | (go_at_call 152; refine (less_int g len cap _ _ (2 * i + 1) i ys _ HQ.out HYN.out (by omega) (by omega) (by omega) (by omega) hmax).mono ?_; rintro e w2 ⟨rfl, hb1⟩; rw [hc]; have hv3 := pw_cell_below hb1 hv1; have HQ3 := Aside0.mk (HQ.out.grown hb1); have HG3 := Aside0.mk (grown_below HG.out hb1); clear hb1) | (go_at_call 153; refine (swap_int g len cap _ _ i (2 * i + 1) ys _ HQ3.out HYN.out (by omega) (by omega) (by omega) (by omega) hmax).mono ?_; rintro e w3 ⟨rfl, hq, hg⟩; have HQ4 := Aside0.mk hq; have HG4 := Aside0.mk (World.grownBy.trans HG3.out hg); clear hq hg))
          go_roundw
          case rel => exact ⟨2 * i + 1, k, swapQ ys i (2 * i + 1), by go_num, by omega, by omega, HQ4, Lib.hid (by rw [swapQ_length]; exact HYN.out), HG4, Lib.hid (by rw [← HD.out, HE.out])⟩
          case measure => simp [intOf]; omega
    · go_wp2
      go_ret
      refine ⟨_, rfl, ?_, HG.out⟩
      rw [← HD.out]
      cases k with
      | zero => exact HQ.out
      | succ k => rw [downL, if_neg h1]; exact HQ.out
end Go.Proofs.Ytaibkfgpdgabaaa.P
end
