/- A part of the proof of T: what its last text uses; conditions: see there. -/
import Derived.Deep.RegionHeld3
import Derived.Deep.DrawnRows
import Derived.Test.YtaibkfgpdgabaaaTHDown1
section
namespace Go.Proofs.Ytaibkfgpdgabaaa.P
open Go.RowKit Go.Proofs.YtaibkfgpdgabaaaW.PrintWords Go.Proofs.YtaibkfgpdgabaaaW.PrintLast Go.Proofs.YtaibkfgpdgabaaaW.PrintMore
set_option linter.unusedVariables false
set_option linter.unusedSimpArgs false
def sentT : ByteArray := ⟨#[48, 49, 50, 51, 52, 53, 54, 55, 56, 57, 97, 98, 99, 100, 101, 102, 48, 49, 50, 51, 52, 53, 54, 55, 56, 57, 97, 98, 99, 100, 101, 102]⟩
noncomputable def sentOps : List SOp := firstOps (ffB 768) sentT
theorem sent_other : otherN (ffB 768) = 0 := by rw [otherN, act_none (ffB_size _) blank_recs]
theorem sentOps_len : sentOps.length = 11 := by
  rw [sentOps, firstOps, List.length_append, wordsOf, wordsL_length, padB_size]
  rfl
set_option maxHeartbeats 2000000 in
set_option maxRecDepth 100000 in
theorem sent_calls (w : World) : Calls Try.prog 34 #[] w fun e w' => ∃ v : Value, e = .returned (.agg #[.int .i64 1, .int .i64 0, .int .i64 1, .int .i64 32, .int .i64 0, v]) ∧ OwnOps w.heap.size w' v sentOps ∧ Below w.heap.size w w' := by
  have HD := Aside0.mk (fun A c w hr => down_first (ffB 768) sentT A c w (ffB_size _) (by decide) (by decide) hr)
  go_enter Try.func34, Try.ntmps34
  go_upto_region 1 with (fail)
  have HW := Aside0.mk (Dev.new w 0 0 0 0 0 (.slice none 0 0))
  have HB := Aside0.mk (balloc w (.cells #[.int .i64 0, .int .i64 0, .int .i64 0, .int .i64 0, .int .i64 0, .slice none 0 0] 26))
  generalize w.alloc (.cells #[.int .i64 0, .int .i64 0, .int .i64 0, .int .i64 0, .int .i64 0, .slice none 0 0] 26) = W at *
  go_upto_region 2 with (first | (go_at_call 31; refine (blank_calls _).mono ?_; rintro e w1 ⟨rfl, hb⟩; have HB1 := Aside0.mk hb; clear hb) | (go_at_call 22; refine (newdev_calls _).mono ?_; rintro e w2 ⟨A, c, rfl, HC, HB2⟩) | (go_at_call 66; refine (HD.out A c _ HC.out).mono ?_; rintro e w3 ⟨v, rfl, hq, hb⟩; rw [sent_other, show (sentT.size : Int) = 32 from rfl]; obtain ⟨g5, o5, c5, hv, hx⟩ := Kd.Q_form hq (by rw [← sentOps, sentOps_len]; decide); subst hv; clear hx; have HQ := Aside0.mk hq; have HB3 := Aside0.mk hb; clear hq hb))
  have HN := Aside0.mk (Dev.new w3 1 0 1 32 0 (.slice (some ⟨g5, o5, none⟩) (firstOps (ffB 768) sentT).length c5))
  have HX := Aside0.mk (bthen (bthen (bthen HB1.out HB2.out) HB3.out) (balloc w3 (.cells #[.int .i64 1, .int .i64 0, .int .i64 1, .int .i64 32, .int .i64 0, .slice (some ⟨g5, o5, none⟩) (firstOps (ffB 768) sentT).length c5] 26)))
  have HW0 := Aside0.mk (HW.out.below HX.out)
  have HQX := Aside0.mk (Kd.Q_lower (Kd.Q_alloc HQ.out (.cells #[.int .i64 1, .int .i64 0, .int .i64 1, .int .i64 32, .int .i64 0, .slice (some ⟨g5, o5, none⟩) (firstOps (ffB 768) sentT).length c5] 26)) (Nat.le_trans HB.out.size (Nat.le_trans HB1.out.size HB2.out.size)))
  clear HW HC HQ HB1 HB2 HB3 HD
  generalize w3.alloc (.cells #[.int .i64 1, .int .i64 0, .int .i64 1, .int .i64 32, .int .i64 0, .slice (some ⟨g5, o5, none⟩) (firstOps (ffB 768) sentT).length c5] 26) = X at *
  obtain ⟨⟨d0, d1, d2, d3, d4, d5⟩, ⟨z0, z1, z2, z3, z4, z5⟩, ⟨y0, y1, y2, y3, y4, y5⟩⟩ := And.intro HN.out.cells (And.intro HW0.out.cells HW0.out.free)
  go_wp2
  refine bodyPost_ret (v := .agg #[.int .i64 1, .int .i64 0, .int .i64 1, .int .i64 32, .int .i64 0, .slice (some ⟨g5, o5, none⟩) (firstOps (ffB 768) sentT).length c5]) (by simp [results, Try.results34, go_sem, *]) rfl ⟨_, rfl, OwnOps.store HQX.out HW0.out _ _ _ _ _ _, ?_⟩
  have hbb := bthen HB.out HX.out
  repeat (first | (with_reducible exact hbb) | (with_reducible refine below_set ?_ (Nat.le_refl _)))
end Go.Proofs.Ytaibkfgpdgabaaa.P
end
