/- A part of the proof of T: what its last text uses; conditions: see there. -/
import Derived.Test.YtaibkfgpdgabaaaTHHeap3
import Derived.Test.YtaibkfgpdgabaaaTP1x0
section
namespace Go.Proofs.Ytaibkfgpdgabaaa.P
open Go.RowKit Go.Proofs.YtaibkfgpdgabaaaW.PrintWords Go.Proofs.YtaibkfgpdgabaaaW.PrintLast Go.Proofs.YtaibkfgpdgabaaaW.PrintMore
set_option linter.unusedVariables false
set_option linter.unusedSimpArgs false
def actL (f : ByteArray) : Nat → List SPl → Option (Int × Int × Int × Int × Int × Int)
  | 0, _ => some (0, 0, 0, 0, 0, 701)
  | n + 1, xs => (image_Good.f f (atQ (popL n xs) n).f1.f0 (atQ (popL n xs) n).f1.f1 (atQ (popL n xs) n).f1.f2 (atQ (popL n xs) n).f1.f3).bind fun g => if g.1 = true then some ((atQ (popL n xs) n).f0, (atQ (popL n xs) n).f1.f0, (atQ (popL n xs) n).f1.f1, (atQ (popL n xs) n).f1.f2, (atQ (popL n xs) n).f1.f3, 0) else actL f n ((popL n xs).take n)
def choose_Active.f (a0 : ByteArray) : Option (Int × Int × Int × Int × Int × Int) :=
  (journal_Scan.f 64 a0).bind fun s => if s.2 = 0 then (if s.1.length ≤ 8 then actL a0 s.1.length (initL s.1.length (s.1.length / 2) s.1) else none) else some (0, 0, 0, 0, 0, 700)
theorem init0_calls (B cap : Nat) (A : Option Addr) (w : World) (hv : w.cell? ⟨B, 0, none⟩ = some (.slice A 0 cap)) :
    Calls Try.prog 85 #[.iface 109 (.pointer (some ⟨B, 0, none⟩))] w fun e w' => e = .returned (.tuple #[]) ∧ w = w' := by
  have hmL := fun (W : World) (h : W.cell? ⟨B, 0, none⟩ = some (.slice A 0 cap)) => (meth_val ⟨B, 0, none⟩ W).trans (load_queue _ W _ _ _ h _)
  go_enter Try.func85, Try.ntmps85
  go_wp2_with (go_at_call 86; refine (len_calls _ _ _ _).mono ?_; rintro e w1 ⟨rfl, rfl⟩)
  go_loopw [3] (fun v wr => v = .int .i64 (-1) ∧ w = wr) (fun _ _ => 0)
  case atStart => exact ⟨rfl, rfl⟩
  case round =>
    obtain ⟨rfl, rfl⟩ := hrel
    go_wp2
    go_end0
    exact ⟨rfl, rfl⟩
theorem QRow.ofR {W : World} {base : Nat} {ok : Nat → Prop} {v : Value} {xs : List SPl} (h : Kd.R k38 38 W base ok v xs) (hx : xs ≠ []) : ∃ g cap, v = .slice (some ⟨g, 0, none⟩) xs.length cap ∧ base ≤ g ∧ g < W.heap.size ∧ xs.length ≤ cap ∧ cap ≤ maxLen ∧ QRow W g xs := by
  obtain ⟨A, c, rfl, hc, hC⟩ := Kd.R_reads h
  obtain ⟨_, inner, ⟨_, ho⟩, _⟩ := h
  rcases ho with ⟨_, hl⟩ | ⟨g, cap, cur, he, hg, hh, hnc, hm, hsz, _⟩
  · exact absurd (List.eq_nil_of_length_eq_zero hl) hx
  · injection he with h1 h2 h3
    subst h1 h3
    refine ⟨g, c, rfl, hg, blk_lt hh, hnc, hm, fun i p hi => ?_, fun k _ => ?_⟩
    · have hlt : i < xs.length := (List.getElem?_eq_some_iff.mp hi).1
      obtain ⟨ad, e, h0, h1, h2, h3, h4⟩ := at_T38 hC i (by omega) (by omega)
      have hrd : rd_T38 xs i = p := by simp [rd_T38, hi]
      rw [hrd] at h0 h1 h2 h3 h4
      injection e with e
      subst e
      simp only [Int.toNat_natCast] at h0 h1 h2 h3 h4
      have ea : (⟨g, 0, none⟩ : Addr).add (i * 5) = ⟨g, i * 5, none⟩ := by by_cases hz : i * 5 = 0 <;> simp [Addr.add, hz]
      rw [ea] at h0 h1 h2 h3 h4
      exact ⟨h0, h1, h2, h3, h4⟩
    · simp [World.frozen?, hh]
structure Lies (base : Nat) (w : World) (B : Nat) (xs : List SPl) : Prop where
  at' : base ≤ B ∧ B < w.heap.size
  row : ∃ A c, w.cell? ⟨B, 0, none⟩ = some (.slice A xs.length c) ∧ (xs ≠ [] → ∃ g, A = some ⟨g, 0, none⟩ ∧ B ≠ g ∧ base ≤ g ∧ xs.length ≤ c ∧ c ≤ maxLen ∧ QRow w g xs)
  free : w.frozen? ⟨B, 0, none⟩ = false
theorem initL_length (n : Nat) : ∀ (k : Nat) (xs : List SPl), (initL n k xs).length = xs.length
  | 0, _ => rfl
  | k + 1, xs => by rw [initL, initL_length n k, downL_length]
theorem Lies.grown {base B : Nat} {w w' : World} {xs : List SPl} (h : Lies base w B xs) (hb : Below w.heap.size w w') : Lies base w' B xs := by
  obtain ⟨h1, ⟨A, c, hc, hr⟩, hf⟩ := h
  refine ⟨⟨h1.1, Nat.lt_of_lt_of_le h1.2 hb.size⟩, ⟨A, c, ?_, fun hx => ?_⟩, ?_⟩
  · rw [(bcell hb).1 _ _ h1.2]
    exact hc
  · obtain ⟨g, h2, h3, h4, h5, h6, h7⟩ := hr hx
    exact ⟨g, h2, h3, h4, h5, h6, h7.grown hb⟩
  · rw [(bcell hb).2 _ _ h1.2]
    exact hf
theorem act_init (w1 : World) (base : Nat) (ok : Nat → Prop) (v : Value) (xs : List SPl) (h : Kd.R k38 38 w1 base ok v xs) (hb : base ≤ w1.heap.size) (hx : xs.length ≤ 8) :
    Calls Try.prog 85 #[.iface 109 (.pointer (some ⟨w1.heap.size, 0, none⟩))] (w1.alloc (.cells #[v] 107)) fun e w' => e = .returned (.tuple #[]) ∧ Lies base w' w1.heap.size (initL xs.length (xs.length / 2) xs) ∧ Below base (w1.alloc (.cells #[v] 107)) w' := by
  have hsz : (w1.alloc (.cells #[v] 107)).heap.size = w1.heap.size + 1 := Array.size_push _
  rcases hxs : xs with _ | ⟨x0, xs'⟩
  · subst hxs
    obtain ⟨A, c, rfl, _, _⟩ := Kd.R_reads h
    refine (init0_calls w1.heap.size c A _ (by simp)).mono ?_
    rintro e w2 ⟨rfl, rfl⟩
    exact ⟨rfl, ⟨⟨hb, by omega⟩, ⟨A, c, by show _ = some (Value.slice A 0 c); exact World.cell?_alloc_new _ _ _ _, fun h => absurd rfl h⟩, World.frozen?_alloc_new _ _ _ _⟩, Below.refl _ _⟩
  · obtain ⟨g, c, rfl, hg, hlt, hc, hm, hq⟩ := QRow.ofR h (by simp [hxs])
    rw [← hxs]
    have hne : w1.heap.size ≠ g := by omega
    refine (init_calls w1.heap.size g xs.length c xs _ (by simp) hne (hq.grown (below_alloc (Below.refl _ _) _)) rfl hx).mono ?_
    rintro e w2 ⟨rfl, hq2, hgr⟩
    have hl : (initL xs.length (xs.length / 2) xs).length = xs.length := initL_length _ _ _
    have hs2 := hgr.size
    refine ⟨rfl, ⟨⟨hb, by omega⟩, ⟨some ⟨g, 0, none⟩, c, ?_, fun _ => ⟨g, rfl, hne, hg, by omega, hm, hq2⟩⟩, grown_frozen hgr (v := .slice (some ⟨g, 0, none⟩) xs.length c) (by simp) (World.frozen?_alloc_new _ _ _ _) hne⟩, ?_⟩
    · rw [hl]
      exact hgr.cell (by simp) (by simpa using hne)
    · exact ⟨hgr.os, hgr.tape, hgr.output, hgr.size, fun k hk => hgr.block k (by omega) (by simp; omega)⟩
theorem act_pop (w : World) (base B n : Nat) (xs : List SPl) (h : Lies base w B xs) (hn : xs.length = n + 1) (hx : n + 1 ≤ 8) :
    Calls Try.prog 87 #[.iface 109 (.pointer (some ⟨B, 0, none⟩))] w fun e w' => (∃ p, atQ (popL n xs) n = p ∧ e = .returned (.iface 38 (.agg #[.int .i64 p.f0, .int .i64 p.f1.f0, .int .i64 p.f1.f1, .int .i64 p.f1.f2, .int .i64 p.f1.f3]))) ∧ Lies base w' B ((popL n xs).take n) ∧ Below base w w' := by
  obtain ⟨h1, ⟨A, c, hc, hr⟩, hf⟩ := h
  obtain ⟨g, rfl, h3, h4, h5, h6, h7⟩ := hr (by intro e; rw [e] at hn; cases hn)
  rw [hn] at hc h5
  refine (pop_calls B g n c xs w hc hf h3 h7 hn hx h5 h6).mono ?_
  rintro e w' ⟨rfl, hq, hv, hf', ho⟩
  have hl : ((popL n xs).take n).length = n := by rw [List.length_take, popL_length]; omega
  exact ⟨⟨_, rfl, rfl⟩, ⟨⟨h1.1, Nat.lt_of_lt_of_le h1.2 ho.size⟩, ⟨_, c, by rw [hl]; exact hv, fun _ => ⟨g, rfl, h3, h4, by omega, h6, hq⟩⟩, hf'⟩, ⟨ho.os, ho.tape, ho.output, ho.size, fun k hk => ho.block k (by omega) (by omega) (by have := h4; omega)⟩⟩
theorem act_len (w : World) (base B : Nat) (xs : List SPl) (h : Lies base w B xs) : ∃ A c, w.cell? ⟨B, 0, none⟩ = some (.slice A xs.length c) := by
  obtain ⟨_, ⟨A, c, hc, _⟩, _⟩ := h
  exact ⟨A, c, hc⟩
abbrev resB (w : World) : World := w.alloc (Obj.cells #[.int .i64 0, .int .i64 0, .int .i64 0, .int .i64 0, .int .i64 0] 38)
theorem act_res {w wr : World} (h : Below (w.heap.size + 1) (resB w) wr) :
    (wr.cell? ⟨w.heap.size, 0, none⟩ = some (.int .i64 0) ∧ wr.cell? ⟨w.heap.size, 1, none⟩ = some (.int .i64 0) ∧ wr.cell? ⟨w.heap.size, 2, none⟩ = some (.int .i64 0) ∧ wr.cell? ⟨w.heap.size, 3, none⟩ = some (.int .i64 0) ∧ wr.cell? ⟨w.heap.size, 4, none⟩ = some (.int .i64 0)) ∧ ∀ o, wr.frozen? ⟨w.heap.size, o, none⟩ = false := by
  have hc : ∀ o, wr.cell? ⟨w.heap.size, o, none⟩ = (resB w).cell? ⟨w.heap.size, o, none⟩ := fun o => h.cell (p := ⟨w.heap.size, o, none⟩) (Nat.lt_succ_self _)
  have hf : ∀ o, wr.frozen? ⟨w.heap.size, o, none⟩ = (resB w).frozen? ⟨w.heap.size, o, none⟩ := fun o => h.frozen (p := ⟨w.heap.size, o, none⟩) (Nat.lt_succ_self _)
  refine ⟨⟨?_, ?_, ?_, ?_, ?_⟩, fun o => (hf o).trans (World.frozen?_alloc_new _ _ _ _)⟩ <;> rw [hc] <;> exact World.cell?_alloc_new _ _ _ _
def qlen (B : Nat) (w : World) : Nat := match w.cell? ⟨B, 0, none⟩ with
  | some (.slice _ n _) => n
  | _ => 0
theorem qlen_of {B n c : Nat} {A : Option Addr} {w : World} (h : w.cell? ⟨B, 0, none⟩ = some (.slice A n c)) : qlen B w = n := by rw [qlen, h]
theorem as_place (v : Value) (w : World) (xT : TypeId) : (Instr.typeAssert (.iface 38 v) xT 38 false).run Try.prog w = .ok v w := by kernel_rfl
theorem act_below {w wr : World} (h : Below (w.heap.size + 1) (resB w) wr) : Below w.heap.size w wr :=
  (below_alloc (Below.refl _ _) _).trans ⟨h.os, h.tape, h.output, h.size, fun k hk => h.block k (by omega)⟩
abbrev placed (w : World) (p : SPl) : World := w.alloc (Obj.cells #[.int .i64 p.f0, .int .i64 p.f1.f0, .int .i64 p.f1.f1, .int .i64 p.f1.f2, .int .i64 p.f1.f3] 38)
theorem placed_below {W w' : World} (h : Below W.heap.size W w') (w : World) (p : SPl) (hW : W = placed w p) : Below w.heap.size w w' := by
  subst hW
  have hp : Below w.heap.size w (placed w p) := below_alloc (Below.refl _ _) _
  exact hp.trans (h.mono hp.size)
theorem placed_cells {W w' : World} (h : Below W.heap.size W w') (w : World) (p : SPl) (hW : W = placed w p) : w'.cell? ⟨w.heap.size, 0, none⟩ = some (.int .i64 p.f0) ∧ w'.cell? ⟨w.heap.size, 1, none⟩ = some (.int .i64 p.f1.f0) ∧ w'.cell? ⟨w.heap.size, 2, none⟩ = some (.int .i64 p.f1.f1) ∧ w'.cell? ⟨w.heap.size, 3, none⟩ = some (.int .i64 p.f1.f2) ∧ w'.cell? ⟨w.heap.size, 4, none⟩ = some (.int .i64 p.f1.f3) := by
  subst hW
  have hz : (placed w p).heap.size = w.heap.size + 1 := Array.size_push _
  have hc : ∀ o, w'.cell? ⟨w.heap.size, o, none⟩ = (placed w p).cell? ⟨w.heap.size, o, none⟩ := fun o => h.cell (p := ⟨w.heap.size, o, none⟩) (by rw [hz]; exact Nat.lt_succ_self _)
  refine ⟨?_, ?_, ?_, ?_, ?_⟩ <;> rw [hc] <;> exact World.cell?_alloc_new _ _ _ _
set_option maxHeartbeats 3200000 in
set_option maxRecDepth 100000 in
theorem choose_Active.calls (a0 : ByteArray) (r1 : Int) (r2 : Int) (r3 : Int) (r4 : Int) (r5 : Int) (r6 : Int) (w : World) (h : choose_Active.f a0 = some (r1, r2, r3, r4, r5, r6)) :
    Calls Try.prog 46 #[.string a0] w fun e w' => e = .returned (.tuple #[.agg #[.int .i64 r1, .int .i64 r2, .int .i64 r3, .int .i64 r4, .int .i64 r5], .int .i64 r6]) ∧ Below w.heap.size w w' := by
  obtain ⟨s, hs, h1⟩ := Option.bind_eq_some_iff.mp h
  clear h
  obtain ⟨xs, e⟩ := s
  have H := Lib.hid h1
  clear h1
  have hb0 : Aside0 ((w.alloc (Obj.cells #[.int .i64 0, .int .i64 0, .int .i64 0, .int .i64 0, .int .i64 0] 38)).heap.size = w.heap.size + 1) := ⟨Array.size_push _⟩
  go_enter Try.func46, Try.ntmps46
  have hta := as_place
  by_cases he : e = 0
  · subst he
    have HI : Hid (xs.length ≤ 8 ∧ actL a0 xs.length (initL xs.length (xs.length / 2) xs) = some (r1, r2, r3, r4, r5, r6)) := by
      have h := H.out
      simp only [if_true] at h
      split at h
      · exact Lib.hid ⟨by assumption, h⟩
      · cases h
    clear H
    go_wp2_with (first | (go_at_call 84; refine (journal_Scan.calls 64 a0 _ _ _ hs).mono ?_; rintro e w1 ⟨v0, rfl, hR, hB1⟩; obtain ⟨A, c, rfl, hc, hC⟩ := Kd.R_reads hR; have HR1 := Aside0.mk hR; have HB1 := Aside0.mk hB1; clear hR hB1 hC) | (go_at_call 85; go_loud (refine (act_init w1 _ _ _ xs HR1.out HB1.out.size HI.out.1).mono ?_); rintro e w2 ⟨rfl, hq, hB2⟩; have HQ := Aside0.mk hq; have HB2 := Aside0.mk hB2; clear hq hB2))
    go_loopw [] (fun wr => ∃ ys, Aside0 (Lies (w.heap.size + 1) wr w1.heap.size ys) ∧ Hid (ys.length ≤ 8 ∧ actL a0 ys.length ys = some (r1, r2, r3, r4, r5, r6)) ∧ Aside0 (Below (w.heap.size + 1) (resB w) wr)) (fun wr => qlen w1.heap.size wr)
    case atStart =>
      refine ⟨initL xs.length (xs.length / 2) xs, ⟨by rw [← hb0.out]; exact HQ.out⟩, Lib.hid (by rw [initL_length]; exact HI.out), ⟨?_⟩⟩
      rw [← hb0.out]
      exact (below_alloc HB1.out _).trans HB2.out
    case round =>
      obtain ⟨ys, HL, HA, HB⟩ := hrel
      obtain ⟨A', c', hv⟩ := act_len _ _ _ _ HL.out
      have hu107 := Try.underlying107
      have HA := Lib.hid (p := ys.length ≤ 8 ∧ actL a0 ys.length ys = some (r1, r2, r3, r4, r5, r6)) HA.out
      obtain ⟨n, hn⟩ : ∃ n, ys.length = n := ⟨_, rfl⟩
      have HN := Lib.hid hn
      rw [hn] at hv HA
      clear hn
      obtain ⟨⟨c0, c1, c2, c3, c4⟩, cf⟩ := act_res HB.out
      cases n with
      | zero =>
        go_wp2_with (first | (go_at_call 86; refine (len_calls _ _ _ _).mono ?_; rintro e w3 ⟨rfl, rfl⟩))
        have HA2 := HA.out.2
        have h0 := List.length_eq_zero_iff.mp HN.out
        subst h0
        simp only [actL, Option.some.injEq, Prod.mk.injEq] at HA2
        obtain ⟨rfl, rfl, rfl, rfl, rfl, rfl⟩ := HA2
        refine bodyPost_ret (v := .tuple #[.agg #[.int .i64 0, .int .i64 0, .int .i64 0, .int .i64 0, .int .i64 0], .int .i64 701]) (by simp [results, Try.results46, go_sem, c0, c1, c2, c3, c4]) rfl ⟨rfl, ?_⟩
        repeat (first | (with_reducible exact act_below HB.out) | (with_reducible refine below_set ?_ (Nat.le_refl _)))
      | succ n =>
        obtain ⟨p, hp⟩ : ∃ p, atQ (popL n ys) n = p := ⟨_, rfl⟩
        have HP := Aside0.mk hp
        have HA2 := HA.out.2
        rw [actL, hp] at HA2
        obtain ⟨⟨gb, ge⟩, hgood, hrest⟩ := Option.bind_eq_some_iff.mp HA2
        have HR := Aside0.mk hrest
        clear HA2 hrest hp
        cases gb with
        | true =>
          go_wp2_with (first | (go_at_call 86; refine (len_calls _ _ _ _).mono ?_; rintro e w3 ⟨rfl, rfl⟩) | (go_at_call 87; refine (act_pop wr _ _ n ys HL.out HN.out HA.out.1).mono ?_; rintro e w4 ⟨⟨q, hq0, rfl⟩, hq, hB4⟩; rw [HP.out] at hq0; subst hq0; have HQ4 := Aside0.mk hq; have HB4 := Aside0.mk hB4; clear hq hB4; have hlt4 : w.heap.size + 1 < w4.heap.size := by (have := HQ4.out.at'; omega)) | (go_at_call 88; refine (image_Good.calls a0 _ _ _ _ _ _ _ hgood).mono ?_; rintro e w5 ⟨rfl, hB5⟩; obtain ⟨d0, d1, d2, d3, d4⟩ := placed_cells hB5 w4 p rfl; have HB5 := Aside0.mk (placed_below hB5 w4 p rfl); have HB6 := Aside0.mk (HB.out.trans (HB4.out.trans (HB5.out.mono (Nat.le_of_lt hlt4)))); obtain ⟨⟨b0, b1, b2, b3, b4⟩, bf⟩ := act_res HB6.out; clear hB5))
          have HR2 := HR.out
          simp only [if_true, Option.some.injEq, Prod.mk.injEq] at HR2
          obtain ⟨rfl, rfl, rfl, rfl, rfl, rfl⟩ := HR2
          refine bodyPost_ret (v := .tuple #[.agg #[.int .i64 p.f0, .int .i64 p.f1.f0, .int .i64 p.f1.f1, .int .i64 p.f1.f2, .int .i64 p.f1.f3], .int .i64 0]) (by simp [results, Try.results46, go_sem, b0, b1, b2, b3, b4]) rfl ⟨rfl, ?_⟩
          repeat (first | (with_reducible exact act_below HB6.out) | (with_reducible refine below_set ?_ (Nat.le_refl _)))
        | false =>
          go_wp2_with (first | (go_at_call 86; refine (len_calls _ _ _ _).mono ?_; rintro e w3 ⟨rfl, rfl⟩) | (go_at_call 87; refine (act_pop wr _ _ n ys HL.out HN.out HA.out.1).mono ?_; rintro e w4 ⟨⟨q, hq0, rfl⟩, hq, hB4⟩; rw [HP.out] at hq0; subst hq0; have HQ4 := Aside0.mk hq; have HB4 := Aside0.mk hB4; clear hq hB4; have hlt4 : w.heap.size + 1 < w4.heap.size := by (have := HQ4.out.at'; omega)) | (go_at_call 88; refine (image_Good.calls a0 _ _ _ _ _ _ _ hgood).mono ?_; rintro e w5 ⟨rfl, hB5⟩; obtain ⟨d0, d1, d2, d3, d4⟩ := placed_cells hB5 w4 p rfl; have HB5 := Aside0.mk (placed_below hB5 w4 p rfl); have HB6 := Aside0.mk (HB.out.trans (HB4.out.trans (HB5.out.mono (Nat.le_of_lt hlt4)))); obtain ⟨⟨b0, b1, b2, b3, b4⟩, bf⟩ := act_res HB6.out; clear hB5))
          go_roundw
          case rel => exact ⟨(popL n ys).take n, ⟨HQ4.out.grown HB5.out⟩, Lib.hid ⟨by rw [List.length_take, popL_length]; have := HA.out.1; omega, by rw [show ((popL n ys).take n).length = n by rw [List.length_take, popL_length, HN.out]; omega]; simpa using HR.out⟩, HB6⟩
          case measure =>
            obtain ⟨A5, c5, hv5⟩ := act_len _ _ _ _ (HQ4.out.grown HB5.out)
            rw [qlen_of hv, qlen_of hv5, List.length_take]
            omega
  · have H2 := H.out
    simp only [he, if_false, Option.some.injEq, Prod.mk.injEq] at H2
    obtain ⟨rfl, rfl, rfl, rfl, rfl, rfl⟩ := H2
    clear H
    go_wp2_with (go_at_call 84; refine (journal_Scan.calls 64 a0 _ _ _ hs).mono ?_; rintro e w1 ⟨v0, rfl, hR, hB1⟩; obtain ⟨A, c, rfl, hc, hC⟩ := Kd.R_reads hR; have HB1 := Aside0.mk (show Below (w.heap.size + 1) (resB w) w1 by rw [← hb0.out]; exact hB1); obtain ⟨⟨b0, b1, b2, b3, b4⟩, bf⟩ := act_res HB1.out; clear hR hC)
    refine bodyPost_ret (v := .tuple #[.agg #[.int .i64 0, .int .i64 0, .int .i64 0, .int .i64 0, .int .i64 0], .int .i64 700]) (by simp [results, Try.results46, go_sem, b0, b1, b2, b3, b4]) rfl ⟨rfl, ?_⟩
    repeat (first | (with_reducible exact act_below HB1.out) | (with_reducible refine below_set ?_ (Nat.le_refl _)))
end Go.Proofs.Ytaibkfgpdgabaaa.P
end
