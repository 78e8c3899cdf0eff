/- A part of the proof of T: what its last text uses; conditions: see there. -/
import Derived.Deep.RegionHeld3
import Derived.Deep.DrawnRows
import Derived.Test.YtaibkfgpdgabaaaTQGive
import Derived.Test.YtaibkfgpdgabaaaTP0x0
section
namespace Go.Proofs.Ytaibkfgpdgabaaa.P
open Go.RowKit Go.Proofs.YtaibkfgpdgabaaaW.PrintWords Go.Proofs.YtaibkfgpdgabaaaW.PrintLast Go.Proofs.YtaibkfgpdgabaaaW.PrintMore
set_option linter.unusedVariables false
set_option linter.unusedSimpArgs false
theorem opsNil (w : World) : Kd.C k59 w none ([] : List SOp).length [] := by
  obtain ⟨A, c, he, hc, hC⟩ := Kd.R_reads (Kd.R_nil k59 59 w 0 (fun _ => True))
  injection he with h1 h2 h3
  rw [h1]
  exact hC
theorem held_calls (w : World) : Calls Try.prog 16 #[] w fun e w' => e = .returned (.string heldB) ∧ Below w.heap.size w w' := skifflaw20_held.calls 4000 _ _ (held_f 4000 (Nat.le_refl _))
theorem blank_calls (w : World) : Calls Try.prog 31 #[] w fun e w' => e = .returned (.string (ffB 768)) ∧ Below w.heap.size w w' := skiffref1_Blank.calls 769 _ _ (blank_f 769 (Nat.le_refl _))
theorem give_calls (f : ByteArray) (a0 a1 a2 a3 a4 b n r1 r2 r3 r4 r5 r8 : Int) (r7 : ByteArray) (w : World) (h : upload_Give.f f a0 a1 a2 a3 a4 [] b n = some (r1, r2, r3, r4, r5, [], r7, r8)) :
    Calls Try.prog 17 #[.string f, .agg #[.int .i64 a0, .int .i64 a1, .int .i64 a2, .int .i64 a3, .int .i64 a4, .slice none 0 0], .int .i64 b, .int .i64 n] w fun e w' => ∃ (A : Option Addr) (c : Nat), e = .returned (.tuple #[.agg #[.int .i64 r1, .int .i64 r2, .int .i64 r3, .int .i64 r4, .int .i64 r5, .slice A 0 c], .string r7, .int .i64 r8]) ∧ Aside0 (Kd.C k59 w' A ([] : List SOp).length []) ∧ Aside0 (Below w.heap.size w w') := by
  refine (upload_Give.calls f a0 a1 a2 a3 a4 none 0 [] b n r1 r2 r3 r4 r5 [] r7 r8 w (opsNil w) (Nat.le_refl _) h).mono ?_
  rintro e w' ⟨v, rfl, hR, hB⟩
  obtain ⟨A, c, rfl, hc, hC⟩ := Kd.R_reads hR
  exact ⟨A, c, rfl, ⟨hC⟩, ⟨hB⟩⟩
theorem num0_calls (x : Int) (w : World) : Calls Try.prog 19 #[.int .i64 x] w fun e w' => e = .returned (.int .i64 x) ∧ w = w' := by
  go_enter Try.func19, Try.ntmps19
  go_wp2
  go_ret
  exact ⟨rfl, rfl⟩
theorem newdev_calls (w : World) : Calls Try.prog 22 #[] w fun e w' => ∃ (A : Option Addr) (c : Nat), e = .returned (.agg #[.int .i64 0, .int .i64 0, .int .i64 0, .int .i64 0, .int .i64 0, .slice A 0 c]) ∧ Aside0 (Kd.C k59 w' A ([] : List SOp).length []) ∧ Aside0 (Below w.heap.size w w') := by
  refine (skiffref16_NewDevice.calls 0 0 0 0 0 [] w rfl).mono ?_
  rintro e w' ⟨v, rfl, hR, hB⟩
  obtain ⟨A, c, rfl, hc, hC⟩ := Kd.R_reads hR
  exact ⟨A, c, rfl, ⟨hC⟩, ⟨hB⟩⟩
theorem same0_calls (a0 a1 a2 a3 a4 : Int) (A B : Option Addr) (c d : Nat) (w : World) (hA : Kd.C k59 w A ([] : List SOp).length []) (hB : Kd.C k59 w B ([] : List SOp).length []) :
    Calls Try.prog 18 #[.agg #[.int .i64 a0, .int .i64 a1, .int .i64 a2, .int .i64 a3, .int .i64 a4, .slice A 0 c], .agg #[.int .i64 a0, .int .i64 a1, .int .i64 a2, .int .i64 a3, .int .i64 a4, .slice B 0 d]] w fun e w' => e = .returned (.bool true) ∧ Below w.heap.size w w' := by
  have h : skifflaw0_SameDevice.f 1 a0 a1 a2 a3 a4 [] a0 a1 a2 a3 a4 [] = some true := by
    unfold skifflaw0_SameDevice.f skifflaw0_SameOps.f
    rw [if_pos rfl, if_pos rfl, if_pos rfl, if_pos rfl, if_pos rfl, if_pos rfl]
    rfl
  exact skifflaw0_SameDevice.calls 1 a0 a1 a2 a3 a4 A c [] a0 a1 a2 a3 a4 B d [] true w hA (Nat.zero_le _) hB (Nat.zero_le _) h
theorem bthen {a b c : World} (h1 : Below a.heap.size a b) (h2 : Below b.heap.size b c) : Below a.heap.size a c := h1.trans (h2.mono h1.size)
theorem balloc (a : World) (o : Obj) : Below a.heap.size a (a.alloc o) := below_alloc (Below.refl _ _) o
theorem newcell {w W : World} {cs : Array Value} {T : TypeId} (h : Below (w.alloc (.cells cs T)).heap.size (w.alloc (.cells cs T)) W) (i : Nat) : W.cell? ⟨w.heap.size, i, none⟩ = cs[i]? :=
  (h.cell (p := ⟨w.heap.size, i, none⟩) (by rw [show (w.alloc (.cells cs T)).heap.size = w.heap.size + 1 from Array.size_push _]; exact Nat.lt_succ_self _)).trans (World.cell?_alloc_new _ _ _ _)
theorem awake_keep {W w' : World} {a b d c : Nat} {A : Option Addr} (h : (W.cell? ⟨a, 0, none⟩ = some (.int .i64 0) ∧ W.cell? ⟨a, 1, none⟩ = some (.int .i64 0) ∧ W.cell? ⟨a, 2, none⟩ = some (.int .i64 0) ∧ W.cell? ⟨a, 3, none⟩ = some (.int .i64 0) ∧ W.cell? ⟨a, 4, none⟩ = some (.int .i64 0) ∧ W.cell? ⟨a, 5, none⟩ = some (.slice A 0 c) ∧ W.cell? ⟨b, 1, none⟩ = some (.int .i64 4) ∧ W.cell? ⟨d, 1, none⟩ = some (.int .i64 2)) ) (hb : Below W.heap.size W w') : (w'.cell? ⟨a, 0, none⟩ = some (.int .i64 0) ∧ w'.cell? ⟨a, 1, none⟩ = some (.int .i64 0) ∧ w'.cell? ⟨a, 2, none⟩ = some (.int .i64 0) ∧ w'.cell? ⟨a, 3, none⟩ = some (.int .i64 0) ∧ w'.cell? ⟨a, 4, none⟩ = some (.int .i64 0) ∧ w'.cell? ⟨a, 5, none⟩ = some (.slice A 0 c) ∧ w'.cell? ⟨b, 1, none⟩ = some (.int .i64 4) ∧ w'.cell? ⟨d, 1, none⟩ = some (.int .i64 2)) :=
  have k : ∀ {g o : Nat} {v : Value}, W.cell? ⟨g, o, none⟩ = some v → w'.cell? ⟨g, o, none⟩ = some v := fun h => pw_cell_below hb h
  ⟨k h.1, k h.2.1, k h.2.2.1, k h.2.2.2.1, k h.2.2.2.2.1, k h.2.2.2.2.2.1, k h.2.2.2.2.2.2.1, k h.2.2.2.2.2.2.2⟩
set_option maxHeartbeats 4000000 in
set_option maxRecDepth 100000 in
theorem awake_calls (w : World) : Calls Try.prog 15 #[] w fun e w' => e = .returned (.bool true) ∧ Below w.heap.size w w' := by
  have G1 : Aside0 (upload_Give.f heldB 0 0 0 0 0 [] 0 32 = some (0, 0, 0, 0, 0, [], ⟨#[97, 98, 97, 98, 97, 98, 97, 98, 97, 98, 97, 98]⟩, 0)) := ⟨awake_g1⟩
  have G2 := Aside0.mk awake_g2
  have G3 := Aside0.mk awake_g3
  have G4 := Aside0.mk awake_g4
  go_enter Try.func15, Try.ntmps15
  go_upto_region 2 with (first | (go_at_call 16; refine (held_calls _).mono ?_; rintro e wh1 ⟨rfl, hb1⟩; have HH1 := Aside0.mk hb1; clear hb1) | (go_at_call 31; refine (blank_calls _).mono ?_; rintro e wh1 ⟨rfl, hb1⟩; have HH1 := Aside0.mk hb1; clear hb1) | (go_at_call 17; refine (give_calls _ _ _ _ _ _ _ _ _ _ _ _ _ _ _ _ G1.out).mono ?_; rintro e w1 ⟨A1, c1, rfl, HC1, HB1⟩))
  go_upto_region 3 with (first | (go_at_call 16; refine (held_calls _).mono ?_; rintro e wh2 ⟨rfl, hb2⟩; have HH2 := Aside0.mk hb2; clear hb2) | (go_at_call 31; refine (blank_calls _).mono ?_; rintro e wh2 ⟨rfl, hb2⟩; have HH2 := Aside0.mk hb2; clear hb2) | (go_at_call 17; refine (give_calls _ _ _ _ _ _ _ _ _ _ _ _ _ _ _ _ G2.out).mono ?_; rintro e w2 ⟨A2, c2, rfl, HC2, HB2⟩))
  go_upto_region 4 with (first | (go_at_call 16; refine (held_calls _).mono ?_; rintro e wh3 ⟨rfl, hb3⟩; have HH3 := Aside0.mk hb3; clear hb3) | (go_at_call 31; refine (blank_calls _).mono ?_; rintro e wh3 ⟨rfl, hb3⟩; have HH3 := Aside0.mk hb3; clear hb3) | (go_at_call 17; refine (give_calls _ _ _ _ _ _ _ _ _ _ _ _ _ _ _ _ G3.out).mono ?_; rintro e w3 ⟨A3, c3, rfl, HC3, HB3⟩))
  go_upto_region 5 with (first | (go_at_call 16; refine (held_calls _).mono ?_; rintro e wh4 ⟨rfl, hb4⟩; have HH4 := Aside0.mk hb4; clear hb4) | (go_at_call 31; refine (blank_calls _).mono ?_; rintro e wh4 ⟨rfl, hb4⟩; have HH4 := Aside0.mk hb4; clear hb4) | (go_at_call 17; refine (give_calls _ _ _ _ _ _ _ _ _ _ _ _ _ _ _ _ G4.out).mono ?_; rintro e w4 ⟨A4, c4, rfl, HC4, HB4⟩))
  have K3 := Aside0.mk (newcell ((bthen (bthen HH4.out HB4.out) (balloc w4 (Obj.cells #[.int .i64 0, .int .i64 0, .int .i64 0, .int .i64 0, .int .i64 0, .slice A4 0 c4] 26)))) 1)
  have K2 := Aside0.mk (newcell (bthen (bthen HH3.out HB3.out) (bthen (balloc w3 _) (bthen (bthen HH4.out HB4.out) (balloc w4 (Obj.cells #[.int .i64 0, .int .i64 0, .int .i64 0, .int .i64 0, .int .i64 0, .slice A4 0 c4] 26))))) 1)
  have K1 := Aside0.mk (fun i => newcell (bthen (bthen HH2.out HB2.out) (bthen (balloc w2 _) (bthen (bthen HH3.out HB3.out) (bthen (balloc w3 _) (bthen (bthen HH4.out HB4.out) (balloc w4 (Obj.cells #[.int .i64 0, .int .i64 0, .int .i64 0, .int .i64 0, .int .i64 0, .slice A4 0 c4] 26))))))) i)
  have KB := Aside0.mk (bthen (bthen HH1.out HB1.out) (bthen (balloc w1 _) (bthen (bthen HH2.out HB2.out) (bthen (balloc w2 _) (bthen (bthen HH3.out HB3.out) (bthen (balloc w3 _) (bthen (bthen HH4.out HB4.out) (balloc w4 (Obj.cells #[.int .i64 0, .int .i64 0, .int .i64 0, .int .i64 0, .int .i64 0, .slice A4 0 c4] 26)))))))))
  have N4 := Aside0.mk (Kd.C_below HC1.out (bthen (balloc w1 _) (bthen (bthen HH2.out HB2.out) (bthen (balloc w2 _) (bthen (bthen HH3.out HB3.out) (bthen (balloc w3 _) (bthen (bthen HH4.out HB4.out) (balloc w4 (Obj.cells #[.int .i64 0, .int .i64 0, .int .i64 0, .int .i64 0, .int .i64 0, .slice A4 0 c4] 26)))))))))
  clear HH1 HH2 HH3 HH4 HB1 HB2 HB3 HB4 HC1 HC2 HC3 HC4 G1 G2 G3 G4
  generalize w4.alloc (Obj.cells #[.int .i64 0, .int .i64 0, .int .i64 0, .int .i64 0, .int .i64 0, .slice A4 0 c4] 26) = W at *
  have k0 : W.cell? ⟨w1.heap.size, 0, none⟩ = some (.int .i64 0) := K1.out 0
  have k1 : W.cell? ⟨w1.heap.size, 1, none⟩ = some (.int .i64 0) := K1.out 1
  have k2 : W.cell? ⟨w1.heap.size, 2, none⟩ = some (.int .i64 0) := K1.out 2
  have k3 : W.cell? ⟨w1.heap.size, 3, none⟩ = some (.int .i64 0) := K1.out 3
  have k4 : W.cell? ⟨w1.heap.size, 4, none⟩ = some (.int .i64 0) := K1.out 4
  have k5 : W.cell? ⟨w1.heap.size, 5, none⟩ = some (.slice A1 0 c1) := K1.out 5
  have l1 : W.cell? ⟨w2.heap.size, 1, none⟩ = some (.int .i64 4) := K2.out
  have m1 : W.cell? ⟨w3.heap.size, 1, none⟩ = some (.int .i64 2) := K3.out
  clear K1 K2 K3
  have KS := Aside0.mk (And.intro k0 (And.intro k1 (And.intro k2 (And.intro k3 (And.intro k4 (And.intro k5 (And.intro l1 m1)))))))
  clear k0 k1 k2 k3 k4 k5 l1 m1
  go_region_held3 (fun w' => w'.cell? ⟨w1.heap.size, 0, none⟩ = some (.int .i64 0) ∧ w'.cell? ⟨w1.heap.size, 1, none⟩ = some (.int .i64 0) ∧ w'.cell? ⟨w1.heap.size, 2, none⟩ = some (.int .i64 0) ∧ w'.cell? ⟨w1.heap.size, 3, none⟩ = some (.int .i64 0) ∧ w'.cell? ⟨w1.heap.size, 4, none⟩ = some (.int .i64 0) ∧ w'.cell? ⟨w1.heap.size, 5, none⟩ = some (.slice A1 0 c1) ∧ w'.cell? ⟨w2.heap.size, 1, none⟩ = some (.int .i64 4) ∧ w'.cell? ⟨w3.heap.size, 1, none⟩ = some (.int .i64 2)) (first | exact KS.out | exact awake_keep KS.out (below_drew1 (Below.refl _ _)) | exact awake_keep KS.out HN0.out | exact awake_keep KS.out HS0.out) (first | (go_at_call 22; refine (newdev_calls _).mono ?_; rintro e wn ⟨A9, c9, rfl, HCn, HBn⟩; have HN0 := Aside0.mk (bthen (below_drew1 (Below.refl W.heap.size W)) HBn.out)) | (go_at_call 18; refine (same0_calls 0 0 0 0 0 A1 A9 c1 c9 wn (Kd.C_below N4.out HN0.out) HCn.out).mono ?_; rintro e ws ⟨rfl, hbs⟩; have HS0 := Aside0.mk (bthen HN0.out hbs); clear hbs) | (go_at_call 19; refine (num0_calls _ _).mono ?_; rintro e w' ⟨rfl, rfl⟩))
  go_wp2
  go_ret
  exact ⟨rfl, bthen KB.out HS0.out⟩
def skifflaw20_awake.f : Option Bool := some true
theorem skifflaw20_awake.calls (r : Bool) (w : World) (h : skifflaw20_awake.f = some r) :
    Calls Try.prog 15 #[] w fun e w' => e = .returned (.bool r) ∧ Below w.heap.size w w' := by
  simp only [skifflaw20_awake.f, Option.some.injEq] at h
  subst h
  exact awake_calls w
end Go.Proofs.Ytaibkfgpdgabaaa.P
end
