/- Lemmas of the claim: Ha, He, Rs, Tj, Tm, Tk, Tl, KRootBelow. -/
import Derived.Test.YtfinbmnjfnajiaaQRBh
import Derived.Test.YtfinbmnjfnajiaaQRBm
import Derived.Deep.CutBlock
import Derived.Deep.CutRange
import Derived.Deep.DeepCutAuto
import Derived.Test.YtfinbmnjfnajiaaQRBa
import Derived.Test.YtfinbmnjfnajiaaQRBg
import Derived.Test.YtfinbmnjfnajiaaQRBe
section
set_option linter.unusedVariables false
set_option linter.unusedSimpArgs false
namespace Go.Proofs.Ytfinbmnjfnajiaa.Ha
open Go.RowKit Go.Proofs.YtfinbmnjfnajiaaW.PrintWords Go.Proofs.YtfinbmnjfnajiaaW.PrintLast Go.Proofs.YtfinbmnjfnajiaaW.PrintMore Go.Proofs.Ytfinbmnjfnajiaa.PW Go.Proofs.Ytfinbmnjfnajiaa.Ma Go.Proofs.Ytfinbmnjfnajiaa.Mh Go.Proofs.Ytfinbmnjfnajiaa.Mu Go.Proofs.Ytfinbmnjfnajiaa.Mn
theorem threeW (w : World) (s0 : Int) (A0 : Option Addr) (n0 c0 : Nat) (s1 : Int) (A1 : Option Addr) (n1 c1 : Nat) {W0 : World} (hW0 : W0 = ((w.alloc (.cells #[.int .i64 s0, .slice A0 n0 c0] 26)).alloc (.cells #[.int .i64 s1, .slice A1 n1 c1] 26)).alloc (.cells #[.int .i64 0, .slice none 0 0] 26)) :
    ∀ W, Below W0.heap.size W0 W → ((W.cell? ⟨w.heap.size, 0, none⟩ = some (.int .i64 s0) ∧ W.cell? ⟨w.heap.size, 1, none⟩ = some (.slice A0 n0 c0)) ∧ (W.cell? ⟨w.heap.size + 1, 0, none⟩ = some (.int .i64 s1) ∧ W.cell? ⟨w.heap.size + 1, 1, none⟩ = some (.slice A1 n1 c1))) ∧
      (W.cell? ⟨w.heap.size + 1 + 1, 0, none⟩ = some (.int .i64 0) ∧ W.cell? ⟨w.heap.size + 1 + 1, 1, none⟩ = some (.slice none 0 0) ∧ W.frozen? ⟨w.heap.size + 1 + 1, 0, none⟩ = false ∧ W.frozen? ⟨w.heap.size + 1 + 1, 1, none⟩ = false) ∧ (w.heap.size < W.heap.size ∧ w.heap.size + 1 < W.heap.size ∧ w.heap.size + 1 + 1 < W.heap.size) ∧ W.heap[w.heap.size + 1 + 1]? = some (.cells #[.int .i64 0, .slice none 0 0] 26 (0, 0)) ∧ Below w.heap.size w W := fun W hb => by
  have hs : W0.heap.size = w.heap.size + 3 := by rw [hW0, alloc_size, alloc_size, alloc_size]
  obtain ⟨h1, x0, x1, y0, y1, ⟨_, i0, i1, i2⟩, hx⟩ := threeBoxes w s0 A0 n0 c0 s1 A1 n1 c1 W (by rw [← hs, ← hW0]; exact hb)
  obtain ⟨e0, e1, f0, f1⟩ := cellsOf hx
  exact ⟨⟨⟨x0, x1⟩, y0, y1⟩, ⟨e0, e1, f0, f1⟩, ⟨i0, i1, i2⟩, hx, h1⟩
set_option maxRecDepth 20000 in
set_option maxHeartbeats 1600000 in
theorem handAdd2 (k : Nat) (a0_0 : Int) (A0_1 : Option Addr) (c0_1 : Nat) (l0_1 : List Int) (a1_0 : Int) (A1_1 : Option Addr) (c1_1 : Nat) (l1_1 : List Int) (r1 : Int) (r2 : List Int) (w : World) (hr0_1 : Kd.C (Kd.int .i64) w A0_1 l0_1.length l0_1) (hc0_1 : l0_1.length ≤ c0_1) (hr1_1 : Kd.C (Kd.int .i64) w A1_1 l1_1.length l1_1) (hc1_1 : l1_1.length ≤ c1_1) (h : spec_l02Add.f k a0_0 l0_1 a1_0 l1_1 = some (r1, r2)) :
    Calls Try.prog 83 #[.agg #[.int .i64 a0_0, .slice A0_1 l0_1.length c0_1], .agg #[.int .i64 a1_0, .slice A1_1 l1_1.length c1_1]] w fun e w' => ∃ v1_ : Value, e = .returned (.agg #[.int .i64 r1, v1_]) ∧ Kd.R (Kd.int .i64) 2 w' w.heap.size (fun _ => True) v1_ r2 ∧ Below w.heap.size w w' := by
  unfold spec_l02Add.f at h
  obtain ⟨W0, hW0⟩ : ∃ W0, W0 = ((w.alloc (.cells #[.int .i64 a0_0, .slice A0_1 l0_1.length c0_1] 26)).alloc (.cells #[.int .i64 a1_0, .slice A1_1 l1_1.length c1_1] 26)).alloc (.cells #[.int .i64 0, .slice none 0 0] 26) := ⟨_, rfl⟩
  have stay0 := threeW w a0_0 A0_1 l0_1.length c0_1 a1_0 A1_1 l1_1.length c1_1 hW0
  have HCa := Lib.hid (fun (W : World) (hb : Below W0.heap.size W0 W) => C_at hr0_1 (stay0 W hb).2.2.2.2)
  have HCb := Lib.hid (fun (W : World) (hb : Below W0.heap.size W0 W) => C_at hr1_1 (stay0 W hb).2.2.2.2)
  have HLa := Lib.hid hc0_1
  have HLb := Lib.hid hc1_1
  have stay := Lib.hid stay0
  have HW := Lib.hid hW0
  clear hW0 stay0 hr0_1 hr1_1 hc0_1 hc1_1
  by_cases h0 : a0_0 = 0
  · rw [if_pos h0] at h
    obtain ⟨⟨q1, q2⟩, hm, hq⟩ := Option.bind_eq_some_iff.1 h
    obtain ⟨rfl, rfl⟩ := Prod.mk.inj (Option.some.inj hq)
    have HMK := Lib.hid (spec_l02Make.calls k a1_0 A1_1 c1_1 l1_1 _ _ W0 (HCb.out W0 (Below.refl _ _)) HLb.out hm)
    have HZ0 := Lib.hid (stay.out W0 (Below.refl _ _)).2.2.1.1
    subst h0
    clear h hq hm
    generalize q1 = r1 at *
    generalize q2 = r2 at *
    go_enter Try.func83, Try.ntmps83
    go_upto_region 1 with fail
    rw [← HW.out]
    clear HW
    obtain ⟨⟨⟨c0, c1⟩, d0, d1⟩, ⟨e0, e1, f0, f1⟩, ⟨z0, z1, z2⟩, hx, hbw⟩ := stay.out W0 (Below.refl _ _)
    clear hx hbw
    have n1a : w.heap.size ≠ w.heap.size + 1 + 1 := by omega
    have n1b := Ne.symm n1a
    go_wp2_with fail
    refine HMK.out.mono ?_
    rintro en w1 ⟨u, rfl, hR, hb⟩
    obtain ⟨A, c, rfl⟩ := Kd.R_slice hR
    clear c0 c1 d0 d1 e0 e1 f0 f1 z0 z1 z2
    obtain ⟨⟨⟨c0, c1⟩, d0, d1⟩, ⟨e0, e1, f0, f1⟩, ⟨z0, z1, z2⟩, hx, hbw⟩ := stay.out w1 hb
    have HX := Lib.hid hx
    have HB := Lib.hid hbw
    have HR := Lib.hid (Kd.R_lower (base' := w.heap.size) hR (by have := HZ0.out; omega))
    clear hR hb hx hbw
    go_wp2
    have hst := storedW (s := r1) (u := .slice A r2.length c) HX.out HB.out (by omega) HR.out
    exact bodyPost_ret (results_single rfl (.cell (w.heap.size + 1 + 1) 26 #[.int .i64 r1, .slice A r2.length c] (0, 0) _ rfl hst.1 Try.underlying26 rfl sizeW .nil)) rfl ⟨_, rfl, hst.2.1, hst.2.2⟩
  rw [if_neg h0] at h
  have h0b : (a0_0 == 0) = false := by simpa using h0
  by_cases h1 : a1_0 = 0
  · rw [if_pos h1] at h
    obtain ⟨⟨q1, q2⟩, hm, hq⟩ := Option.bind_eq_some_iff.1 h
    obtain ⟨rfl, rfl⟩ := Prod.mk.inj (Option.some.inj hq)
    have HMK := Lib.hid (spec_l02Make.calls k a0_0 A0_1 c0_1 l0_1 _ _ W0 (HCa.out W0 (Below.refl _ _)) HLa.out hm)
    have HZ0 := Lib.hid (stay.out W0 (Below.refl _ _)).2.2.1.1
    subst h1
    clear h hq hm
    generalize q1 = r1 at *
    generalize q2 = r2 at *
    go_enter Try.func83, Try.ntmps83
    go_upto_region 1 with fail
    rw [← HW.out]
    clear HW
    obtain ⟨⟨⟨c0, c1⟩, d0, d1⟩, ⟨e0, e1, f0, f1⟩, ⟨z0, z1, z2⟩, hx, hbw⟩ := stay.out W0 (Below.refl _ _)
    clear hx hbw
    have n1a : w.heap.size ≠ w.heap.size + 1 + 1 := by omega
    have n1b := Ne.symm n1a
    go_wp2_with fail
    refine HMK.out.mono ?_
    rintro en w1 ⟨u, rfl, hR, hb⟩
    obtain ⟨A, c, rfl⟩ := Kd.R_slice hR
    clear c0 c1 d0 d1 e0 e1 f0 f1 z0 z1 z2
    obtain ⟨⟨⟨c0, c1⟩, d0, d1⟩, ⟨e0, e1, f0, f1⟩, ⟨z0, z1, z2⟩, hx, hbw⟩ := stay.out w1 hb
    have HX := Lib.hid hx
    have HB := Lib.hid hbw
    have HR := Lib.hid (Kd.R_lower (base' := w.heap.size) hR (by have := HZ0.out; omega))
    clear hR hb hx hbw
    go_wp2
    have hst := storedW (s := r1) (u := .slice A r2.length c) HX.out HB.out (by omega) HR.out
    exact bodyPost_ret (results_single rfl (.cell (w.heap.size + 1 + 1) 26 #[.int .i64 r1, .slice A r2.length c] (0, 0) _ rfl hst.1 Try.underlying26 rfl sizeW .nil)) rfl ⟨_, rfl, hst.2.1, hst.2.2⟩
  rw [if_neg h1] at h
  have h1b : (a1_0 == 0) = false := by simpa using h1
  by_cases h2 : a0_0 = a1_0
  · rw [if_pos h2] at h
    obtain ⟨p, hp, h⟩ := Option.bind_eq_some_iff.1 h
    obtain ⟨⟨q1, q2⟩, hm, hq⟩ := Option.bind_eq_some_iff.1 h
    obtain ⟨rfl, rfl⟩ := Prod.mk.inj (Option.some.inj hq)
    have HOP := Lib.hid (fun (W : World) (hb : Below W0.heap.size W0 W) => spec_l02Plus.calls k A0_1 c0_1 l0_1 A1_1 c1_1 l1_1 p W (HCa.out W hb) HLa.out (HCb.out W hb) HLb.out hp)
    have HMK := Lib.hid (fun (W : World) (A : Option Addr) (c : Nat) (hA : (Kd.int .i64).C W A p.length p) (hc : p.length ≤ c) => spec_l02Make.calls k a0_0 A c p _ _ W hA hc hm)
    have HBc := Lib.hid (Below.refl W0.heap.size W0)
    have h2b : (a0_0 == a1_0) = true := by simpa using h2
    subst h2
    clear h hq hm hp
    generalize q1 = r1 at *
    generalize q2 = r2 at *
    go_enter Try.func83, Try.ntmps83
    go_upto_region 1 with fail
    rw [← HW.out]
    clear HW
    obtain ⟨⟨⟨c0, c1⟩, d0, d1⟩, ⟨e0, e1, f0, f1⟩, ⟨z0, z1, z2⟩, hx, hbw⟩ := stay.out W0 (Below.refl _ _)
    clear hx hbw
    have n1a : w.heap.size ≠ w.heap.size + 1 + 1 := by omega
    have n1b := Ne.symm n1a
    go_upto_region 6 with fail
    go_region_held3 (fun w' => (w'.cell? ⟨w.heap.size, 0, none⟩ = some (.int .i64 a0_0) ∧ w'.cell? ⟨w.heap.size, 1, none⟩ = some (.slice A0_1 l0_1.length c0_1)) ∧ w'.cell? ⟨w.heap.size + 1, 0, none⟩ = some (.int .i64 a0_0) ∧ w'.cell? ⟨w.heap.size + 1, 1, none⟩ = some (.slice A1_1 l1_1.length c1_1)) (go_keep)
      (first
        | (go_at_call 114; refine (HOP.out _ (by first | exact HBc.out | exact HBc.out.drew)).mono ?_; rintro en w2 ⟨u, rfl, hR, hb⟩; obtain ⟨A2, c2, rfl⟩ := Kd.R_slice hR; have hX := below_then (show Below W0.heap.size W0 _ by first | exact HBc.out | exact HBc.out.drew) hb; obtain ⟨⟨⟨c0, c1⟩, d0, d1⟩, ⟨e0, e1, f0, f1⟩, ⟨z0, z1, z2⟩, hx, hbw⟩ := stay.out w2 hX; have HX2 := Lib.hid hX; have HRR := Lib.hid (Kd.R_reads' hR); clear hR hb hX hx hbw)
        | (go_at_call 70; refine (HMK.out _ _ _ HRR.out.2.2 HRR.out.2.1).mono ?_; rintro en w3 ⟨u3, rfl, hR, hb⟩; obtain ⟨A, c, rfl⟩ := Kd.R_slice hR; have hX := below_then HX2.out hb; have HR := Lib.hid (Kd.R_lower (base' := w.heap.size) hR (by omega)); obtain ⟨⟨⟨c0, c1⟩, d0, d1⟩, ⟨e0, e1, f0, f1⟩, ⟨z0, z1, z2⟩, hx, hbw⟩ := stay.out w3 hX; have HX := Lib.hid hx; have HB := Lib.hid hbw; clear hR hb hX hx hbw))
    all_goals go_wp2
    all_goals
      have hst := storedW (s := r1) (u := .slice A r2.length c) HX.out HB.out (by omega) HR.out
      exact bodyPost_ret (results_single rfl (.cell (w.heap.size + 1 + 1) 26 #[.int .i64 r1, .slice A r2.length c] (0, 0) _ rfl hst.1 Try.underlying26 rfl sizeW .nil)) rfl ⟨_, rfl, hst.2.1, hst.2.2⟩
  rw [if_neg h2] at h
  have h2b : (a0_0 == a1_0) = false := by simpa using h2
  obtain ⟨q, hcm, h⟩ := Option.bind_eq_some_iff.1 h
  have HCM := Lib.hid (fun (W : World) (hb : Below W0.heap.size W0 W) => spec_l02CompareLimbs.calls k A0_1 c0_1 l0_1 A1_1 c1_1 l1_1 q W (HCa.out W hb) HLa.out (HCb.out W hb) HLb.out hcm)
  clear hcm
  by_cases h3 : q ≥ 0
  · rw [if_pos h3] at h
    obtain ⟨p, hp, h⟩ := Option.bind_eq_some_iff.1 h
    obtain ⟨⟨q1, q2⟩, hm, hq⟩ := Option.bind_eq_some_iff.1 h
    obtain ⟨rfl, rfl⟩ := Prod.mk.inj (Option.some.inj hq)
    have HOP := Lib.hid (fun (W : World) (hb : Below W0.heap.size W0 W) => spec_l02Minus.calls k A0_1 c0_1 l0_1 A1_1 c1_1 l1_1 p W (HCa.out W hb) HLa.out (HCb.out W hb) HLb.out hp)
    have HMK := Lib.hid (fun (W : World) (A : Option Addr) (c : Nat) (hA : (Kd.int .i64).C W A p.length p) (hc : p.length ≤ c) => spec_l02Make.calls k a0_0 A c p _ _ W hA hc hm)
    clear h hq hm hp
    generalize q1 = r1 at *
    generalize q2 = r2 at *
    go_enter Try.func83, Try.ntmps83
    go_upto_region 1 with fail
    rw [← HW.out]
    clear HW
    obtain ⟨⟨⟨c0, c1⟩, d0, d1⟩, ⟨e0, e1, f0, f1⟩, ⟨z0, z1, z2⟩, hx, hbw⟩ := stay.out W0 (Below.refl _ _)
    clear hx hbw
    have n1a : w.heap.size ≠ w.heap.size + 1 + 1 := by omega
    have n1b := Ne.symm n1a
    go_wp2_with fail
    refine (HCM.out _ (Below.refl _ _)).mono ?_
    rintro en w1 ⟨rfl, hd⟩
    have hb := hd.below
    have HBc := Lib.hid hb
    clear hd c0 c1 d0 d1 e0 e1 f0 f1 z0 z1 z2
    obtain ⟨⟨⟨c0, c1⟩, d0, d1⟩, ⟨e0, e1, f0, f1⟩, ⟨z0, z1, z2⟩, hx, hbw⟩ := stay.out w1 hb
    clear hb hx hbw HCM
    go_upto_region 8 with fail
    go_region_held3 (fun w' => (w'.cell? ⟨w.heap.size, 0, none⟩ = some (.int .i64 a0_0) ∧ w'.cell? ⟨w.heap.size, 1, none⟩ = some (.slice A0_1 l0_1.length c0_1)) ∧ w'.cell? ⟨w.heap.size + 1, 0, none⟩ = some (.int .i64 a1_0) ∧ w'.cell? ⟨w.heap.size + 1, 1, none⟩ = some (.slice A1_1 l1_1.length c1_1)) (go_keep)
      (first
        | (go_at_call 116; refine (HOP.out _ (by first | exact HBc.out | exact HBc.out.drew)).mono ?_; rintro en w2 ⟨u, rfl, hR, hb⟩; obtain ⟨A2, c2, rfl⟩ := Kd.R_slice hR; have hX := below_then (show Below W0.heap.size W0 _ by first | exact HBc.out | exact HBc.out.drew) hb; obtain ⟨⟨⟨c0, c1⟩, d0, d1⟩, ⟨e0, e1, f0, f1⟩, ⟨z0, z1, z2⟩, hx, hbw⟩ := stay.out w2 hX; have HX2 := Lib.hid hX; have HRR := Lib.hid (Kd.R_reads' hR); clear hR hb hX hx hbw)
        | (go_at_call 70; refine (HMK.out _ _ _ HRR.out.2.2 HRR.out.2.1).mono ?_; rintro en w3 ⟨u3, rfl, hR, hb⟩; obtain ⟨A, c, rfl⟩ := Kd.R_slice hR; have hX := below_then HX2.out hb; have HR := Lib.hid (Kd.R_lower (base' := w.heap.size) hR (by omega)); obtain ⟨⟨⟨c0, c1⟩, d0, d1⟩, ⟨e0, e1, f0, f1⟩, ⟨z0, z1, z2⟩, hx, hbw⟩ := stay.out w3 hX; have HX := Lib.hid hx; have HB := Lib.hid hbw; clear hR hb hX hx hbw))
    all_goals go_wp2
    all_goals
      have hst := storedW (s := r1) (u := .slice A r2.length c) HX.out HB.out (by omega) HR.out
      exact bodyPost_ret (results_single rfl (.cell (w.heap.size + 1 + 1) 26 #[.int .i64 r1, .slice A r2.length c] (0, 0) _ rfl hst.1 Try.underlying26 rfl sizeW .nil)) rfl ⟨_, rfl, hst.2.1, hst.2.2⟩
  · rw [if_neg h3] at h
    obtain ⟨p, hp, h⟩ := Option.bind_eq_some_iff.1 h
    obtain ⟨⟨q1, q2⟩, hm, hq⟩ := Option.bind_eq_some_iff.1 h
    obtain ⟨rfl, rfl⟩ := Prod.mk.inj (Option.some.inj hq)
    have HOP := Lib.hid (fun (W : World) (hb : Below W0.heap.size W0 W) => spec_l02Minus.calls k A1_1 c1_1 l1_1 A0_1 c0_1 l0_1 p W (HCb.out W hb) HLb.out (HCa.out W hb) HLa.out hp)
    have HMK := Lib.hid (fun (W : World) (A : Option Addr) (c : Nat) (hA : (Kd.int .i64).C W A p.length p) (hc : p.length ≤ c) => spec_l02Make.calls k a1_0 A c p _ _ W hA hc hm)
    clear h hq hm hp
    generalize q1 = r1 at *
    generalize q2 = r2 at *
    go_enter Try.func83, Try.ntmps83
    go_upto_region 1 with fail
    rw [← HW.out]
    clear HW
    obtain ⟨⟨⟨c0, c1⟩, d0, d1⟩, ⟨e0, e1, f0, f1⟩, ⟨z0, z1, z2⟩, hx, hbw⟩ := stay.out W0 (Below.refl _ _)
    clear hx hbw
    have n1a : w.heap.size ≠ w.heap.size + 1 + 1 := by omega
    have n1b := Ne.symm n1a
    go_wp2_with fail
    refine (HCM.out _ (Below.refl _ _)).mono ?_
    rintro en w1 ⟨rfl, hd⟩
    have hb := hd.below
    have HBc := Lib.hid hb
    clear hd c0 c1 d0 d1 e0 e1 f0 f1 z0 z1 z2
    obtain ⟨⟨⟨c0, c1⟩, d0, d1⟩, ⟨e0, e1, f0, f1⟩, ⟨z0, z1, z2⟩, hx, hbw⟩ := stay.out w1 hb
    clear hb hx hbw HCM
    go_upto_region 9 with fail
    go_region_held3 (fun w' => (w'.cell? ⟨w.heap.size, 0, none⟩ = some (.int .i64 a0_0) ∧ w'.cell? ⟨w.heap.size, 1, none⟩ = some (.slice A0_1 l0_1.length c0_1)) ∧ w'.cell? ⟨w.heap.size + 1, 0, none⟩ = some (.int .i64 a1_0) ∧ w'.cell? ⟨w.heap.size + 1, 1, none⟩ = some (.slice A1_1 l1_1.length c1_1)) (go_keep)
      (first
        | (go_at_call 116; refine (HOP.out _ (by first | exact HBc.out | exact HBc.out.drew)).mono ?_; rintro en w2 ⟨u, rfl, hR, hb⟩; obtain ⟨A2, c2, rfl⟩ := Kd.R_slice hR; have hX := below_then (show Below W0.heap.size W0 _ by first | exact HBc.out | exact HBc.out.drew) hb; obtain ⟨⟨⟨c0, c1⟩, d0, d1⟩, ⟨e0, e1, f0, f1⟩, ⟨z0, z1, z2⟩, hx, hbw⟩ := stay.out w2 hX; have HX2 := Lib.hid hX; have HRR := Lib.hid (Kd.R_reads' hR); clear hR hb hX hx hbw)
        | (go_at_call 70; refine (HMK.out _ _ _ HRR.out.2.2 HRR.out.2.1).mono ?_; rintro en w3 ⟨u3, rfl, hR, hb⟩; obtain ⟨A, c, rfl⟩ := Kd.R_slice hR; have hX := below_then HX2.out hb; have HR := Lib.hid (Kd.R_lower (base' := w.heap.size) hR (by omega)); obtain ⟨⟨⟨c0, c1⟩, d0, d1⟩, ⟨e0, e1, f0, f1⟩, ⟨z0, z1, z2⟩, hx, hbw⟩ := stay.out w3 hX; have HX := Lib.hid hx; have HB := Lib.hid hbw; clear hR hb hX hx hbw))
    all_goals go_wp2
    all_goals
      have hst := storedW (s := r1) (u := .slice A r2.length c) HX.out HB.out (by omega) HR.out
      exact bodyPost_ret (results_single rfl (.cell (w.heap.size + 1 + 1) 26 #[.int .i64 r1, .slice A r2.length c] (0, 0) _ rfl hst.1 Try.underlying26 rfl sizeW .nil)) rfl ⟨_, rfl, hst.2.1, hst.2.2⟩
end Go.Proofs.Ytfinbmnjfnajiaa.Ha
end
section
set_option linter.unusedVariables false
set_option linter.unusedSimpArgs false
namespace Go.Proofs.Ytfinbmnjfnajiaa.He
open Go.RowKit Go.Proofs.YtfinbmnjfnajiaaW.PrintWords Go.Proofs.YtfinbmnjfnajiaaW.PrintLast Go.Proofs.YtfinbmnjfnajiaaW.PrintMore Go.Proofs.Ytfinbmnjfnajiaa.PW Go.Proofs.Ytfinbmnjfnajiaa.Pb Go.Proofs.Ytfinbmnjfnajiaa.Pc Go.Proofs.Ytfinbmnjfnajiaa.Pm Go.Proofs.Ytfinbmnjfnajiaa.Pt Go.Proofs.Ytfinbmnjfnajiaa.Ma Go.Proofs.Ytfinbmnjfnajiaa.Mh Go.Proofs.Ytfinbmnjfnajiaa.Mu Go.Proofs.Ytfinbmnjfnajiaa.Mn Dg
def GivesZ (w : World) (z : Int) (e : Ending) (w' : World) : Prop :=
  ∃ A c, e = .returned (.agg #[.int .i64 (sgn z), .slice A (L z.natAbs).length c]) ∧ Kd.R (Kd.int .i64) 2 w' w.heap.size (fun _ => True) (.slice A (L z.natAbs).length c) (L z.natAbs) ∧ Below w.heap.size w w'
def Rd (w : World) (A : Option Addr) (c : Nat) (z : Int) : Prop := Kd.C (Kd.int .i64) w A (L z.natAbs).length (L z.natAbs) ∧ (L z.natAbs).length ≤ c
theorem Rd.below {w w1 : World} {A : Option Addr} {c : Nat} {z : Int} (h : Rd w A c z) (hb : Below w.heap.size w w1) : Rd w1 A c z := ⟨C_at h.1 hb, h.2⟩
theorem Rd.of_R {w : World} {base : Nat} {ok : Nat → Prop} {A : Option Addr} {c : Nat} {z : Int} (h : Kd.R (Kd.int .i64) 2 w base ok (.slice A (L z.natAbs).length c) (L z.natAbs)) : Rd w A c z := by
  have := Kd.R_reads' h
  exact ⟨this.2.2, this.2.1⟩
theorem gives {w : World} {z r1 : Int} {r2 : List Int} (e1 : r1 = sgn z) (e2 : r2 = L z.natAbs) {e : Ending} {w' : World} (h : ∃ v1_ : Value, e = .returned (.agg #[.int .i64 r1, v1_]) ∧ Kd.R (Kd.int .i64) 2 w' w.heap.size (fun _ => True) v1_ r2 ∧ Below w.heap.size w w') : GivesZ w z e w' := by
  subst e1
  subst e2
  obtain ⟨v, rfl, hR, hb⟩ := h
  obtain ⟨A, c, rfl⟩ := Kd.R_slice hR
  exact ⟨A, c, rfl, hR, hb⟩
theorem leftZ {w : World} {A : Option Addr} {c k : Nat} {x : Int} (h : Rd w A c x) (hx : bl x.natAbs ≤ 1000000) (hk : k ≤ 1000000) :
    Calls Try.prog 84 #[.agg #[.int .i64 (sgn x), .slice A (L x.natAbs).length c], .int .i64 k] w (GivesZ w (x * 2 ^ k)) := by
  obtain ⟨n, hn⟩ := (Ss.sleft x k (by omega) (by omega)).rounds
  exact (spec_l02Left.calls n _ A c _ _ _ _ w h.1 h.2 hn).mono fun e w' h => gives rfl rfl h
theorem addZ {w : World} {A B : Option Addr} {c d : Nat} {x y : Int} (h : Rd w A c x) (h' : Rd w B d y) (hx : bl x.natAbs ≤ 1000000) (hy : bl y.natAbs ≤ 1000000) :
    Calls Try.prog 83 #[.agg #[.int .i64 (sgn x), .slice A (L x.natAbs).length c], .agg #[.int .i64 (sgn y), .slice B (L y.natAbs).length d]] w (GivesZ w (x + y)) := by
  obtain ⟨n, hn⟩ := (Pz.sadd x y (by omega) (by omega)).rounds
  exact (Ha.handAdd2 n _ A c _ _ B d _ _ _ w h.1 h.2 h'.1 h'.2 hn).mono fun e w' h => gives rfl rfl h
theorem ofZ {w : World} {n : Int} (h1 : -9223372036854775808 ≤ n) (h2 : n ≤ 9223372036854775807) : Calls Try.prog 82 #[.int .i64 n] w (GivesZ w n) := by
  obtain ⟨k, hk⟩ := (Pv.sof n h1 h2).rounds
  exact (spec_l02Of.calls k n _ _ w hk).mono fun e w' h => gives rfl rfl h
theorem lenZ {w : World} {A : Option Addr} {c : Nat} {x : Int} (h : Rd w A c x) (hx : bl x.natAbs ≤ 1000000) :
    Calls Try.prog 54 #[.agg #[.int .i64 (sgn x), .slice A (L x.natAbs).length c]] w (fun e w' => e = .returned (.int .i64 ((bl x.natAbs : Nat) : Int)) ∧ Below w.heap.size w w') := by
  obtain ⟨k, hk⟩ := (Ps.slength (sgn x) x.natAbs (by omega)).rounds
  exact spec_l02Length.calls k _ A c _ _ w h.1 h.2 hk
theorem scompareN (x y : Nat) (hx : bl x ≤ 1000000) (hy : bl y ≤ 1000000) : Ev (fun k => spec_l02Compare.f k (sgn (x : Int)) (L x) (sgn (y : Int)) (L y)) (sgn ((x : Int) - y)) := by
  have h1 := L_len x
  have h2 := L_len y
  have hc := slimbs (L_dig x) (L_dig y) (L_top x) (L_top y) (by omega) (by omega)
  rw [L_val, L_val] at hc
  have hr := sgn_range ((x : Int) - y)
  unfold spec_l02Compare.f
  by_cases he : sgn (x : Int) = sgn (y : Int)
  · refine ifp he (Ev.bind (f := fun k t => _) hc (ev_of fun _ => ?_))
    congr 1
    by_cases h0 : x = 0
    · subst h0
      have : y = 0 := by
        unfold sgn at he
        rw [if_neg (by omega), if_pos (by omega), if_neg (by omega)] at he
        split at he <;> omega
      subst this
      rw [show sgn ((0 : Nat) : Int) = 0 by decide, Int.zero_mul, show sgn (((0 : Nat) : Int) - ((0 : Nat) : Int)) = 0 by decide, wrapZ _ (by omega) (by omega)]
    · have : sgn (x : Int) = 1 := by unfold sgn; rw [if_neg (by omega), if_neg (by omega)]
      rw [this, Int.one_mul, wrapZ _ (by omega) (by omega)]
  · refine ifn he ?_
    have e1 : sgn (x : Int) = 0 ∧ x = 0 ∨ sgn (x : Int) = 1 ∧ x ≠ 0 := by unfold sgn; rw [if_neg (by omega)]; split <;> omega
    have e2 : sgn (y : Int) = 0 ∧ y = 0 ∨ sgn (y : Int) = 1 ∧ y ≠ 0 := by unfold sgn; rw [if_neg (by omega)]; split <;> omega
    by_cases hlt : sgn (x : Int) < sgn (y : Int)
    · refine ifp hlt (ev_of fun _ => ?_)
      have : (x : Int) - y < 0 := by omega
      rw [show sgn ((x : Int) - y) = -1 by unfold sgn; rw [if_pos this]]
    · refine ifn hlt (ev_of fun _ => ?_)
      have : 0 < (x : Int) - y := by omega
      rw [show sgn ((x : Int) - y) = 1 by unfold sgn; rw [if_neg (by omega), if_neg (by omega)]]
theorem cmpZ {w : World} {A B : Option Addr} {c d x y : Nat} (h : Rd w A c (x : Int)) (h' : Rd w B d (y : Int)) (hx : bl x ≤ 1000000) (hy : bl y ≤ 1000000) :
    Calls Try.prog 85 #[.agg #[.int .i64 (sgn (x : Int)), .slice A (L x).length c], .agg #[.int .i64 (sgn (y : Int)), .slice B (L y).length d]] w (fun e w' => e = .returned (.int .i64 (sgn ((x : Int) - y))) ∧ Below w.heap.size w w') := by
  obtain ⟨k, hk⟩ := (scompareN x y hx hy).rounds
  exact spec_l02Compare.calls k _ A c _ _ B d _ _ w h.1 h.2 h'.1 h'.2 hk
def Wb (w : World) (base g : Nat) (z : Int) : Prop :=
  ∃ A c, w.heap[g]? = some (.cells #[.int .i64 (sgn z), .slice A (L z.natAbs).length c] 26 (0, 0)) ∧ Kd.R (Kd.int .i64) 2 w base (fun _ => True) (.slice A (L z.natAbs).length c) (L z.natAbs)
theorem Wb.below {w w1 : World} {base g : Nat} {z : Int} (h : Wb w base g z) (hb : Below w.heap.size w w1) : Wb w1 base g z := by
  obtain ⟨A, c, hg, hR⟩ := h
  exact ⟨A, c, (hb.block g (Array.getElem?_eq_some_iff.1 hg).1).trans hg, Kd.R_below hR hb⟩
theorem Wb.lt {w : World} {base g : Nat} {z : Int} (h : Wb w base g z) : g < w.heap.size := by
  obtain ⟨A, c, hg, hR⟩ := h
  exact (Array.getElem?_eq_some_iff.1 hg).1
theorem Wb.read {w : World} {base g : Nat} {z : Int} (h : Wb w base g z) : ∃ A c, w.cell? ⟨g, 0, none⟩ = some (.int .i64 (sgn z)) ∧ w.cell? ⟨g, 1, none⟩ = some (.slice A (L z.natAbs).length c) ∧ Rd w A c z ∧ w.frozen? ⟨g, 0, none⟩ = false ∧ w.frozen? ⟨g, 1, none⟩ = false := by
  obtain ⟨A, c, hg, hR⟩ := h
  exact ⟨A, c, kcq hg 0, kcq hg 1, Rd.of_R hR, kfq hg 0, kfq hg 1⟩
theorem Wb.far {w : World} {base g g1 : Nat} {z : Int} {cs : Array Value} (h : Wb w base g z) (h1 : w.heap[g1]? = some (.cells cs 26 (0, 0))) (hne : g ≠ g1) (u v : Value) :
    Wb ((w.setCell ⟨g1, 0, none⟩ u).setCell ⟨g1, 1, none⟩ v) base g z := by
  obtain ⟨A, c, hg, hR⟩ := h
  exact ⟨A, c, blk_far (blk_far hg hne u) hne v, Kd.R_set (Kd.R_set hR h1 (by decide) 0 _) (blk_set h1 0 _) (by decide) 1 _⟩
theorem Wb.put {w : World} {base g : Nat} {z : Int} {A : Option Addr} {c : Nat} {x0 x1 : Value} (h1 : w.heap[g]? = some (.cells #[x0, x1] 26 (0, 0))) (hR : Kd.R (Kd.int .i64) 2 w base (fun _ => True) (.slice A (L z.natAbs).length c) (L z.natAbs)) :
    Wb ((w.setCell ⟨g, 0, none⟩ (.int .i64 (sgn z))).setCell ⟨g, 1, none⟩ (.slice A (L z.natAbs).length c)) base g z :=
  ⟨A, c, blk_set (blk_set h1 0 _) 1 _, Kd.R_set (Kd.R_set hR h1 (by decide) 0 _) (blk_set h1 0 _) (by decide) 1 _⟩
end Go.Proofs.Ytfinbmnjfnajiaa.He
end
section
set_option linter.unusedVariables false
set_option linter.unusedSimpArgs false
namespace Go.Proofs.Ytfinbmnjfnajiaa.Rs
open Go.RowKit Go.Proofs.YtfinbmnjfnajiaaW.PrintWords Go.Proofs.YtfinbmnjfnajiaaW.PrintLast Go.Proofs.YtfinbmnjfnajiaaW.PrintMore Go.Proofs.Ytfinbmnjfnajiaa.PW Go.Proofs.Ytfinbmnjfnajiaa.Pb Go.Proofs.Ytfinbmnjfnajiaa.Pc Go.Proofs.Ytfinbmnjfnajiaa.Pm Go.Proofs.Ytfinbmnjfnajiaa.Pt Go.Proofs.Ytfinbmnjfnajiaa.Ma Go.Proofs.Ytfinbmnjfnajiaa.Mh Go.Proofs.Ytfinbmnjfnajiaa.Mu Go.Proofs.Ytfinbmnjfnajiaa.Mn Go.Proofs.Ytfinbmnjfnajiaa.He Dg Go.Proofs.Ytfinbmnjfnajiaa.Dz
theorem tdiv_two' (n : Nat) : Int.tdiv ((n : Int) + 1) 2 = (((n + 1) / 2 : Nat) : Int) := by
  have : ((n : Int) + 1) = ((n + 1 : Nat) : Int) := by omega
  rw [this]; rfl
theorem three {w1 : World} {base c : Nat} {A : Option Addr} (hR : Kd.R (Kd.int .i64) 2 w1 base (fun _ => True) (.slice A (L 1).length c) (L 1)) {W2 : World}
    (hW : ((w1.alloc (.cells #[.int .i64 0, .slice none 0 0] 26)).alloc (.cells #[.int .i64 0, .slice none 0 0] 26)).alloc (.cells #[.int .i64 (sgn 1), .slice A (L 1).length c] 26) = W2) :
    Below w1.heap.size w1 W2 ∧ Wb W2 base w1.heap.size ((0 : Nat) : Int) ∧ Wb W2 base (w1.heap.size + 1) ((0 * 0 : Nat) : Int) ∧ Wb W2 base (w1.heap.size + 1 + 1) 1 := by
  have b1 := waq w1 (.cells #[.int .i64 0, .slice none 0 0] 26)
  have b2 := waq (w1.alloc (.cells #[.int .i64 0, .slice none 0 0] 26)) (.cells #[.int .i64 0, .slice none 0 0] 26)
  have b3 := waq ((w1.alloc (.cells #[.int .i64 0, .slice none 0 0] 26)).alloc (.cells #[.int .i64 0, .slice none 0 0] 26)) (.cells #[.int .i64 (sgn 1), .slice A (L 1).length c] 26)
  have n1 := heap_alloc_new w1 (.cells #[.int .i64 0, .slice none 0 0] 26)
  have n2 := heap_alloc_new (w1.alloc (.cells #[.int .i64 0, .slice none 0 0] 26)) (.cells #[.int .i64 0, .slice none 0 0] 26)
  have n3 := heap_alloc_new ((w1.alloc (.cells #[.int .i64 0, .slice none 0 0] 26)).alloc (.cells #[.int .i64 0, .slice none 0 0] 26)) (.cells #[.int .i64 (sgn 1), .slice A (L 1).length c] 26)
  rw [hW] at b3 n3
  rw [alloc_size] at n2
  rw [alloc_size, alloc_size] at n3
  have hz : ∀ (W : World) (g : Nat), W.heap[g]? = some (.cells #[.int .i64 0, .slice none 0 0] 26 (0, 0)) → Wb W base g ((0 : Nat) : Int) := fun W g h => by
    refine ⟨none, 0, ?_, ?_⟩
    · rw [show ((0 : Nat) : Int).natAbs = 0 from rfl, L_zero]; exact h
    · rw [show ((0 : Nat) : Int).natAbs = 0 from rfl, L_zero]; exact Kd.R_nil _ _ _ _ _
  exact ⟨below_then b1 (below_then b2 b3), (hz _ _ n1).below (below_then b2 b3), (hz _ _ n2).below b3, A, c, n3, Kd.R_below hR (below_then b1 (below_then b2 b3))⟩
theorem blwA {a w1 : World} (h : Below a.heap.size a w1) (o : Obj) : Below a.heap.size a (w1.alloc o) := h.alloc h.size o
theorem blwD {B : Nat} {a w1 : World} (h : Below B a w1) : Below B a w1.drew := h.drew
theorem keepB {W w2 : World} (hb : Below W.heap.size W w2) : ∀ (g : Nat) (o : Obj), W.heap[g]? = some o → w2.heap[g]? = some o := fun g o h => (hb.block g (Array.getElem?_eq_some_iff.1 h).1).trans h
def GivesN (w : World) (n : Nat) (e : Ending) (w' : World) : Prop :=
  ∃ A c, e = .returned (.agg #[.int .i64 (sgn (n : Int)), .slice A (L n).length c]) ∧ Kd.R (Kd.int .i64) 2 w' w.heap.size (fun _ => True) (.slice A (L n).length c) (L n) ∧ Below w.heap.size w w'
theorem GivesN.of {w : World} {n : Nat} {z : Int} (hz : z = n) {e : Ending} {w' : World} (h : GivesZ w z e w') : GivesN w n e w' := by
  subst hz
  exact h
set_option maxHeartbeats 8000000 in
set_option maxRecDepth 100000 in
theorem rootS {w : World} {A : Option Addr} {c x : Nat} (ha : Rd w A c (x : Int)) (hx : bl x ≤ 2400) :
    Calls Try.prog 43 #[.agg #[.int .i64 (sgn (x : Int)), .slice A (L x).length c]] w (GivesZ w (rt x : Int)) := by
  have HBW := Lib.hid (boxAndResult w (sgn (x : Int)) A (L x).length c)
  have hO := fun (W : World) => ofZ (w := W) (n := 1) (by decide) (by decide)
  have hLn := fun (W : World) (hb : Below w.heap.size w W) => lenZ (ha.below hb) (by rw [Int.natAbs_natCast]; omega)
  simp only [Int.natAbs_natCast] at hLn
  have e2 := tdiv_two' (bl x)
  have hA := fun (W : World) (hb : Below w.heap.size w W) => ha.below hb
  have HA := Lib.hid hA
  have HO := Lib.hid hO
  have HLN := Lib.hid hLn
  have HFIRST := Lib.hid (Rb.first (x := x))
  have hbx : (bl x + 1) / 2 ≤ 1200 := by omega
  have hbx2 : bl x ≤ 2400 := hx
  generalize hnb : (bl x + 1) / 2 = nb at *
  have HX := Lib.hid hx
  clear hO hLn hA ha hnb hx
  generalize hl : (L x).length = ln at *
  have HL := Lib.hid hl
  generalize hsg : sgn (x : Int) = sx at *
  have HSG := Lib.hid hsg
  clear hl hsg
  go_enter Try.func43, Try.ntmps43
  go_wp2_with fail
  refine (HO.out _).mono ?_
  rintro e w1 ⟨A5, c5, rfl, hR5, hb1⟩
  obtain ⟨h1', c0, c1, ⟨hs, i0, i1⟩, hbx0⟩ := HBW.out w1 (hb1.mono (by simp))
  have HR5 := Lib.hid (Kd.R_lower (base' := w.heap.size) hR5 (by simp; omega))
  have HB1 := Lib.hid (hb1.mono (B' := w.heap.size + 2) (by simp))
  clear hR5 hb1 h1' hbx0 HO c0 c1
  go_upto_region 2 with fail
  generalize hW2 : ((w1.alloc (.cells #[.int .i64 0, .slice none 0 0] 26)).alloc (.cells #[.int .i64 0, .slice none 0 0] 26)).alloc (.cells #[.int .i64 (sgn 1), .slice A5 (L 1).length c5] 26) = W2
  obtain ⟨t1, t2, t3, t4⟩ := three HR5.out hW2
  have HB2 := Lib.hid (HB1.out.trans (t1.mono hs))
  obtain ⟨h1', c0, c1, ⟨hs2, i02, i12⟩, hbx0⟩ := HBW.out W2 HB2.out
  have HLN2 := Lib.hid (HLN.out W2 h1')
  have T2 := Lib.hid t2
  have T3 := Lib.hid t3
  have T4 := Lib.hid t4
  clear t1 t2 t3 t4 h1' hbx0 HR5 HB1 HLN hW2 i0 i1
  generalize w1.heap.size = G at *
  go_wp2_with fail
  refine HLN2.out.mono ?_
  rintro e w3 ⟨rfl, hb3⟩
  have HB3 := Lib.hid (HB2.out.trans (hb3.mono hs2))
  have T23 := Lib.hid (T2.out.below hb3)
  have T33 := Lib.hid (T3.out.below hb3)
  have T43 := Lib.hid (T4.out.below hb3)
  clear hb3 T2 T3 T4 HB2 HLN2 c0 c1 i02 i12
  go_wp2_with fail
  go_loopw [6, 7] (fun i nx wr => ∃ (t : Nat) (j : Int) (o : Nat), i = .int .i64 j ∧ j + 1 = (t : Int) ∧ t ≤ nb + 1 ∧ Hid (Rb x t o) ∧ Hid (Wb wr w.heap.size G (o : Int)) ∧ Hid (Wb wr w.heap.size (G + 1) ((o * o : Nat) : Int)) ∧ Hid (Wb wr w.heap.size (G + 1 + 1) 1) ∧ Hid (Below (w.heap.size + 2) ((w.alloc (.cells #[.int .i64 sx, .slice A ln c] 26)).alloc (.cells #[.int .i64 0, .slice none 0 0] 26)) wr)) (fun i _ _ => (intOf i + 1).toNat)
  case atStart => exact ⟨nb + 1, _, 0, rfl, by omega, Nat.le_refl _, HFIRST, T23, T33, T43, HB3⟩
  case round =>
    clear T23 T33 T43 HB3 HFIRST
    obtain ⟨t, j, o, rfl, hj, ht, HRB, HT, HS, H1, HBE⟩ := hrel
    obtain ⟨hbel, c0, c1, ⟨hs3, i03, i13⟩, hbx0⟩ := HBW.out wr HBE.out
    have HBL := Lib.hid hbel
    have HBX := Lib.hid hbx0
    clear hbel hbx0
    cases t with
    | zero =>
      obtain rfl : j = -1 := by omega
      clear hj
      have hrt := HRB.out.done
      subst hrt
      obtain ⟨A3, c3, hg3, hR3⟩ := HT.out
      have d0 := kcq hg3 0
      have d1 := kcq hg3 1
      obtain ⟨e0, e1, f0, f1⟩ := cellsOf HBX.out
      have HR3 := Lib.hid hR3
      simp only [List.getElem?_toArray] at d0 d1
      clear hg3 hR3 HT HS H1 HRB
      go_wp2
      have hst := storedW (s := sgn ((rt x : Nat) : Int)) (u := .slice A3 (L (rt x)).length c3) HBX.out HBL.out (by omega) HR3.out
      exact bodyPost_ret (results_single rfl (.cell (w.heap.size + 1) 26 #[.int .i64 (sgn ((rt x : Nat) : Int)), .slice A3 (L (rt x)).length c3] (0, 0) _ rfl hst.1 Try.underlying26 rfl sizeW .nil)) rfl ⟨A3, c3, rfl, hst.2.1, hst.2.2⟩
    | succ k =>
      obtain rfl : j = (k : Int) := by omega
      clear hj
      have hob : bl o ≤ 2400 := by
        have h1 := HRB.out.le
        have h2 : o ≤ x := by
          rcases Nat.eq_zero_or_pos o with h0 | h0
          · omega
          · have := Nat.mul_le_mul_right o h0
            omega
        have := bl_mono h2
        omega
      have hsq : bl (o * o) ≤ 2400 := Nat.le_trans (bl_mono HRB.out.le) (by omega)
      have hk1 : k ≤ 1200 := by omega
      have hp1 : bl (o * 2 ^ (k + 1)) ≤ 3700 := Nat.le_trans (bl_shift_le _ _) (by omega)
      have hp2 : bl (2 ^ (2 * k)) ≤ 2401 := by have := bl_shift_le 1 (2 * k); rw [Nat.one_mul, show bl 1 = 1 from rfl] at this; omega
      have hs1 : bl (o * o + o * 2 ^ (k + 1)) ≤ 3701 := Nat.le_trans (bl_add_le _ _) (by omega)
      have hs2' : bl (o * o + o * 2 ^ (k + 1) + 2 ^ (2 * k)) ≤ 3702 := Nat.le_trans (bl_add_le _ _) (by omega)
      have hnx : o * o + o * 2 ^ (k + 1) + 2 ^ (2 * k) = (o + 2 ^ k) * (o + 2 ^ k) := Rb.next_eq k o
      rw [hnx] at hs2'
      obtain ⟨A3, c3, a0, a1, r3, f30, f31⟩ := HT.out.read
      obtain ⟨A4, c4, b0, b1, r4, f40, f41⟩ := HS.out.read
      obtain ⟨A5', c5', g0, g1, r5, -, -⟩ := H1.out.read
      have HL1 := Lib.hid (show ∀ W, Below wr.heap.size wr W → Calls Try.prog 84 #[.agg #[.int .i64 (sgn (o : Int)), .slice A3 (L o).length c3], .int .i64 (IntKind.i64.wrap ((k : Int) + 1))] W (GivesN W (o * 2 ^ (k + 1))) from fun W hb => by
        rw [show IntKind.i64.wrap ((k : Int) + 1) = (k : Int) + 1 by rw [IntKind.wrap_i64]; omega]
        have := leftZ (k := k + 1) (r3.below hb) (by rw [Int.natAbs_natCast]; omega) (by omega)
        rw [show (((k + 1 : Nat)) : Int) = (k : Int) + 1 by omega] at this
        exact this.mono fun e w' h => GivesN.of (by simp) h)
      have HA1 := Lib.hid (show ∀ (W : World) (B : Option Addr) (d : Nat), Below wr.heap.size wr W → Rd W B d ((o * 2 ^ (k + 1) : Nat) : Int) → Calls Try.prog 83 #[.agg #[.int .i64 (sgn ((o * o : Nat) : Int)), .slice A4 (L (o * o)).length c4], .agg #[.int .i64 (sgn ((o * 2 ^ (k + 1) : Nat) : Int)), .slice B (L (o * 2 ^ (k + 1))).length d]] W (GivesN W (o * o + o * 2 ^ (k + 1))) from fun W B d hb hr =>
        (addZ (r4.below hb) hr (by rw [Int.natAbs_natCast]; omega) (by rw [Int.natAbs_natCast]; omega)).mono fun e w' h => GivesN.of (by simp) h)
      have HL2 := Lib.hid (show ∀ W, Below wr.heap.size wr W → Calls Try.prog 84 #[.agg #[.int .i64 (sgn 1), .slice A5' (L 1).length c5'], .int .i64 (IntKind.i64.wrap (2 * (k : Int)))] W (GivesN W (2 ^ (2 * k))) from fun W hb => by
        rw [show IntKind.i64.wrap (2 * (k : Int)) = 2 * (k : Int) by rw [IntKind.wrap_i64]; omega]
        have := leftZ (k := 2 * k) (r5.below hb) (by decide) (by omega)
        rw [show (((2 * k : Nat)) : Int) = 2 * (k : Int) by omega] at this
        exact this.mono fun e w' h => GivesN.of (by simp) h)
      have HA2 := Lib.hid (show ∀ (W : World) (B B' : Option Addr) (d d' : Nat), Rd W B d ((o * o + o * 2 ^ (k + 1) : Nat) : Int) → Rd W B' d' ((2 ^ (2 * k) : Nat) : Int) → Calls Try.prog 83 #[.agg #[.int .i64 (sgn ((o * o + o * 2 ^ (k + 1) : Nat) : Int)), .slice B (L (o * o + o * 2 ^ (k + 1))).length d], .agg #[.int .i64 (sgn ((2 ^ (2 * k) : Nat) : Int)), .slice B' (L (2 ^ (2 * k))).length d']] W (GivesN W ((o + 2 ^ k) * (o + 2 ^ k))) from fun W B B' d d' hr hr' =>
        (addZ hr hr' (by rw [Int.natAbs_natCast]; omega) (by rw [Int.natAbs_natCast]; omega)).mono fun e w' h => GivesN.of (by rw [← hnx]; simp) h)
      have HX1 := Lib.hid (Below.refl wr.heap.size wr)
      have hGlt := H1.out.lt
      have hGlt1 : G + 1 < wr.heap.size := by omega
      have hGlt0 : G < wr.heap.size := by omega
      have HCELL := Lib.hid (show ∀ W, Below wr.heap.size wr W → (W.cell? ⟨G, 0, none⟩ = some (.int .i64 (sgn (o : Int))) ∧ W.cell? ⟨G, 1, none⟩ = some (.slice A3 (L o).length c3)) ∧ (W.cell? ⟨G + 1, 0, none⟩ = some (.int .i64 (sgn ((o * o : Nat) : Int))) ∧ W.cell? ⟨G + 1, 1, none⟩ = some (.slice A4 (L (o * o)).length c4)) ∧ (W.cell? ⟨G + 1 + 1, 0, none⟩ = some (.int .i64 (sgn 1)) ∧ W.cell? ⟨G + 1 + 1, 1, none⟩ = some (.slice A5' (L 1).length c5')) ∧ wr.heap.size ≤ W.heap.size ∧ (G ≠ W.heap.size ∧ W.heap.size ≠ G) ∧ (G + 1 ≠ W.heap.size ∧ W.heap.size ≠ G + 1) ∧ (G + 1 + 1 ≠ W.heap.size ∧ W.heap.size ≠ G + 1 + 1) ∧ G < W.heap.size ∧ G + 1 < W.heap.size ∧ G + 1 + 1 < W.heap.size from fun W hb =>
        ⟨⟨(hb.cell (p := ⟨G, 0, none⟩) hGlt0).trans a0, (hb.cell (p := ⟨G, 1, none⟩) hGlt0).trans a1⟩, ⟨(hb.cell (p := ⟨G + 1, 0, none⟩) hGlt1).trans b0, (hb.cell (p := ⟨G + 1, 1, none⟩) hGlt1).trans b1⟩, ⟨(hb.cell (p := ⟨G + 1 + 1, 0, none⟩) hGlt).trans g0, (hb.cell (p := ⟨G + 1 + 1, 1, none⟩) hGlt).trans g1⟩, hb.size, by have := hb.size; omega, by have := hb.size; omega, by have := hb.size; omega, by have := hb.size; omega, by have := hb.size; omega, by have := hb.size; omega⟩)
      clear r3 r4 r5
      generalize o * 2 ^ (k + 1) = p1 at *
      generalize hoo : o * o = oo at *
      generalize oo + p1 = s1 at *
      generalize 2 ^ (2 * k) = p2 at *
      generalize hnn : (o + 2 ^ k) * (o + 2 ^ k) = nx at *
      have HNN := Lib.hid hnn
      have HOO := Lib.hid hoo
      clear hnn hoo hnx
      obtain ⟨-, -, -, -, ⟨qa1, qb1⟩, ⟨qc1, qd1⟩, ⟨qe1, qf1⟩, -⟩ := HCELL.out wr HX1.out
      go_upto_region 5 with fail
      go_cut [7] from 19 to 29 (fun nv wx => ∃ g : Nat, nv = .pointer (some ⟨g, 0, none⟩) ∧ G + 1 + 1 < g ∧ Hid (Wb wx w.heap.size g (nx : Int)) ∧ Hid (Below wr.heap.size wr wx))
      case first =>
        clear HT HS H1 HRB HA HX HL HSG HBL HBX HBE hob hsq hk1 hp1 hp2 hs1 hs2' hbx hbx2 e2 ht c0 c1 f30 f31 f40 f41 HNN HOO HBW
        go_region_held3 (fun w' => (w'.cell? ⟨G, 0, none⟩ = some (.int .i64 (sgn (o : Int))) ∧ w'.cell? ⟨G, 1, none⟩ = some (.slice A3 (L o).length c3)) ∧ (w'.cell? ⟨G + 1, 0, none⟩ = some (.int .i64 (sgn (oo : Int))) ∧ w'.cell? ⟨G + 1, 1, none⟩ = some (.slice A4 (L oo).length c4)) ∧ w'.cell? ⟨G + 1 + 1, 0, none⟩ = some (.int .i64 (sgn 1)) ∧ w'.cell? ⟨G + 1 + 1, 1, none⟩ = some (.slice A5' (L 1).length c5')) (go_keep)
          (first
            | (go_at_call 83; have hguard := HP3; clear hguard; refine (HA2.out _ B2 B3 d2 d3 (HP24.out _ (by repeat (with_reducible first | exact Below.refl _ _ | apply blwD | apply blwA))) (HP3.out _ (by repeat (with_reducible first | exact Below.refl _ _ | apply blwD | apply blwA)))).mono ?_; rintro en w5 ⟨B4, d4, rfl, hR, hb⟩; have HX5 := Lib.hid (below_then (show Below wr.heap.size wr _ from (by repeat (with_reducible first | exact HX4.out | apply blwD | apply blwA))) hb); obtain ⟨⟨a0, a1⟩, ⟨b0, b1⟩, ⟨g0, g1⟩, z5, ⟨qa5, qb5⟩, ⟨qc5, qd5⟩, ⟨qe5, qf5⟩, y0, y1, y2⟩ := HCELL.out w5 HX5.out; have HR5 := Lib.hid (Kd.R_lower (base' := w.heap.size) hR (Nat.le_trans (by omega) (show Below wr.heap.size wr _ from (by repeat (with_reducible first | exact HX4.out | apply blwD | apply blwA))).size)); have HK5 := Lib.hid (keepB hb); clear hR hb HA2 HP24 HP3; (first | (have hg := HN; clear hg; have hN := HK5.out _ _ HN.out; have HN := Lib.hid hN; clear hN) | (with_reducible have hN := HK5.out _ _ (heap_alloc_new _ _); have HN := Lib.hid hN; clear hN) | skip); (try (have hg := HN; clear hg; have hcs := cellsOf HN.out; obtain ⟨m0, m1, m2, m3⟩ := hcs)))
            | (go_at_call 84; have hguard := HX3; clear hguard; refine (HL2.out _ (by repeat (with_reducible first | exact HX3.out | apply blwD | apply blwA))).mono ?_; rintro en w4 ⟨B3, d3, rfl, hR, hb⟩; have HX4 := Lib.hid (below_then (show Below wr.heap.size wr _ from (by repeat (with_reducible first | exact HX3.out | apply blwD | apply blwA))) hb); obtain ⟨⟨a0, a1⟩, ⟨b0, b1⟩, ⟨g0, g1⟩, z4, ⟨qa4, qb4⟩, ⟨qc4, qd4⟩, ⟨qe4, qf4⟩, y0, y1, y2⟩ := HCELL.out w4 HX4.out; have HP3 := Lib.hid (show ∀ W, Below w4.heap.size w4 W → Rd W B3 d3 (p2 : Int) from fun W hb' => (Rd.of_R (z := (p2 : Int)) hR).below hb'); have HP24 := Lib.hid (show ∀ W, Below w4.heap.size w4 W → Rd W B2 d2 (s1 : Int) from fun W hb' => (HP2.out w4 (below_then (show Below w3.heap.size w3 _ from (by repeat (with_reducible first | exact Below.refl _ _ | apply blwD | apply blwA))) hb)).below hb'); have HK4 := Lib.hid (keepB hb); clear hR hb HL2 HP2; (first | (have hg := HN; clear hg; have hN := HK4.out _ _ HN.out; have HN := Lib.hid hN; clear hN) | (with_reducible have hN := HK4.out _ _ (heap_alloc_new _ _); have HN := Lib.hid hN; clear hN) | skip); (try (have hg := HN; clear hg; have hcs := cellsOf HN.out; obtain ⟨m0, m1, m2, m3⟩ := hcs)))
            | (go_at_call 83; have hguard := HA1; clear hguard; refine (HA1.out _ B1 d1 (by repeat (with_reducible first | exact HX2.out | apply blwD | apply blwA)) (HP1.out _ (by repeat (with_reducible first | exact Below.refl _ _ | apply blwD | apply blwA)))).mono ?_; rintro en w3 ⟨B2, d2, rfl, hR, hb⟩; have HX3 := Lib.hid (below_then (show Below wr.heap.size wr _ from (by repeat (with_reducible first | exact HX2.out | apply blwD | apply blwA))) hb); obtain ⟨⟨a0, a1⟩, ⟨b0, b1⟩, ⟨g0, g1⟩, z3, ⟨qa3, qb3⟩, ⟨qc3, qd3⟩, ⟨qe3, qf3⟩, y0, y1, y2⟩ := HCELL.out w3 HX3.out; have HP2 := Lib.hid (show ∀ W, Below w3.heap.size w3 W → Rd W B2 d2 (s1 : Int) from fun W hb' => (Rd.of_R (z := (s1 : Int)) hR).below hb'); have HK3 := Lib.hid (keepB hb); clear hR hb HA1 HP1; (first | (have hg := HN; clear hg; have hN := HK3.out _ _ HN.out; have HN := Lib.hid hN; clear hN) | (with_reducible have hN := HK3.out _ _ (heap_alloc_new _ _); have HN := Lib.hid hN; clear hN) | skip); (try (have hg := HN; clear hg; have hcs := cellsOf HN.out; obtain ⟨m0, m1, m2, m3⟩ := hcs)))
            | (go_at_call 84; have hguard := HL1; clear hguard; refine (HL1.out _ (by repeat (with_reducible first | exact HX1.out | apply blwD | apply blwA))).mono ?_; rintro en w2 ⟨B1, d1, rfl, hR, hb⟩; have HX2 := Lib.hid (below_then (show Below wr.heap.size wr _ from (by repeat (with_reducible first | exact HX1.out | apply blwD | apply blwA))) hb); obtain ⟨⟨a0, a1⟩, ⟨b0, b1⟩, ⟨g0, g1⟩, z2, ⟨qa2, qb2⟩, ⟨qc2, qd2⟩, ⟨qe2, qf2⟩, y0, y1, y2⟩ := HCELL.out w2 HX2.out; have HP1 := Lib.hid (show ∀ W, Below w2.heap.size w2 W → Rd W B1 d1 (p1 : Int) from fun W hb' => (Rd.of_R (z := (p1 : Int)) hR).below hb'); have HK2 := Lib.hid (keepB hb); clear hR hb HL1; (first | (have hg := HN; clear hg; have hN := HK2.out _ _ HN.out; have HN := Lib.hid hN; clear hN) | (with_reducible have hN := HK2.out _ _ (heap_alloc_new _ _); have HN := Lib.hid hN; clear hN) | skip); (try (have hg := HN; clear hg; have hcs := cellsOf HN.out; obtain ⟨m0, m1, m2, m3⟩ := hcs))))
        all_goals go_wp2_with fail
        all_goals go_meet
        all_goals
          case rel =>
            first
              | exact ⟨_, rfl, by omega, Lib.hid (Wb.put HN.out HR5.out), Lib.hid ((HX5.out.setCell (p := ⟨_, 0, none⟩) (by first | exact Nat.le_refl _ | assumption) _).setCell (p := ⟨_, 1, none⟩) (by first | exact Nat.le_refl _ | assumption) _)⟩
              | exact ⟨_, rfl, by omega, Lib.hid ⟨B4, d4, heap_alloc_new w5 _, Kd.R_below HR5.out (waq w5 _)⟩, Lib.hid (blwA HX5.out _)⟩
      case rest =>
        clear a0 a1 b0 b1 g0 g1 HCELL HL1 HA1 HL2 HA2 f30 f31 f40 f41 c0 c1 qa1 qb1 qc1 qd1 qe1 qf1 HBX HBL
        obtain ⟨g, rfl, hgG, HNX, HBN⟩ := hcut
        have hszn := HBN.out.size
        have HT2 := Lib.hid (HT.out.below HBN.out)
        have HS2 := Lib.hid (HS.out.below HBN.out)
        have H12 := Lib.hid (H1.out.below HBN.out)
        have HBE2 := Lib.hid (HBE.out.trans (HBN.out.mono hs3))
        clear HT HS H1 HBE HBN
        obtain ⟨hbel, c0, c1, ⟨hs4, i04, i14⟩, hbx0⟩ := HBW.out wc HBE2.out
        obtain ⟨A6, c6, n0, n1, rn, -, -⟩ := HNX.out.read
        have hcm := cmpZ rn (HA.out wc hbel) (by omega) (by have := HX.out; omega)
        rw [HSG.out, HL.out] at hcm
        have HCMP := Lib.hid hcm
        clear hbel hbx0 rn hcm i03 i13
        go_wp2_with fail
        refine HCMP.out.mono ?_
        rintro e w6 ⟨rfl, hb6⟩
        have hsz6 := hb6.size
        have HX6 := Lib.hid (Below.refl w6.heap.size w6)
        have HT6 := Lib.hid (HT2.out.below hb6)
        have HS6 := Lib.hid (HS2.out.below hb6)
        have H16 := Lib.hid (H12.out.below hb6)
        have HN6 := Lib.hid (HNX.out.below hb6)
        have HBE6 := Lib.hid (HBE2.out.trans (hb6.mono hs4))
        clear hb6 HT2 HS2 H12 HNX HBE2 HCMP c0 c1 n0 n1
        by_cases hle : nx ≤ x
        · have hs0 : sgn ((nx : Int) - (x : Int)) ≤ 0 := by unfold sgn; split <;> (try split) <;> omega
          generalize sgn ((nx : Int) - (x : Int)) = sg at *
          have HRB2 := Lib.hid (HRB.out.take (by rw [HNN.out]; exact hle))
          obtain ⟨A3', c3', a0, a1, r3, af0, af1⟩ := HT6.out.read
          obtain ⟨A5x, c5x, b0, b1, r5, -, -⟩ := H16.out.read
          have hGl := HT6.out.lt
          have hGl2 := H16.out.lt
          have hk2 : bl (2 ^ k) ≤ 1201 := by have := bl_shift_le 1 k; rw [Nat.one_mul, show bl 1 = 1 from rfl] at this; omega
          have HCELL6 := Lib.hid (show ∀ W, Below w6.heap.size w6 W → (W.cell? ⟨G, 0, none⟩ = some (.int .i64 (sgn (o : Int))) ∧ W.cell? ⟨G, 1, none⟩ = some (.slice A3' (L o).length c3') ∧ W.frozen? ⟨G, 0, none⟩ = false ∧ W.frozen? ⟨G, 1, none⟩ = false) ∧ W.cell? ⟨G + 1 + 1, 0, none⟩ = some (.int .i64 (sgn 1)) ∧ W.cell? ⟨G + 1 + 1, 1, none⟩ = some (.slice A5x (L 1).length c5x) from fun W hb =>
            ⟨⟨(hb.cell (p := ⟨G, 0, none⟩) hGl).trans a0, (hb.cell (p := ⟨G, 1, none⟩) hGl).trans a1, (hb.frozen (p := ⟨G, 0, none⟩) hGl).trans af0, (hb.frozen (p := ⟨G, 1, none⟩) hGl).trans af1⟩, (hb.cell (p := ⟨G + 1 + 1, 0, none⟩) hGl2).trans b0, (hb.cell (p := ⟨G + 1 + 1, 1, none⟩) hGl2).trans b1⟩)
          have HL3 := Lib.hid (show ∀ W, Below w6.heap.size w6 W → Calls Try.prog 84 #[.agg #[.int .i64 (sgn 1), .slice A5x (L 1).length c5x], .int .i64 (k : Int)] W (GivesN W (2 ^ k)) from fun W hb =>
            (leftZ (k := k) (r5.below hb) (by decide) (by omega)).mono fun e w' h => GivesN.of (by simp) h)
          have HA3 := Lib.hid (show ∀ (W : World) (B : Option Addr) (d : Nat), Below w6.heap.size w6 W → Rd W B d ((2 ^ k : Nat) : Int) → Calls Try.prog 83 #[.agg #[.int .i64 (sgn (o : Int)), .slice A3' (L o).length c3'], .agg #[.int .i64 (sgn ((2 ^ k : Nat) : Int)), .slice B (L (2 ^ k)).length d]] W (GivesN W (o + 2 ^ k)) from fun W B d hb hr =>
            (addZ (r3.below hb) hr (by rw [Int.natAbs_natCast]; omega) (by rw [Int.natAbs_natCast]; omega)).mono fun e w' h => GivesN.of (by simp) h)
          clear r3 r5 HRB
          generalize hpk : 2 ^ k = pk at *
          have HPK := Lib.hid hpk
          clear hpk
          generalize hop : o + pk = op at *
          have HOP := Lib.hid hop
          clear hop
          go_upto_region 7 with fail
          go_region_law (first
            | (go_simp; go_at_call 83; have hguard := HX7; clear hguard; refine (HA3.out _ B7 d7 (by repeat (with_reducible first | exact HX7.out | apply blwD | apply blwA)) (HP7.out _ (by repeat (with_reducible first | exact Below.refl _ _ | apply blwD | apply blwA)))).mono ?_; rintro en w8 ⟨B8, d8, rfl, hR, hb⟩; have HX8 := Lib.hid (below_then (show Below w6.heap.size w6 _ from (by repeat (with_reducible first | exact HX7.out | apply blwD | apply blwA))) hb); obtain ⟨⟨a0, a1, af0, af1⟩, b0, b1⟩ := HCELL6.out w8 HX8.out; have HR8 := Lib.hid (Kd.R_lower (base' := w.heap.size) hR (Nat.le_trans (by omega) (show Below w6.heap.size w6 _ from (by repeat (with_reducible first | exact HX7.out | apply blwD | apply blwA))).size)); clear hR hb HA3 HP7)
            | (go_simp; go_at_call 84; have hguard := HL3; clear hguard; refine (HL3.out _ (by repeat (with_reducible first | exact HX6.out | apply blwD | apply blwA))).mono ?_; rintro en w7 ⟨B7, d7, rfl, hR, hb⟩; have HX7 := Lib.hid (below_then (show Below w6.heap.size w6 _ from (by repeat (with_reducible first | exact HX6.out | apply blwD | apply blwA))) hb); obtain ⟨⟨a0, a1, af0, af1⟩, b0, b1⟩ := HCELL6.out w7 HX7.out; have HP7 := Lib.hid (show ∀ W, Below w7.heap.size w7 W → Rd W B7 d7 (pk : Int) from fun W hb' => (Rd.of_R (z := (pk : Int)) hR).below hb'); clear hR hb HL3))
          all_goals
            obtain ⟨A9, c9, hg9, hR9⟩ := HT6.out.below HX8.out
            have hB8 := HBE6.out.trans (HX8.out.mono (show w.heap.size + 2 ≤ w6.heap.size by omega))
            have t9 := Wb.put (z := (op : Int)) hg9 HR8.out
            have s9 := (HS6.out.below HX8.out).far hg9 (show G + 1 ≠ G by omega) (.int .i64 (sgn (op : Int))) (.slice B8 (L op).length d8)
            have h9 := (H16.out.below HX8.out).far hg9 (show G + 1 + 1 ≠ G by omega) (.int .i64 (sgn (op : Int))) (.slice B8 (L op).length d8)
            have n9 := (HN6.out.below HX8.out).far hg9 (show g ≠ G by omega) (.int .i64 (sgn (op : Int))) (.slice B8 (L op).length d8)
            have b9 := (hB8.setCell (p := ⟨G, 0, none⟩) hs (.int .i64 (sgn (op : Int)))).setCell (p := ⟨G, 1, none⟩) hs (.slice B8 (L op).length d8)
            simp only [Int.natAbs_natCast] at t9
            clear hg9 hR9 hB8 HT6 HS6 H16 HN6 HBE6 HX6 HX7 HX8 HR8 HCELL6 a0 a1 af0 af1 b0 b1
            generalize (w8.setCell ⟨G, 0, none⟩ (.int .i64 (sgn (op : Int)))).setCell ⟨G, 1, none⟩ (.slice B8 (L op).length d8) = w9 at *
            obtain ⟨An, cn, hgn, hRn⟩ := n9
            obtain ⟨As, cs, hgs, hRs⟩ := s9
            simp only [Int.natAbs_natCast] at hgn hRn
            have p0 := kcq hgn 0
            have p1 := kcq hgn 1
            have q0 := kcq hgs 0
            have q1 := kcq hgs 1
            have q2 := kfq hgs 0
            have q3 := kfq hgs 1
            have T10 := Lib.hid (t9.far hgs (show G ≠ G + 1 by omega) (.int .i64 (sgn (nx : Int))) (.slice An (L nx).length cn))
            have H10 := Lib.hid (h9.far hgs (show G + 1 + 1 ≠ G + 1 by omega) (.int .i64 (sgn (nx : Int))) (.slice An (L nx).length cn))
            have S10 := Lib.hid (Wb.put (z := (nx : Int)) hgs hRn)
            have B10 := Lib.hid ((b9.setCell (p := ⟨G + 1, 0, none⟩) (show w.heap.size + 2 ≤ G + 1 by omega) (.int .i64 (sgn (nx : Int)))).setCell (p := ⟨G + 1, 1, none⟩) (show w.heap.size + 2 ≤ G + 1 by omega) (.slice An (L nx).length cn))
            clear t9 h9 b9 hgn hRn hgs hRs
            go_wp2
            go_roundw
            case rel => exact ⟨k, (k : Int) - 1, op, rfl, by omega, by omega, HRB2, T10, by rw [HNN.out]; exact S10, H10, B10⟩
            case measure => (simp [intOf]) <;> omega
        · have hs0 : sgn ((nx : Int) - (x : Int)) = 1 := by unfold sgn; rw [if_neg (by omega), if_neg (by omega)]
          rw [hs0]
          have HRB2 := Lib.hid (HRB.out.leave (by rw [HNN.out]; exact hle))
          clear hs0 HRB
          go_wp2
          go_roundw
          case rel => exact ⟨k, (k : Int) - 1, o, rfl, by omega, by omega, HRB2, HT6, by rw [HOO.out]; exact HS6, H16, HBE6⟩
          case measure => (simp [intOf]) <;> omega
end Go.Proofs.Ytfinbmnjfnajiaa.Rs
end
section
set_option linter.unusedVariables false
set_option linter.unusedSimpArgs false
namespace Go.Proofs.Ytfinbmnjfnajiaa.Tj
open Go.RowKit Go.Proofs.YtfinbmnjfnajiaaW.PrintWords Go.Proofs.YtfinbmnjfnajiaaW.PrintLast Go.Proofs.YtfinbmnjfnajiaaW.PrintMore Go.Proofs.Ytfinbmnjfnajiaa.PW Go.Proofs.Ytfinbmnjfnajiaa.Pb Go.Proofs.Ytfinbmnjfnajiaa.Pc Go.Proofs.Ytfinbmnjfnajiaa.Pm Go.Proofs.Ytfinbmnjfnajiaa.Pt Go.Proofs.Ytfinbmnjfnajiaa.Pw Go.Proofs.Ytfinbmnjfnajiaa.Ma Go.Proofs.Ytfinbmnjfnajiaa.Mh Go.Proofs.Ytfinbmnjfnajiaa.Mk Go.Proofs.Ytfinbmnjfnajiaa.Mu Go.Proofs.Ytfinbmnjfnajiaa.Mn Go.Proofs.Ytfinbmnjfnajiaa.Na Go.Proofs.Ytfinbmnjfnajiaa.Nd Go.Proofs.Ytfinbmnjfnajiaa.Ng Go.Proofs.Ytfinbmnjfnajiaa.Qa Go.Proofs.Ytfinbmnjfnajiaa.Qb Go.Proofs.Ytfinbmnjfnajiaa.Th Go.Proofs.Ytfinbmnjfnajiaa.Ti Go.Proofs.Ytfinbmnjfnajiaa.He Go.Proofs.Ytfinbmnjfnajiaa.Rs Dg Go.Proofs.Ytfinbmnjfnajiaa.Dz
theorem bl_div {a n : Nat} (h : a / 2 ^ n ≠ 0) : bl (a / 2 ^ n) + n ≤ bl a := by
  rw [← bl_shift h]
  exact bl_mono (Nat.div_mul_le_self a (2 ^ n))
theorem shf_bl {z k : Int} {m : Nat} (h0 : 0 ≤ z) (h : (bl z.natAbs : Nat) + k ≤ (m : Int)) : bl (shf z k).natAbs ≤ m := by
  unfold shf
  split
  · rw [Int.natAbs_mul]
    have e : ((2 : Int) ^ k.toNat).natAbs = 2 ^ k.toNat := by rw [Int.natAbs_pow]; rfl
    rw [e]
    have := bl_shift_le z.natAbs k.toNat
    omega
  · rw [← shr_pos (by omega), Int.natAbs_natCast]
    by_cases hq : z.natAbs / 2 ^ (-k).toNat = 0
    · rw [hq, bl_zero]; omega
    · have := bl_div hq
      omega
theorem root_bl {s e k : Int} {l : List Int} (h : rootCode s l e k = 0) : bl (shf (wv s l) (e + 2 * k)).natAbs ≤ 800 ∧ 0 ≤ wv s l := by
  obtain ⟨hd, hs, k0, k1⟩ := rootCode_zero h
  have hW := isD_W hd
  have hv0 : 0 ≤ wv s l := by
    unfold wv
    rw [if_neg hs]
    exact val_nonneg (isW_spec hW).1
  refine ⟨?_, hv0⟩
  by_cases h0 : 0 < s
  · unfold rootCode at h
    rw [if_pos hd] at h
    split at h
    · omega
    · next hn =>
      refine shf_bl hv0 ?_
      have : ¬ 400 < ((bl (wv s l).natAbs : Nat) : Int) + e := fun hh => hn (.inr (.inl ⟨h0, hh⟩))
      omega
  · have hs0 : s = 0 := by omega
    have hz : wv s l = 0 := by
      have := (isW_eq hW).1
      unfold sgn at this
      split at this
      · omega
      · split at this <;> first | assumption | omega
    rw [hz]
    have : shf 0 (e + 2 * k) = 0 := by unfold shf; split <;> simp
    rw [this]
    decide
theorem root_fit {x : Nat} {k : Int} (hx : bl x ≤ 800) (k0 : 0 ≤ k) (k1 : k ≤ 200) : fitD ((rt x : Nat) : Int) (-k) = ((dy ((rt x : Nat) : Int) (-k)).1, (dy ((rt x : Nat) : Int) (-k)).2.1, (dy ((rt x : Nat) : Int) (-k)).2.2, 0) := by
  rw [fitD_dy, if_pos]
  rw [isD_dy, decide_eq_true_iff]
  by_cases h0 : rt x = 0
  · left; rw [h0]; rfl
  · right
    have hr := rt_bl x
    have ht := tz_lt h0
    have hd := bl_mono (Nat.div_le_self (rt x) (2 ^ tz (rt x)))
    rw [Int.natAbs_natCast]
    omega
end Go.Proofs.Ytfinbmnjfnajiaa.Tj
end
section
set_option linter.unusedVariables false
set_option linter.unusedSimpArgs false
namespace Go.Proofs.Ytfinbmnjfnajiaa.Tm
open Go.RowKit Go.Proofs.YtfinbmnjfnajiaaW.PrintWords Go.Proofs.YtfinbmnjfnajiaaW.PrintLast Go.Proofs.YtfinbmnjfnajiaaW.PrintMore Go.Proofs.Ytfinbmnjfnajiaa.PW Go.Proofs.Ytfinbmnjfnajiaa.Pb Go.Proofs.Ytfinbmnjfnajiaa.Pc Go.Proofs.Ytfinbmnjfnajiaa.Pm Go.Proofs.Ytfinbmnjfnajiaa.Pt Go.Proofs.Ytfinbmnjfnajiaa.Pw Go.Proofs.Ytfinbmnjfnajiaa.Px Go.Proofs.Ytfinbmnjfnajiaa.Ma Go.Proofs.Ytfinbmnjfnajiaa.Mh Go.Proofs.Ytfinbmnjfnajiaa.Mk Go.Proofs.Ytfinbmnjfnajiaa.Mu Go.Proofs.Ytfinbmnjfnajiaa.Mn Go.Proofs.Ytfinbmnjfnajiaa.Na Go.Proofs.Ytfinbmnjfnajiaa.Nd Go.Proofs.Ytfinbmnjfnajiaa.Ng Go.Proofs.Ytfinbmnjfnajiaa.Qa Go.Proofs.Ytfinbmnjfnajiaa.Qb Go.Proofs.Ytfinbmnjfnajiaa.Th Go.Proofs.Ytfinbmnjfnajiaa.Ti Go.Proofs.Ytfinbmnjfnajiaa.He Go.Proofs.Ytfinbmnjfnajiaa.Rs Go.Proofs.Ytfinbmnjfnajiaa.Tj Dg Go.Proofs.Ytfinbmnjfnajiaa.Dz
def GivesDy (w : World) (z e : Int) (en : Ending) (w' : World) : Prop :=
  ∃ v, en = .returned (.agg #[.int .i64 (dy z e).1, v, .int .i64 (dy z e).2.2]) ∧ Kd.R (Kd.int .i64) 2 w' w.heap.size (fun _ => True) v (dy z e).2.1 ∧ Below w.heap.size w w'
theorem cutN {w : World} {A : Option Addr} {c z m : Nat} (hr : Rd w A c (z : Int)) (hb : bl z ≤ 1000000) (hm : m ≤ 1000000) :
    Calls Try.prog 120 #[.agg #[.int .i64 (sgn (z : Int)), .slice A (L z).length c], .int .i64 (m : Int)] w (GivesN w (z / 2 ^ m)) := by
  obtain ⟨n, hn⟩ := (Ss.scut (sgn (z : Int)) z m (by omega) (by omega)).rounds
  have e : smk (sgn (z : Int)) (z / 2 ^ m) = (sgn ((z / 2 ^ m : Nat) : Int), L (z / 2 ^ m)) := by
    unfold smk
    by_cases h : z / 2 ^ m = 0
    · rw [if_pos h, h, L_zero]; rfl
    · rw [if_neg h]
      have hz : z ≠ 0 := by rintro rfl; simp at h
      have h1 : sgn (z : Int) = 1 := by unfold sgn; rw [if_neg (by omega), if_neg (by omega)]
      have h2 : sgn ((z / 2 ^ m : Nat) : Int) = 1 := by
        generalize z / 2 ^ m = y at *
        unfold sgn; rw [if_neg (by omega), if_neg (by omega)]
      rw [h1, h2]
  rw [e] at hn
  exact (spec_l02Cut.calls n _ A c (L z) (m : Int) (sgn ((z / 2 ^ m : Nat) : Int)) (L (z / 2 ^ m)) w hr.1 hr.2 hn).mono fun e w' h => by
    obtain ⟨v, rfl, hR, hb⟩ := h
    obtain ⟨A', c', rfl⟩ := Kd.R_slice hR
    exact ⟨A', c', rfl, hR, hb⟩
theorem makeN {w : World} {A : Option Addr} {c z : Nat} {e : Int} (hr : Rd w A c (z : Int)) (hb : bl z ≤ 1000000) (h1 : -1000000 ≤ e) (h2 : e ≤ 1000000) :
    Calls Try.prog 98 #[.agg #[.int .i64 (sgn (z : Int)), .slice A (L z).length c], .int .i64 e] w (GivesDy w (z : Int) e) := by
  obtain ⟨n, hn⟩ := (smakeD (z : Int) e (by rw [Int.natAbs_natCast]; omega) (by omega) (by omega)).rounds
  exact spec_l03Make.calls n _ A c (L z) e (dy (z : Int) e).1 (dy (z : Int) e).2.1 (dy (z : Int) e).2.2 w hr.1 hr.2 hn
set_option maxHeartbeats 1600000 in
set_option maxRecDepth 20000 in
theorem shiftN {w : World} {A : Option Addr} {c z m : Nat} (hr : Rd w A c (z : Int)) (hb : bl z ≤ 1000000) (h0 : 0 < m) (hm : m ≤ 1000000) :
    Calls Try.prog 123 #[.agg #[.int .i64 (sgn (z : Int)), .slice A (L z).length c], .int .i64 (-(m : Int))] w (GivesN w (z / 2 ^ m)) := by
  have HBW := Lib.hid (boxAndResult w (sgn (z : Int)) A (L z).length c)
  have HC := Lib.hid (fun (W : World) (hb' : Below w.heap.size w W) => cutN (hr.below hb') hb hm)
  have hs : ¬ sgn (z : Int) < 0 := by unfold sgn; rw [if_neg (by omega)]; split <;> omega
  have hneg : ¬ (0 : Int) ≤ -(m : Int) := by omega
  have HB0 := Lib.hid (show Below w.heap.size w ((w.alloc (.cells #[.int .i64 (sgn (z : Int)), .slice A (L z).length c] 26)).alloc (.cells #[.int .i64 0, .slice none 0 0] 26)) from below_then (Ma.waq w _) (Ma.waq _ _))
  generalize z / 2 ^ m = q at *
  clear hr hb
  generalize (L z).length = lz at *
  generalize sgn (z : Int) = sz at *
  go_enter Try.func123, Try.ntmps123
  go_upto_region 1 with fail
  obtain ⟨W0, hW0⟩ : ∃ W0, W0 = (w.alloc (.cells #[.int .i64 sz, .slice A lz c] 26)).alloc (.cells #[.int .i64 0, .slice none 0 0] 26) := ⟨_, rfl⟩
  rw [← hW0] at HBW HB0 ⊢
  have hW0s : W0.heap.size = w.heap.size + 2 := by rw [hW0, alloc_size, alloc_size]
  clear hW0
  obtain ⟨-, c0, c1, ⟨hs0, i0, i1⟩, -⟩ := HBW.out W0 (Below.refl _ _)
  go_wp2_with fail
  refine (HC.out W0 HB0.out).mono ?_
  rintro en w1 ⟨A1, c9, rfl, hR1, hb1⟩
  clear c0 c1
  go_upto_region 4 with fail
  have hx2 := heap_alloc_new w1 (.cells #[.int .i64 (sgn (q : Int)), .slice A1 (L q).length c9] 26)
  have hb2 := Ma.waq w1 (.cells #[.int .i64 (sgn (q : Int)), .slice A1 (L q).length c9] 26)
  generalize w1.alloc (.cells #[.int .i64 (sgn (q : Int)), .slice A1 (L q).length c9] 26) = w2 at *
  have p0 := kcq hx2 0
  have p1 := kcq hx2 1
  have hb02 := below_then hb1 hb2
  obtain ⟨hbw, c0, c1, ⟨hs2, i02, i12⟩, hbx⟩ := HBW.out w2 (hb02.mono (by omega))
  obtain ⟨e0, e1, f0, f1⟩ := cellsOf hbx
  have HBX := Lib.hid hbx
  have HBB := Lib.hid hbw
  have HR := Lib.hid (Kd.R_lower (base' := w.heap.size) (Kd.R_below hR1 hb2) (by omega))
  clear hx2 hb2 hb02 hbw hbx hR1 hb1
  go_wp2
  have hst := storedW (s := sgn (q : Int)) (u := .slice A1 (L q).length c9) HBX.out HBB.out (by omega) HR.out
  exact bodyPost_ret (results_single rfl (.cell (w.heap.size + 1) 26 #[.int .i64 (sgn (q : Int)), .slice A1 (L q).length c9] (0, 0) _ rfl hst.1 Try.underlying26 rfl sizeW .nil)) rfl ⟨_, _, rfl, hst.2.1, hst.2.2⟩
set_option maxHeartbeats 1600000 in
set_option maxRecDepth 20000 in
theorem floorN {w : World} {A : Option Addr} {c z : Nat} {e k : Int} (hr : Rd w A c (z : Int)) (hb : bl z ≤ 2400) (e1 : -3000 ≤ e) (e2 : e ≤ 3000) (k0 : -10000 ≤ k) (k1 : k ≤ 10000) :
    Calls Try.prog 102 #[.agg #[.int .i64 (sgn (z : Int)), .slice A (L z).length c, .int .i64 e], .int .i64 k] w (GivesDy w (shf (z : Int) (e + k)) (-k)) := by
  obtain ⟨W0, hW0⟩ : ∃ W0, W0 = (w.alloc (.cells #[.int .i64 (sgn (z : Int)), .slice A (L z).length c, .int .i64 e] 44)).alloc (.cells #[.int .i64 0, .slice none 0 0, .int .i64 0] 44) := ⟨_, rfl⟩
  obtain ⟨hb0, stay0⟩ := two w (sgn (z : Int)) e A (L z).length c hW0
  have stay := Lib.hid stay0
  have HW := Lib.hid hW0
  have HSM := Lib.hid (show ∀ (W : World) (B : Option Addr) (d : Nat), Rd W B d (z : Int) → Calls Try.prog 98 #[.agg #[.int .i64 (sgn (z : Int)), .slice B (L z).length d], .int .i64 e] W (GivesDy W (z : Int) e) from fun W B d h => makeN h (by omega) (by omega) (by omega))
  have HRD := Lib.hid (fun (W : World) (hb' : Below W0.heap.size W0 W) => (hr.below hb0).below hb')
  by_cases hge : -k ≤ e
  · have hd : dy (shf (z : Int) (e + k)) (-k) = dy (z : Int) e := by
      unfold shf
      rw [if_pos (by omega), dy_shift]
      congr 1
      omega
    have hgb : ¬ e < -k := by omega
    have hM := HSM.out W0 A c (HRD.out W0 (Below.refl _ _))
    unfold GivesDy at hM ⊢
    rw [hd]
    have HM := Lib.hid hM
    have HBB := Lib.hid (Below.refl W0.heap.size W0)
    generalize dy (z : Int) e = dd at *
    clear hM hW0 stay0 hb0 hr hb HSM HRD hd
    generalize (L z).length = lz at *
    generalize sgn (z : Int) = sz at *
    go_enter Try.func102, Try.ntmps102
    go_upto_region 1 with fail
    rw [← HW.out]
    clear HW
    obtain ⟨⟨c0, c1, c2⟩, ⟨d0, d1, d2, d3, d4, d5⟩, ⟨z0, z1⟩, hx1, hbw⟩ := stay.out W0 (Below.refl _ _)
    clear hx1 hbw
    go_wp2_with fail
    refine HM.out.mono ?_
    rintro en w5 ⟨v5, rfl, hR5, hb5⟩
    obtain ⟨A5, c5, rfl⟩ := Kd.R_slice hR5
    have hbb := below_then HBB.out hb5
    obtain ⟨⟨c0, c1, c2⟩, ⟨d0, d1, d2, d3, d4, d5⟩, ⟨z0, z1⟩, hx1, hbw⟩ := stay.out w5 hbb
    have HX := Lib.hid hx1
    have HB := Lib.hid hbw
    have hszz := (stay.out _ HBB.out).2.2.2.2.size
    have HR := Lib.hid (Kd.R_lower (base' := w.heap.size) hR5 hszz)
    clear hx1 hbw hbb hR5 hb5
    go_wp2
    have hst := storedD (s := dd.1) (x := dd.2.2) (u := .slice A5 dd.2.1.length c5) HX.out HB.out (by omega) HR.out
    exact bodyPost_ret (results_single rfl (.cell (w.heap.size + 1) 44 #[.int .i64 dd.1, .slice A5 dd.2.1.length c5, .int .i64 dd.2.2] (0, 0) _ rfl hst.1 Try.underlying44 rfl sizeD .nil)) rfl ⟨_, rfl, hst.2.1, hst.2.2⟩
  · obtain ⟨m, hm⟩ : ∃ m : Nat, -(m : Int) = e + k := ⟨(-(e + k)).toNat, by omega⟩
    have hd : shf (z : Int) (e + k) = ((z / 2 ^ m : Nat) : Int) := by
      unfold shf
      rw [if_neg (by omega), show (-(e + k)).toNat = m by omega]
      rw [Int.natCast_ediv]
      simp
    rw [hd]
    have hq := bl_mono (Nat.div_le_self z (2 ^ m))
    have HSH := Lib.hid (show ∀ (W : World) (B : Option Addr) (d : Nat), Rd W B d (z : Int) → Calls Try.prog 123 #[.agg #[.int .i64 (sgn (z : Int)), .slice B (L z).length d], .int .i64 (e + k)] W (GivesN W (z / 2 ^ m)) from fun W B d h => by
      have := shiftN (m := m) h (by omega) (by omega) (by omega)
      rwa [hm] at this)
    have hMK := fun (W : World) (B : Option Addr) (d : Nat) (h : Rd W B d ((z / 2 ^ m : Nat) : Int)) => makeN (e := -k) h (by omega) (by omega) (by omega)
    unfold GivesDy at hMK ⊢
    have HMK := Lib.hid hMK
    have HS0 := Lib.hid (HSH.out W0 A c (HRD.out W0 (Below.refl _ _)))
    generalize z / 2 ^ m = q at *
    generalize dy (q : Int) (-k) = dd at *
    have hlt : e < -k := by omega
    clear hMK hW0 stay0 hb0 hr hb HSM HRD hd hm hq HSH hge
    generalize (L z).length = lz at *
    generalize sgn (z : Int) = sz at *
    go_enter Try.func102, Try.ntmps102
    go_upto_region 1 with fail
    rw [← HW.out]
    clear HW
    obtain ⟨⟨c0, c1, c2⟩, ⟨d0, d1, d2, d3, d4, d5⟩, ⟨z0, z1⟩, hx1, hbw⟩ := stay.out W0 (Below.refl _ _)
    clear hx1 hbw
    go_wp2_with fail
    refine HS0.out.mono ?_
    rintro en w1 ⟨A1, c9, rfl, hR1, hb1⟩
    have HM1 := Lib.hid (HMK.out w1 A1 c9 (Rd.of_R (z := (q : Int)) hR1))
    have HBB := Lib.hid hb1
    clear hR1 hb1 HMK HS0
    go_wp2_with fail
    refine HM1.out.mono ?_
    clear c0 c1 c2 d0 d1 d2 d3 d4 d5 z0 z1
    rintro en w5 ⟨v5, rfl, hR5, hb5⟩
    obtain ⟨A5, c5, rfl⟩ := Kd.R_slice hR5
    have hbb := below_then HBB.out hb5
    obtain ⟨⟨c0, c1, c2⟩, ⟨d0, d1, d2, d3, d4, d5⟩, ⟨z0, z1⟩, hx1, hbw⟩ := stay.out w5 hbb
    have HX := Lib.hid hx1
    have HB := Lib.hid hbw
    have hszz := (stay.out _ HBB.out).2.2.2.2.size
    have HR := Lib.hid (Kd.R_lower (base' := w.heap.size) hR5 hszz)
    clear hx1 hbw hbb hR5 hb5
    go_wp2
    have hst := storedD (s := dd.1) (x := dd.2.2) (u := .slice A5 dd.2.1.length c5) HX.out HB.out (by omega) HR.out
    exact bodyPost_ret (results_single rfl (.cell (w.heap.size + 1) 44 #[.int .i64 dd.1, .slice A5 dd.2.1.length c5, .int .i64 dd.2.2] (0, 0) _ rfl hst.1 Try.underlying44 rfl sizeD .nil)) rfl ⟨_, rfl, hst.2.1, hst.2.2⟩
set_option maxHeartbeats 1600000 in
set_option maxRecDepth 20000 in
theorem codeS {w : World} {A : Option Addr} {c : Nat} {s e k : Int} {l : List Int} (hC : Kd.C (Kd.int .i64) w A l.length l) (hc : l.length ≤ c) :
    Calls Try.prog 65 #[.agg #[.int .i64 s, .slice A l.length c, .int .i64 e], .int .i64 k] w (fun en w' => en = .returned (.int .i64 (rootCode s l e k)) ∧ Below w.heap.size w w') := by
  obtain ⟨W0, hW0⟩ : ∃ W0, W0 = w.alloc (.cells #[.int .i64 s, .slice A l.length c, .int .i64 e] 44) := ⟨_, rfl⟩
  obtain ⟨hb0, hx0, hs0⟩ := boxes1 w (.cells #[.int .i64 s, .slice A l.length c, .int .i64 e] 44) W0 (by rw [hW0]; exact Below.refl _ _)
  have hlt : w.heap.size < W0.heap.size := by omega
  have HC0 := fun (W : World) (hb : Below W0.heap.size W0 W) => C_at (C_at hC hb0) hb
  obtain ⟨n1, hn1⟩ := (srange s l e k 0 200 hC.2.1).rounds
  have HI0 := fun (W : World) (hb : Below W0.heap.size W0 W) => spec_l03Range.calls n1 s A c l e k 0 200 _ W (HC0 W hb) hc hn1
  have stay := Lib.hid (fun (W : World) (hb : Below W0.heap.size W0 W) => (cellsD ((hb.block _ hlt).trans hx0)))
  have HB0 := Lib.hid hb0
  have HW := Lib.hid hW0
  have hcode : rootCode s l e k = (if (if isD s l e = true then (if k < 0 ∨ 200 < k then (2 : Int) else 0) else 1) = 0 then (if s < 0 ∨ (0 < s ∧ 400 < ((bl (wv s l).natAbs : Nat) : Int) + e) then 2 else 0) else (if isD s l e = true then (if k < 0 ∨ 200 < k then (2 : Int) else 0) else 1)) := by
    unfold rootCode
    cases isD s l e with
    | false => simp
    | true =>
      simp only [if_true]
      by_cases hk : k < 0 ∨ 200 < k
      · rw [if_pos (.inr (.inr hk)), if_pos hk]; rfl
      · rw [if_neg hk, if_pos rfl]
        by_cases hs : s < 0 ∨ (0 < s ∧ 400 < ((bl (wv s l).natAbs : Nat) : Int) + e)
        · rw [if_pos hs, if_pos]
          rcases hs with hs | hs
          · exact .inl hs
          · exact .inr (.inl hs)
        · rw [if_neg hs, if_neg]
          omega
  rw [hcode]
  clear hcode
  by_cases hrc : (if isD s l e = true then (if k < 0 ∨ 200 < k then (2 : Int) else 0) else 1) = 0
  · rw [if_pos hrc]
    rw [hrc] at HI0
    have hd : isD s l e = true := by
      cases h : isD s l e with
      | true => rfl
      | false => rw [h] at hrc; simp at hrc
    have HI := Lib.hid HI0
    have hW := isD_W hd
    have he := isD_e hd
    obtain ⟨q1, q2, b0⟩ := isW_eq hW
    obtain ⟨n2, hn2⟩ := (Ps.slength s (wv s l).natAbs (by omega)).rounds
    rw [← q2] at hn2
    have HLN := Lib.hid (fun (W : World) (hb : Below W0.heap.size W0 W) => spec_l02Length.calls n2 s A c l _ W (HC0 W hb) hc hn2)
    by_cases h1 : s < 0
    · rw [if_pos (.inl h1)]
      have hb1 : (decide (s < 0)) = true := by simpa using h1
      clear HI0 HC0 hn1 hn2 hC hc hb0 hx0 hW0 hrc hW hd q1 q2 b0 HLN
      generalize l.length = ll at *
      go_enter Try.func65, Try.ntmps65
      go_upto_region 1 with fail
      rw [← HW.out]
      clear HW
      obtain ⟨c0, c1, c2, _, _, _, z0⟩ := stay.out W0 (Below.refl _ _)
      go_wp2_with fail
      refine (HI.out W0 (Below.refl _ _)).mono ?_
      rintro en w1 ⟨rfl, hb⟩
      have HX1 := Lib.hid hb
      clear c0 c1 c2
      obtain ⟨c0, c1, c2, _, _, _, z1⟩ := stay.out w1 hb
      clear hb
      go_upto_region 2 with fail
      go_region
      go_wp2
      go_ret
      exact ⟨rfl, below_then HB0.out HX1.out.drew⟩
    · have hcd : (s < 0 ∨ (0 < s ∧ 400 < ((bl (wv s l).natAbs : Nat) : Int) + e)) ↔ 400 < ((bl (wv s l).natAbs : Nat) : Int) + e := by
        constructor
        · rintro (h | h)
          · exact absurd h h1
          · exact h.2
        · intro h4
          by_cases h0 : 0 < s
          · exact .inr ⟨h0, h4⟩
          · exfalso
            have hs0 : s = 0 := by omega
            have hz : wv s l = 0 := by
              unfold sgn at q1
              split at q1
              · omega
              · split at q1 <;> first | assumption | omega
            rw [hz] at h4
            unfold isD at hd
            rw [if_pos hs0] at hd
            simp only [Bool.and_eq_true, beq_iff_eq] at hd
            have := hd.2
            simp [bl_zero] at h4
            omega
      have hb1 : (decide (s < 0)) = false := by simpa using h1
      have hfin : (if s < 0 ∨ (0 < s ∧ 400 < ((bl (wv s l).natAbs : Nat) : Int) + e) then (2 : Int) else 0) = if 400 < ((bl (wv s l).natAbs : Nat) : Int) + e then 2 else 0 := by
        by_cases h4 : 400 < ((bl (wv s l).natAbs : Nat) : Int) + e
        · rw [if_pos (hcd.2 h4), if_pos h4]
        · rw [if_neg (fun h => h4 (hcd.1 h)), if_neg h4]
      rw [hfin]
      have HWR := Lib.hid (show IntKind.i64.wrap (((bl (wv s l).natAbs : Nat) : Int) + e) = ((bl (wv s l).natAbs : Nat) : Int) + e by rw [IntKind.wrap_i64]; omega)
      clear hfin hcd HI0 HC0 hn1 hn2 hC hc hb0 hx0 hW0 hrc hW hd q1 q2
      generalize bl (wv s l).natAbs = bb at *
      generalize l.length = ll at *
      by_cases h4 : 400 < (bb : Int) + e
      · rw [if_pos h4]
        have hdb : (decide (400 < (bb : Int) + e)) = true := by simpa using h4
        go_enter Try.func65, Try.ntmps65
        go_upto_region 1 with fail
        rw [← HW.out]
        clear HW
        obtain ⟨c0, c1, c2, _, _, _, z0⟩ := stay.out W0 (Below.refl _ _)
        go_wp2_with fail
        refine (HI.out W0 (Below.refl _ _)).mono ?_
        rintro en w1 ⟨rfl, hb⟩
        have HX1 := Lib.hid hb
        clear c0 c1 c2
        obtain ⟨c0, c1, c2, _, _, _, z1⟩ := stay.out w1 hb
        clear hb
        go_upto_region 2 with fail
        go_region_held3 (fun w' => w'.cell? ⟨w.heap.size, 0, none⟩ = some (.int .i64 s) ∧ w'.cell? ⟨w.heap.size, 1, none⟩ = some (.slice A ll c) ∧ w'.cell? ⟨w.heap.size, 2, none⟩ = some (.int .i64 e)) (go_keep)
          (first | (go_at_call 54; refine (HLN.out _ (show Below W0.heap.size W0 _ by first | exact HX1.out | exact HX1.out.drew)).mono ?_; rintro en w2 ⟨rfl, hb⟩; have HX2 := Lib.hid (below_then (show Below W0.heap.size W0 _ by first | exact HX1.out | exact HX1.out.drew) hb); obtain ⟨c0, c1, c2, _, _, _, z2⟩ := stay.out w2 HX2.out; clear hb))
        all_goals try rw [HWR.out]
        all_goals go_wp2
        all_goals go_ret
        all_goals exact ⟨rfl, below_then HB0.out HX2.out⟩
      · rw [if_neg h4]
        have hdb : (decide (400 < (bb : Int) + e)) = false := by simpa using h4
        go_enter Try.func65, Try.ntmps65
        go_upto_region 1 with fail
        rw [← HW.out]
        clear HW
        obtain ⟨c0, c1, c2, _, _, _, z0⟩ := stay.out W0 (Below.refl _ _)
        go_wp2_with fail
        refine (HI.out W0 (Below.refl _ _)).mono ?_
        rintro en w1 ⟨rfl, hb⟩
        have HX1 := Lib.hid hb
        clear c0 c1 c2
        obtain ⟨c0, c1, c2, _, _, _, z1⟩ := stay.out w1 hb
        clear hb
        go_upto_region 2 with fail
        go_region_held3 (fun w' => w'.cell? ⟨w.heap.size, 0, none⟩ = some (.int .i64 s) ∧ w'.cell? ⟨w.heap.size, 1, none⟩ = some (.slice A ll c) ∧ w'.cell? ⟨w.heap.size, 2, none⟩ = some (.int .i64 e)) (go_keep)
          (first | (go_at_call 54; refine (HLN.out _ (show Below W0.heap.size W0 _ by first | exact HX1.out | exact HX1.out.drew)).mono ?_; rintro en w2 ⟨rfl, hb⟩; have HX2 := Lib.hid (below_then (show Below W0.heap.size W0 _ by first | exact HX1.out | exact HX1.out.drew) hb); obtain ⟨c0, c1, c2, _, _, _, z2⟩ := stay.out w2 HX2.out; clear hb))
        all_goals try rw [HWR.out]
        all_goals go_wp2
        all_goals go_ret
        all_goals exact ⟨rfl, below_then HB0.out HX2.out⟩
  · rw [if_neg hrc]
    generalize (if isD s l e = true then (if k < 0 ∨ 200 < k then (2 : Int) else 0) else 1) = rc at *
    have hrb : (rc == 0) = false := by simpa using hrc
    have HI := Lib.hid HI0
    clear HI0 HC0 hn1 hC hc hb0 hx0 hW0
    generalize l.length = ll at *
    go_enter Try.func65, Try.ntmps65
    go_upto_region 1 with fail
    rw [← HW.out]
    clear HW
    obtain ⟨c0, c1, c2, _, _, _, z0⟩ := stay.out W0 (Below.refl _ _)
    go_wp2_with fail
    refine (HI.out W0 (Below.refl _ _)).mono ?_
    rintro en w1 ⟨rfl, hb⟩
    have HX1 := Lib.hid hb
    clear c0 c1 c2
    obtain ⟨c0, c1, c2, _, _, _, z1⟩ := stay.out w1 hb
    clear hb
    go_upto_region 2 with fail
    go_region
    go_wp2
    go_ret
    exact ⟨rfl, below_then HB0.out HX1.out.drew⟩
end Go.Proofs.Ytfinbmnjfnajiaa.Tm
end
section
set_option linter.unusedVariables false
set_option linter.unusedSimpArgs false
namespace Go.Proofs.Ytfinbmnjfnajiaa.Tk
open Go.RowKit Go.Proofs.YtfinbmnjfnajiaaW.PrintWords Go.Proofs.YtfinbmnjfnajiaaW.PrintLast Go.Proofs.YtfinbmnjfnajiaaW.PrintMore Go.Proofs.Ytfinbmnjfnajiaa.PW Go.Proofs.Ytfinbmnjfnajiaa.Pb Go.Proofs.Ytfinbmnjfnajiaa.Pc Go.Proofs.Ytfinbmnjfnajiaa.Pm Go.Proofs.Ytfinbmnjfnajiaa.Pt Go.Proofs.Ytfinbmnjfnajiaa.Pw Go.Proofs.Ytfinbmnjfnajiaa.Ma Go.Proofs.Ytfinbmnjfnajiaa.Mh Go.Proofs.Ytfinbmnjfnajiaa.Mk Go.Proofs.Ytfinbmnjfnajiaa.Mu Go.Proofs.Ytfinbmnjfnajiaa.Mn Go.Proofs.Ytfinbmnjfnajiaa.Na Go.Proofs.Ytfinbmnjfnajiaa.Nd Go.Proofs.Ytfinbmnjfnajiaa.Ng Go.Proofs.Ytfinbmnjfnajiaa.Qa Go.Proofs.Ytfinbmnjfnajiaa.Qb Go.Proofs.Ytfinbmnjfnajiaa.Th Go.Proofs.Ytfinbmnjfnajiaa.Ti Go.Proofs.Ytfinbmnjfnajiaa.He Go.Proofs.Ytfinbmnjfnajiaa.Rs Go.Proofs.Ytfinbmnjfnajiaa.Tj Go.Proofs.Ytfinbmnjfnajiaa.Tm Dg Go.Proofs.Ytfinbmnjfnajiaa.Dz
set_option maxHeartbeats 1600000 in
set_option maxRecDepth 20000 in
theorem belowS {w : World} {A : Option Addr} {c x : Nat} {z e k : Int} (hr : Rd w A c z) (h0 : 0 ≤ z) (hb : bl z.natAbs ≤ 2400) (e1 : -3000 ≤ e) (e2 : e ≤ 3000) (k0 : 0 ≤ k) (k1 : k ≤ 200) (hxx : shf z (e + 2 * k) = (x : Int)) (hx : bl x ≤ 800) :
    Calls Try.prog 66 #[.agg #[.int .i64 (sgn z), .slice A (L z.natAbs).length c, .int .i64 e], .int .i64 k] w (GivesDy w ((rt x : Nat) : Int) (-k)) := by
  obtain ⟨zn, rfl⟩ := Int.eq_ofNat_of_zero_le h0
  simp only [Int.natAbs_natCast] at hb ⊢
  obtain ⟨W0, hW0⟩ : ∃ W0, W0 = (w.alloc (.cells #[.int .i64 (sgn (zn : Int)), .slice A (L zn).length c, .int .i64 e] 44)).alloc (.cells #[.int .i64 0, .slice none 0 0, .int .i64 0] 44) := ⟨_, rfl⟩
  obtain ⟨hb0, stay0⟩ := two w (sgn (zn : Int)) e A (L zn).length c hW0
  have stay := Lib.hid stay0
  have hF := fun (W : World) (hb' : Below W0.heap.size W0 W) => floorN (e := e) (k := 2 * k) ((hr.below hb0).below hb') hb e1 e2 (by omega) (by omega)
  rw [hxx] at hF
  unfold GivesDy at hF
  have HW := Lib.hid hW0
  by_cases hx0 : x = 0
  · subst hx0
    have hd : dy ((0 : Nat) : Int) (-(2 * k)) = (0, [], 0) := by unfold dy; rw [if_pos (by rfl)]
    rw [hd] at hF
    have HE := Lib.hid (show ∀ W', Kd.R (Kd.int .i64) 2 W' w.heap.size (fun _ => True) (.slice none 0 0) [] → Below w.heap.size w W' → GivesDy w ((rt 0 : Nat) : Int) (-k) (.returned (.agg #[.int .i64 0, .slice none 0 0, .int .i64 0])) W' from fun W' hR hB => by
      have hd2 : dy ((rt 0 : Nat) : Int) (-k) = (0, [], 0) := by unfold dy; rw [if_pos (by rfl)]
      unfold GivesDy
      rw [hd2]
      exact ⟨_, rfl, hR, hB⟩)
    have HF := Lib.hid hF
    clear hF hW0 stay0 hd hr h0 hb hx hxx hb0
    generalize (L zn).length = lz at *
    generalize sgn (zn : Int) = sz at *
    go_enter Try.func66, Try.ntmps66
    go_upto_region 1 with fail
    rw [← HW.out]
    clear HW
    obtain ⟨⟨c0, c1, c2⟩, ⟨d0, d1, d2, d3, d4, d5⟩, ⟨z0, z1⟩, hx1, hbw⟩ := stay.out W0 (Below.refl _ _)
    clear hx1 hbw
    go_wp2_with fail
    refine (HF.out W0 (Below.refl _ _)).mono ?_
    rintro en w1 ⟨v1, rfl, hR1, hb1⟩
    obtain ⟨A1, c9, rfl⟩ := Kd.R_slice hR1
    clear c0 c1 d0 d1 d2 d3 d4 d5 z0 z1 c2 hR1
    go_upto_region 2 with fail
    have hx2 := heap_alloc_new w1 (.cells #[.int .i64 0, .slice A1 0 c9, .int .i64 0] 44)
    have hb2 := waq w1 (.cells #[.int .i64 0, .slice A1 0 c9, .int .i64 0] 44)
    try simp only [List.length_nil] at *
    generalize w1.alloc (.cells #[.int .i64 0, .slice A1 0 c9, .int .i64 0] 44) = w2 at *
    obtain ⟨p0, p1, p2, _, _, _, l2⟩ := cellsD hx2
    have hbb := below_then hb1 hb2
    obtain ⟨⟨c0, c1, c2⟩, ⟨d0, d1, d2, d3, d4, d5⟩, ⟨z0, z1⟩, hx1, hbw⟩ := stay.out w2 hbb
    have HX := Lib.hid hx1
    have HB := Lib.hid hbw
    clear hx1 hbw hbb hx2 hb2 hb1
    go_wp2
    have hst := storedD (s := 0) (x := 0) (u := .slice none 0 0) HX.out HB.out (by omega) (Kd.R_nil _ _ _ _ _)
    exact bodyPost_ret (results_single rfl (.cell (w.heap.size + 1) 44 #[.int .i64 0, .slice none 0 0, .int .i64 0] (0, 0) _ rfl hst.1 Try.underlying44 rfl sizeD .nil)) rfl (HE.out _ hst.2.1 hst.2.2)
  · obtain ⟨t, xp, ht, hxp, htx, hxo⟩ : ∃ t xp : Nat, t = tz x ∧ xp = x / 2 ^ t ∧ xp * 2 ^ t = x ∧ xp ≠ 0 := by
      refine ⟨tz x, x / 2 ^ tz x, rfl, rfl, (tz_spec hx0).1.symm, ?_⟩
      intro h
      have := (tz_spec hx0).1
      rw [h, Nat.zero_mul] at this
      exact hx0 this
    have htl := tz_lt hx0
    have hbxp : bl xp ≤ 800 := by rw [hxp]; exact Nat.le_trans (bl_mono (Nat.div_le_self _ _)) hx
    have hsx : sgn (xp : Int) = 1 := by unfold sgn; rw [if_neg (by omega), if_neg (by omega)]
    have hd : dy (x : Int) (-(2 * k)) = (sgn (xp : Int), L xp, -(2 * k) + (t : Int)) := by
      unfold dy
      rw [if_neg (by omega), Int.natAbs_natCast, ← ht, ← hxp, hsx]
      have : sgn (x : Int) = 1 := by unfold sgn; rw [if_neg (by omega), if_neg (by omega)]
      rw [this]
    rw [hd] at hF
    obtain ⟨E, hE⟩ : ∃ E : Int, E = -(2 * k) + (t : Int) := ⟨_, rfl⟩
    rw [← hE] at hF
    have HL := Lib.hid (show ∀ (W : World) (B : Option Addr) (d : Nat), Rd W B d (xp : Int) → Calls Try.prog 84 #[.agg #[.int .i64 (sgn (xp : Int)), .slice B (L xp).length d], .int .i64 (E + 2 * k)] W (GivesN W x) from fun W B d hB => by
      have := leftZ (k := t) hB (by rw [Int.natAbs_natCast]; omega) (by omega)
      rw [show ((t : Nat) : Int) = E + 2 * k by omega] at this
      exact this.mono fun e w' h => GivesN.of (by rw [← htx]; simp) h)
    have HRT := Lib.hid (show ∀ (W : World) (B : Option Addr) (d : Nat), Rd W B d (x : Int) → Calls Try.prog 43 #[.agg #[.int .i64 (sgn (x : Int)), .slice B (L x).length d]] W (GivesN W (rt x)) from fun W B d hB => rootS hB (by omega))
    have hrb := rt_bl x
    obtain ⟨n2, hn2⟩ := (smakeD ((rt x : Nat) : Int) (-k) (by rw [Int.natAbs_natCast]; omega) (by omega) (by omega)).rounds
    have HM := Lib.hid (show ∀ (W : World) (B : Option Addr) (d : Nat), Rd W B d ((rt x : Nat) : Int) → Calls Try.prog 98 #[.agg #[.int .i64 (sgn ((rt x : Nat) : Int)), .slice B (L (rt x)).length d], .int .i64 (-k)] W (GivesDy W ((rt x : Nat) : Int) (-k)) from fun W B d hB =>
      spec_l03Make.calls n2 _ B d (L (rt x)) (-k) (dy ((rt x : Nat) : Int) (-k)).1 (dy ((rt x : Nat) : Int) (-k)).2.1 (dy ((rt x : Nat) : Int) (-k)).2.2 W hB.1 hB.2 hn2)
    have HF := Lib.hid hF
    have hE1 : -1000 ≤ E := by omega
    have hE2 : E ≤ 1000 := by omega
    have hsn : (sgn (xp : Int) == 0) = false := by rw [hsx]; rfl
    have HSX := Lib.hid hsx
    clear hF hW0 stay0 hd hr h0 hb hx hxx hb0 hE htl ht hxp htx hxo hbxp hsx hn2 hrb hx0
    generalize (L zn).length = lz at *
    generalize sgn (zn : Int) = sz at *
    generalize rt x = r at *
    go_enter Try.func66, Try.ntmps66
    go_upto_region 1 with fail
    rw [← HW.out]
    clear HW
    obtain ⟨⟨c0, c1, c2⟩, ⟨d0, d1, d2, d3, d4, d5⟩, ⟨z0, z1⟩, hx1, hbw⟩ := stay.out W0 (Below.refl _ _)
    clear hx1 hbw
    go_wp2_with fail
    refine (HF.out W0 (Below.refl _ _)).mono ?_
    rintro en w1 ⟨v1, rfl, hR1, hb1⟩
    obtain ⟨A1, c9, rfl⟩ := Kd.R_slice hR1
    clear c0 c1 d0 d1 d2 d3 d4 d5 z0 z1 c2
    go_upto_region 2 with fail
    have hx2 := heap_alloc_new w1 (.cells #[.int .i64 (sgn (xp : Int)), .slice A1 (L xp).length c9, .int .i64 E] 44)
    have hb2 := waq w1 (.cells #[.int .i64 (sgn (xp : Int)), .slice A1 (L xp).length c9, .int .i64 E] 44)
    generalize w1.alloc (.cells #[.int .i64 (sgn (xp : Int)), .slice A1 (L xp).length c9, .int .i64 E] 44) = w2 at *
    obtain ⟨p0, p1, p2, _, _, _, l2⟩ := cellsD hx2
    have HB2 := Lib.hid (below_then hb1 hb2)
    have HL2 := Lib.hid (HL.out w2 A1 c9 (Rd.of_R (z := (xp : Int)) (Kd.R_below hR1 hb2)))
    clear hR1 hx2 hb2 hb1 HL HF
    go_wp2_with fail
    refine HL2.out.mono ?_
    rintro en w3 ⟨B3, c3, rfl, hR3, hb3⟩
    have HRT3 := Lib.hid (HRT.out w3 B3 c3 (Rd.of_R (z := (x : Int)) hR3))
    have HB3 := Lib.hid (below_then HB2.out hb3)
    clear hR3 hb3 HL2 HB2 p0 p1 p2 HRT
    go_wp2_with fail
    refine HRT3.out.mono ?_
    rintro en w4 ⟨B4, c4, rfl, hR4, hb4⟩
    have HM4 := Lib.hid (HM.out w4 B4 c4 (Rd.of_R (z := (r : Int)) hR4))
    have HB4 := Lib.hid (below_then HB3.out hb4)
    clear hR4 hb4 HRT3 HB3 HM
    go_wp2_with fail
    refine HM4.out.mono ?_
    rintro en w5 ⟨v5, rfl, hR5, hb5⟩
    obtain ⟨A5, c5, rfl⟩ := Kd.R_slice hR5
    have hbb := below_then HB4.out hb5
    obtain ⟨⟨c0, c1, c2⟩, ⟨d0, d1, d2, d3, d4, d5⟩, ⟨z0, z1⟩, hx1, hbw⟩ := stay.out w5 hbb
    have HX := Lib.hid hx1
    have HB := Lib.hid hbw
    have hszz := (stay.out w4 HB4.out).2.2.2.2.size
    have HR := Lib.hid (Kd.R_lower (base' := w.heap.size) hR5 hszz)
    clear hx1 hbw hbb hR5 hb5 HB4 HM4
    go_wp2
    have hst := storedD (s := (dy (r : Int) (-k)).1) (x := (dy (r : Int) (-k)).2.2) (u := .slice A5 (dy (r : Int) (-k)).2.1.length c5) HX.out HB.out (by omega) HR.out
    exact bodyPost_ret (results_single rfl (.cell (w.heap.size + 1) 44 #[.int .i64 (dy (r : Int) (-k)).1, .slice A5 (dy (r : Int) (-k)).2.1.length c5, .int .i64 (dy (r : Int) (-k)).2.2] (0, 0) _ rfl hst.1 Try.underlying44 rfl sizeD .nil)) rfl ⟨_, rfl, hst.2.1, hst.2.2⟩
end Go.Proofs.Ytfinbmnjfnajiaa.Tk
end
section
set_option linter.unusedVariables false
set_option linter.unusedSimpArgs false
namespace Go.Proofs.Ytfinbmnjfnajiaa.PW
open Go.RowKit Go.Proofs.YtfinbmnjfnajiaaW.PrintWords Go.Proofs.YtfinbmnjfnajiaaW.PrintLast Go.Proofs.YtfinbmnjfnajiaaW.PrintMore Go.Proofs.Ytfinbmnjfnajiaa.Pb Go.Proofs.Ytfinbmnjfnajiaa.Pc Go.Proofs.Ytfinbmnjfnajiaa.Pm Go.Proofs.Ytfinbmnjfnajiaa.Pt Go.Proofs.Ytfinbmnjfnajiaa.Pw Go.Proofs.Ytfinbmnjfnajiaa.Ma Go.Proofs.Ytfinbmnjfnajiaa.Mh Go.Proofs.Ytfinbmnjfnajiaa.Mk Go.Proofs.Ytfinbmnjfnajiaa.Mu Go.Proofs.Ytfinbmnjfnajiaa.Mn Go.Proofs.Ytfinbmnjfnajiaa.Na Go.Proofs.Ytfinbmnjfnajiaa.Nd Go.Proofs.Ytfinbmnjfnajiaa.Ng Go.Proofs.Ytfinbmnjfnajiaa.Qa Go.Proofs.Ytfinbmnjfnajiaa.Qb Go.Proofs.Ytfinbmnjfnajiaa.Th Go.Proofs.Ytfinbmnjfnajiaa.Ti Go.Proofs.Ytfinbmnjfnajiaa.He Go.Proofs.Ytfinbmnjfnajiaa.Rs Go.Proofs.Ytfinbmnjfnajiaa.Tj Go.Proofs.Ytfinbmnjfnajiaa.Tk Dg Go.Proofs.Ytfinbmnjfnajiaa.Dz
def spec_RootBelow.f (_n : Nat) (a0_0 : Int) (l0_1 : List Int) (a0_2 : Int) (a1 : Int) : Option (Int × List Int × Int × Int) := impl_RootBelow.f a0_0 l0_1 a0_2 a1
set_option maxRecDepth 20000 in
set_option maxHeartbeats 1600000 in
theorem spec_RootBelow.calls (n : Nat) (a0_0 : Int) (A0_1 : Option Addr) (c0_1 : Nat) (l0_1 : List Int) (a0_2 : Int) (a1 : Int) (r1 : Int) (r2 : List Int) (r3 : Int) (r4 : Int) (w : World) (hr0_1 : Kd.C (Kd.int .i64) w A0_1 l0_1.length l0_1) (hc0_1 : l0_1.length ≤ c0_1) (h : spec_RootBelow.f n a0_0 l0_1 a0_2 a1 = some (r1, r2, r3, r4)) :
    Calls Try.prog 29 #[.agg #[.int .i64 a0_0, .slice A0_1 l0_1.length c0_1, .int .i64 a0_2], .int .i64 a1] w fun e w' => ∃ v1_ : Value, e = .returned (.tuple #[.agg #[.int .i64 r1, v1_, .int .i64 r3], .int .i64 r4]) ∧ Kd.R (Kd.int .i64) 2 w' w.heap.size (fun _ => True) v1_ r2 ∧ Below w.heap.size w w' := by
  unfold spec_RootBelow.f impl_RootBelow.f at h
  obtain ⟨W0, hW0⟩ : ∃ W0, W0 = (w.alloc (.cells #[.int .i64 a0_0, .slice A0_1 l0_1.length c0_1, .int .i64 a0_2] 44)).alloc (.cells #[.int .i64 0, .slice none 0 0, .int .i64 0] 44) := ⟨_, rfl⟩
  obtain ⟨hb0, stay0⟩ := two w a0_0 a0_2 A0_1 l0_1.length c0_1 hW0
  have stay := Lib.hid stay0
  have HI := Lib.hid (fun (W : World) (hb : Below W0.heap.size W0 W) => Tm.codeS (s := a0_0) (e := a0_2) (k := a1) (C_at (C_at hr0_1 hb0) hb) hc0_1)
  have HC0 := Lib.hid (fun (W : World) (hb : Below W0.heap.size W0 W) => C_at (C_at hr0_1 hb0) hb)
  have HW := Lib.hid hW0
  clear hW0 stay0
  by_cases hw : rootCode a0_0 l0_1 a0_2 a1 = 0
  · rw [if_pos hw] at h
    obtain ⟨hd, hs0, k0, k1⟩ := rootCode_zero hw
    obtain ⟨hxb, hv0⟩ := root_bl hw
    rw [hw] at HI
    have h1 := Option.some.inj h
    rw [root_fit hxb k0 k1] at h1
    have hW := isD_W hd
    have he := isD_e hd
    obtain ⟨q1, q2, b0⟩ := isW_eq hW
    have hsn := shf_nonneg (z := wv a0_0 l0_1) (k := a0_2 + 2 * a1) hv0
    have hxx : shf (wv a0_0 l0_1) (a0_2 + 2 * a1) = (((shf (wv a0_0 l0_1) (a0_2 + 2 * a1)).natAbs : Nat) : Int) := by omega
    have hS := fun (W : World) (hb : Below W0.heap.size W0 W) => belowS (w := W) (A := A0_1) (c := c0_1) (z := wv a0_0 l0_1) (e := a0_2) (k := a1) ⟨by rw [← q2]; exact HC0.out W hb, by rw [← q2]; exact hc0_1⟩ hv0 b0 he.1 he.2 k0 k1 hxx hxb
    rw [← q1, ← q2] at hS
    generalize (rt (shf (wv a0_0 l0_1) (a0_2 + 2 * a1)).natAbs : Nat) = r at *
    obtain ⟨p1, h2⟩ := Prod.mk.inj h1
    obtain ⟨p2, h3⟩ := Prod.mk.inj h2
    obtain ⟨p3, h4⟩ := Prod.mk.inj h3
    unfold Tm.GivesDy at hS
    rw [p1, p2, p3] at hS
    subst h4
    have HS := Lib.hid hS
    clear hS h h1 h2 h3 hw hr0_1 hc0_1 hb0 hW b0 he hd hs0 hv0 hsn hxx hxb q1 q2 p1 p2 p3 k0 k1
    go_enter Try.func29, Try.ntmps29
    go_upto_region 1 with fail
    rw [← HW.out]
    clear HW
    obtain ⟨⟨c0, c1, c2⟩, ⟨d0, d1, d2, d3, d4, d5⟩, ⟨z0, z1⟩, hx1, hbw⟩ := stay.out W0 (Below.refl _ _)
    clear hx1 hbw
    go_wp2_with fail
    refine (HI.out W0 (Below.refl _ _)).mono ?_
    rintro en w1 ⟨rfl, hb⟩
    clear c0 c1 d0 d1 d2 d3 d4 d5 z0 z1 c2
    obtain ⟨⟨c0, c1, c2⟩, ⟨d0, d1, d2, d3, d4, d5⟩, ⟨z0, z1⟩, hx1, hbw⟩ := stay.out w1 hb
    have HB1 := Lib.hid hb
    clear hx1 hbw hb HI
    go_wp2_with fail
    refine (HS.out w1 HB1.out).mono ?_
    rintro en w9 ⟨u, rfl, hR, hb⟩
    obtain ⟨A, c, rfl⟩ := Kd.R_slice hR
    have hbb := below_then HB1.out hb
    have HR := Lib.hid (Kd.R_lower (base' := w.heap.size) hR (by omega))
    clear c0 c1 d0 d1 d2 d3 d4 d5 z0 z1 c2
    obtain ⟨⟨c0, c1, c2⟩, ⟨d0, d1, d2, d3, d4, d5⟩, ⟨z0, z1⟩, hx1, hbw⟩ := stay.out w9 hbb
    have HX := Lib.hid hx1
    have HB := Lib.hid hbw
    clear hx1 hbw hb hbb hR HB1 HS
    go_wp2
    have hst := storedD (s := r1) (x := r3) (u := .slice A r2.length c) HX.out HB.out (by omega) HR.out
    exact bodyPost_ret (results_ct rfl _ _ (w.heap.size + 1) 44 #[.int .i64 r1, .slice A r2.length c, .int .i64 r3] (0, 0) _ rfl hst.1 Try.underlying44 rfl sizeD) rfl ⟨_, rfl, hst.2.1, hst.2.2⟩
  · rw [if_neg hw] at h
    obtain ⟨rfl, h2⟩ := Prod.mk.inj (Option.some.inj h)
    obtain ⟨rfl, h3⟩ := Prod.mk.inj h2
    obtain ⟨rfl, h4⟩ := Prod.mk.inj h3
    subst h4
    have hwb : (rootCode a0_0 l0_1 a0_2 a1 != 0) = true := by simpa using hw
    generalize rootCode a0_0 l0_1 a0_2 a1 = rc at *
    clear h h2 h3 hr0_1 hc0_1 hb0
    go_enter Try.func29, Try.ntmps29
    go_upto_region 1 with fail
    rw [← HW.out]
    clear HW
    obtain ⟨⟨c0, c1, c2⟩, ⟨d0, d1, d2, d3, d4, d5⟩, ⟨z0, z1⟩, hx1, hbw⟩ := stay.out W0 (Below.refl _ _)
    clear hx1 hbw
    go_wp2_with fail
    refine (HI.out W0 (Below.refl _ _)).mono ?_
    rintro en w1 ⟨rfl, hb⟩
    clear c0 c1 d0 d1 d2 d3 d4 d5 z0 z1 c2
    obtain ⟨⟨c0, c1, c2⟩, ⟨d0, d1, d2, d3, d4, d5⟩, ⟨z0, z1⟩, hx1, hbw⟩ := stay.out w1 hb
    have HX := Lib.hid hx1
    have HB := Lib.hid hbw
    clear hx1 hbw hb
    go_wp2
    have hst := storedD (s := 0) (x := 0) (u := .slice none 0 0) HX.out HB.out (by omega) (Kd.R_nil _ _ _ _ _)
    exact bodyPost_ret (results_ct rfl _ _ (w.heap.size + 1) 44 #[.int .i64 0, .slice none 0 0, .int .i64 0] (0, 0) _ rfl hst.1 Try.underlying44 rfl sizeD) rfl ⟨_, rfl, hst.2.1, hst.2.2⟩
end Go.Proofs.Ytfinbmnjfnajiaa.PW
end
section
set_option linter.unusedVariables false
set_option linter.unusedSimpArgs false
namespace Go.Proofs.Ytfinbmnjfnajiaa.KRootBelow
open Go.RowKit Go.Proofs.YtfinbmnjfnajiaaW.PrintWords Go.Proofs.YtfinbmnjfnajiaaW.PrintLast Go.Proofs.YtfinbmnjfnajiaaW.PrintMore Go.Proofs.Ytfinbmnjfnajiaa.PW Go.Proofs.Ytfinbmnjfnajiaa.Pc Go.Proofs.Ytfinbmnjfnajiaa.Ln
set_option maxHeartbeats 800000 in
theorem early0 (s0 : Int) (A0 : Option Addr) (c0 : Nat) (l0 : List Int) (e0 : Int) (a0 : Int) (n0 : Int) (w : World)
    (hr0 : Kd.C (Kd.int .i64) w A0 l0.length l0) (hc0 : l0.length ≤ c0) (hz0 : laws_szDyadic.f s0 l0 e0 1048576 = some n0) (pz0 : n0 < 0) :
    Calls Try.prog 8 #[.agg #[.int .i64 s0, .slice A0 l0.length c0, .int .i64 e0], .int .i64 a0] w fun e w' => e = .returned (.bool true) ∧ Below w.heap.size w w' := by
  have Z0 := Lib.hid (fun (W : World) (hb : Below w.heap.size w W) => laws_szDyadic.calls s0 A0 c0 l0 e0 1048576 n0 W (Kd.C_below hr0 hb) hc0 hz0)
  have HM : Hid (Mem w (w.alloc (.cells #[.int .i64 s0, .slice A0 l0.length c0, .int .i64 e0] 41)) [.box w.heap.size 41 #[.int .i64 s0, .slice A0 l0.length c0, .int .i64 e0]]) := Lib.hid ((Mem.nil w).box 41 #[.int .i64 s0, .slice A0 l0.length c0, .int .i64 e0])
  clear hr0 hc0 hz0
  go_enter Try.func8, Try.ntmps8
  go_wp2_with fail
  refine (Z0.out _ HM.out.1).mono ?_
  rintro e W1 ⟨rfl, hb⟩
  have HM1 := Lib.hid (HM.out.below hb)
  clear hb HM
  go_wp2
  go_ret
  exact ⟨rfl, HM1.out.1⟩
set_option maxHeartbeats 3200000 in
set_option maxRecDepth 20000 in
theorem path (k : Nat) (s0 : Int) (A0 : Option Addr) (c0 : Nat) (l0 : List Int) (e0 : Int) (a0 : Int) (g : Int) (gl : List Int) (ge : Int) (cd : Int) (n0 m0 mg : Int) (k0 kg : List Int) (w : World)
    (hr0 : Kd.C (Kd.int .i64) w A0 l0.length l0) (hc0 : l0.length ≤ c0)
    (hz0 : laws_szDyadic.f s0 l0 e0 1048576 = some n0) (pz0 : 0 ≤ n0)
    (ht0 : laws_toDyadic.f k s0 l0 e0 = some (s0, l0, e0))
    (hsp : spec_RootBelow.f k s0 l0 e0 a0 = some (g, gl, ge, cd)) (him : impl_RootBelow.f s0 l0 e0 a0 = some (g, gl, ge, cd))
    (heg : laws_eqDyadic.f k g gl ge g gl ge = some true) (he0 : laws_eqDyadic.f k s0 l0 e0 s0 l0 e0 = some true)
    (hm0 : laws_markDyadic.f k s0 l0 e0 1 = some (m0, k0)) (pm : 0 ≤ m0)
    (hmg : laws_markDyadic.f k g gl ge 1 = some (mg, kg)) (hhg : laws_heldDyadic.f k g kg ge 1 = some mg) (pmg : 0 ≤ mg) :
    Calls Try.prog 8 #[.agg #[.int .i64 s0, .slice A0 l0.length c0, .int .i64 e0], .int .i64 a0] w fun e w' => e = .returned (.bool true) ∧ Below w.heap.size w w' := by
  have Z0 := Lib.hid (fun (W : World) (hb : Below w.heap.size w W) => laws_szDyadic.calls s0 A0 c0 l0 e0 1048576 n0 W (Kd.C_below hr0 hb) hc0 hz0)
  have T0 := Lib.hid (fun (W : World) (hb : Below w.heap.size w W) => laws_toDyadic.calls k s0 A0 c0 l0 e0 s0 l0 e0 W (Kd.C_below hr0 hb) hc0 ht0)
  have SP := Lib.hid (fun (W : World) (B0 : Option Addr) (d0 : Nat) (h0 : Kd.C (Kd.int .i64) W B0 l0.length l0) (x0 : l0.length ≤ d0) => spec_RootBelow.calls k s0 B0 d0 l0 e0 a0 g gl ge cd W h0 x0 hsp)
  have IM := Lib.hid (fun (W : World) (B0 : Option Addr) (d0 : Nat) (h0 : Kd.C (Kd.int .i64) W B0 l0.length l0) (x0 : l0.length ≤ d0) => impl_RootBelow.calls s0 B0 d0 l0 e0 a0 g gl ge cd W h0 x0 him)
  have EG := Lib.hid (fun (W : World) (A : Option Addr) (c : Nat) (B : Option Addr) (d : Nat) (h0 : Kd.C (Kd.int .i64) W A gl.length gl) (hc : gl.length ≤ c) (h1 : Kd.C (Kd.int .i64) W B gl.length gl) (hd : gl.length ≤ d) => laws_eqDyadic.calls k g A c gl ge g B d gl ge true W h0 hc h1 hd heg)
  have E0 := Lib.hid (fun (W : World) (A : Option Addr) (c : Nat) (B : Option Addr) (d : Nat) (h0 : Kd.C (Kd.int .i64) W A l0.length l0) (hc : l0.length ≤ c) (h1 : Kd.C (Kd.int .i64) W B l0.length l0) (hd : l0.length ≤ d) => laws_eqDyadic.calls k s0 A c l0 e0 s0 B d l0 e0 true W h0 hc h1 hd he0)
  have M0 := Lib.hid (fun (W : World) (P : Nat → Prop) (u : Value) (hB : Below w.heap.size w W) (ho : Kd.R (Kd.int .i64) 2 W w.heap.size P u l0) => laws_markDyadic.calls k s0 P u l0 e0 1 m0 k0 w W hB ho hm0)
  have MG := Lib.hid (fun (W : World) (P : Nat → Prop) (u : Value) (hB : Below w.heap.size w W) (ho : Kd.R (Kd.int .i64) 2 W w.heap.size P u gl) => laws_markDyadic.calls k g P u gl ge 1 mg kg w W hB ho hmg)
  have HG := Lib.hid (fun (W : World) (A : Option Addr) (n c : Nat) (hn : n = kg.length) (h0 : Kd.C (Kd.int .i64) W A kg.length kg) (hc : kg.length ≤ c) => hn ▸ laws_heldDyadic.calls k g A c kg ge 1 mg W h0 hc hhg)
  have HM : Hid (Mem w (w.alloc (.cells #[.int .i64 s0, .slice A0 l0.length c0, .int .i64 e0] 41)) [.box w.heap.size 41 #[.int .i64 s0, .slice A0 l0.length c0, .int .i64 e0]]) := Lib.hid ((Mem.nil w).box 41 #[.int .i64 s0, .slice A0 l0.length c0, .int .i64 e0])
  clear hr0 hc0 hz0 ht0 hsp him heg he0 hm0 hmg hhg
  go_enter Try.func8, Try.ntmps8
  go_wp2_with fail
  generalize hW0 : (w.alloc (.cells #[.int .i64 s0, .slice A0 l0.length c0, .int .i64 e0] 41)) = W0 at HM ⊢
  clear hW0
  generalize hB1 : w.heap.size = b0 at HM ⊢
  refine (Z0.out _ HM.out.1).mono ?_
  rintro e W11 ⟨rfl, hb⟩
  have HM11 := Lib.hid (Mem.below HM.out hb)
  clear hb HM
  obtain ⟨cb0a, cb0b, cb0e, cb0c⟩ := HM11.out.cells3 (.head _)
  go_wp2_with fail
  refine (T0.out _ HM11.out.1).mono ?_
  rintro e W12 ⟨u12, rfl, hR, hb⟩
  obtain ⟨A12, d12, rfl⟩ := Kd.R_slice hR
  have HM12 := Lib.hid (Mem.row HM11.out hR hb)
  clear hR hb HM11
  clear cb0a cb0b cb0e cb0c
  obtain ⟨cb0a, cb0b, cb0e, cb0c⟩ := HM12.out.cells3 (.tail _ (.head _))
  go_wp2_with fail
  refine (SP.out _ _ _ (HM12.out.reads (.head _)).1 (HM12.out.reads (.head _)).2).mono ?_
  rintro e W13 ⟨u13, rfl, hR, hb⟩
  obtain ⟨A13, d13, rfl⟩ := Kd.R_slice hR
  have HM13 := Lib.hid (Mem.row HM12.out hR hb)
  clear hR hb HM12
  clear cb0a cb0b cb0e cb0c
  obtain ⟨cb0a, cb0b, cb0e, cb0c⟩ := HM13.out.cells3 (.tail _ (.tail _ (.head _)))
  go_wp2_with fail
  have HM14 := Lib.hid (Mem.box HM13.out 44 #[.int .i64 g, .slice A13 gl.length d13, .int .i64 ge])
  clear HM13
  generalize hW : W13.alloc (.cells #[.int .i64 g, .slice A13 gl.length d13, .int .i64 ge] 44) = W14 at HM14 ⊢
  clear hW
  generalize hb : W13.heap.size = b14 at HM14 ⊢
  refine (T0.out _ HM14.out.1).mono ?_
  rintro e W15 ⟨u15, rfl, hR, hb⟩
  obtain ⟨A15, d15, rfl⟩ := Kd.R_slice hR
  have HM15 := Lib.hid (Mem.row HM14.out hR hb)
  clear hR hb HM14
  clear cb0a cb0b cb0e cb0c
  obtain ⟨cb14a, cb14b, cb14e, cb14c⟩ := HM15.out.cells3 (.tail _ (.head _))
  obtain ⟨cb0a, cb0b, cb0e, cb0c⟩ := HM15.out.cells3 (.tail _ (.tail _ (.tail _ (.tail _ (.head _)))))
  go_wp2_with fail
  have HM16 := Lib.hid (Mem.box HM15.out 44 #[.int .i64 s0, .slice A15 l0.length d15, .int .i64 e0])
  clear HM15
  generalize hW : W15.alloc (.cells #[.int .i64 s0, .slice A15 l0.length d15, .int .i64 e0] 44) = W16 at HM16 ⊢
  clear hW
  generalize hb : W15.heap.size = b16 at HM16 ⊢
  refine (IM.out _ _ _ (HM16.out.reads (.tail _ (.head _))).1 (HM16.out.reads (.tail _ (.head _))).2).mono ?_
  rintro e W17 ⟨u17, rfl, hR, hb⟩
  obtain ⟨A17, d17, rfl⟩ := Kd.R_slice hR
  have HM17 := Lib.hid (Mem.row HM16.out hR hb)
  clear hR hb HM16
  clear cb14a cb14b cb14e cb14c cb0a cb0b cb0e cb0c
  obtain ⟨cb16a, cb16b, cb16e, cb16c⟩ := HM17.out.cells3 (.tail _ (.head _))
  obtain ⟨cb14a, cb14b, cb14e, cb14c⟩ := HM17.out.cells3 (.tail _ (.tail _ (.tail _ (.head _))))
  obtain ⟨cb0a, cb0b, cb0e, cb0c⟩ := HM17.out.cells3 (.tail _ (.tail _ (.tail _ (.tail _ (.tail _ (.tail _ (.head _)))))))
  go_wp2_with fail
  have HM18 := Lib.hid (Mem.box HM17.out 44 #[.int .i64 g, .slice A17 gl.length d17, .int .i64 ge])
  clear HM17
  generalize hW : W17.alloc (.cells #[.int .i64 g, .slice A17 gl.length d17, .int .i64 ge] 44) = W18 at HM18 ⊢
  clear hW
  generalize hb : W17.heap.size = b18 at HM18 ⊢
  refine (EG.out _ _ _ _ _ (HM18.out.reads (.tail _ (.head _))).1 (HM18.out.reads (.tail _ (.head _))).2 (HM18.out.reads (.tail _ (.tail _ (.tail _ (.tail _ (.tail _ (.head _))))))).1 (HM18.out.reads (.tail _ (.tail _ (.tail _ (.tail _ (.tail _ (.head _))))))).2).mono ?_
  rintro e W19 ⟨rfl, hb⟩
  have HM19 := Lib.hid (Mem.below HM18.out hb)
  clear hb HM18
  clear cb16a cb16b cb16e cb16c cb14a cb14b cb14e cb14c cb0a cb0b cb0e cb0c
  obtain ⟨cb18a, cb18b, cb18e, cb18c⟩ := HM19.out.cells3 (.head _)
  obtain ⟨cb16a, cb16b, cb16e, cb16c⟩ := HM19.out.cells3 (.tail _ (.tail _ (.head _)))
  obtain ⟨cb14a, cb14b, cb14e, cb14c⟩ := HM19.out.cells3 (.tail _ (.tail _ (.tail _ (.tail _ (.head _)))))
  obtain ⟨cb0a, cb0b, cb0e, cb0c⟩ := HM19.out.cells3 (.tail _ (.tail _ (.tail _ (.tail _ (.tail _ (.tail _ (.tail _ (.head _))))))))
  go_wp2_with fail
  have TX := T0
  go_region_held3 (fun w' => w'.cell? ⟨b16, 0, none⟩ = some (.int .i64 s0) ∧ w'.cell? ⟨b16, 1, none⟩ = some (.slice A15 l0.length d15) ∧ w'.cell? ⟨b16, 2, none⟩ = some (.int .i64 e0) ∧ w'.cell? ⟨b0, 0, none⟩ = some (.int .i64 s0) ∧ w'.cell? ⟨b0, 1, none⟩ = some (.slice A0 l0.length c0) ∧ w'.cell? ⟨b0, 2, none⟩ = some (.int .i64 e0)) (go_keep)
    (first
      | (go_at_call 24; refine (TX.out _ (Mem.drew HM19.out).1).mono ?_; rintro e W20 ⟨u20, rfl, hR, hb⟩; obtain ⟨A20, d20, rfl⟩ := Kd.R_slice hR; have HM20 := Lib.hid (Mem.row (Mem.drew HM19.out) hR hb); obtain ⟨cb18a, cb18b, cb18e, cb18c⟩ := HM20.out.cells3 (.tail _ (.head _)); obtain ⟨cb16a, cb16b, cb16e, cb16c⟩ := HM20.out.cells3 (.tail _ (.tail _ (.tail _ (.head _)))); obtain ⟨cb14a, cb14b, cb14e, cb14c⟩ := HM20.out.cells3 (.tail _ (.tail _ (.tail _ (.tail _ (.tail _ (.head _)))))); obtain ⟨cb0a, cb0b, cb0e, cb0c⟩ := HM20.out.cells3 (.tail _ (.tail _ (.tail _ (.tail _ (.tail _ (.tail _ (.tail _ (.tail _ (.head _))))))))); clear hR hb TX)
      | (go_at_call 26; refine (E0.out _ _ _ _ _ (HM20.out.reads (.tail _ (.tail _ (.tail _ (.tail _ (.head _)))))).1 (HM20.out.reads (.tail _ (.tail _ (.tail _ (.tail _ (.head _)))))).2 (HM20.out.reads (.head _)).1 (HM20.out.reads (.head _)).2).mono ?_; rintro e W21 ⟨rfl, hb⟩; have HM21 := Lib.hid (Mem.below HM20.out hb).tail; obtain ⟨cb18a, cb18b, cb18e, cb18c⟩ := HM21.out.cells3 (.head _); obtain ⟨cb16a, cb16b, cb16e, cb16c⟩ := HM21.out.cells3 (.tail _ (.tail _ (.head _))); obtain ⟨cb14a, cb14b, cb14e, cb14c⟩ := HM21.out.cells3 (.tail _ (.tail _ (.tail _ (.tail _ (.head _))))); obtain ⟨cb0a, cb0b, cb0e, cb0c⟩ := HM21.out.cells3 (.tail _ (.tail _ (.tail _ (.tail _ (.tail _ (.tail _ (.tail _ (.head _)))))))); clear hb))
  go_wp2_with fail
  clear HM19 HM20
  refine (M0.out _ _ _ HM21.out.1 (HM21.out.own (.tail _ (.tail _ (.tail _ (.head _)))))).mono ?_
  rintro e W22 ⟨rfl, hR, hB, hk⟩
  have HM22 := Lib.hid (Mem.mark (bf := [_, _, _]) HM21.out hR hB hk)
  clear hR hB hk HM21
  clear cb18a cb18b cb18e cb18c cb16a cb16b cb16e cb16c cb14a cb14b cb14e cb14c cb0a cb0b cb0e cb0c
  obtain ⟨cb18a, cb18b, cb18e, cb18c⟩ := HM22.out.cells3 (.head _)
  obtain ⟨cb16a, cb16b, cb16e, cb16c⟩ := HM22.out.cells3 (.tail _ (.tail _ (.head _)))
  obtain ⟨cb14a, cb14b, cb14e, cb14c⟩ := HM22.out.cells3 (.tail _ (.tail _ (.tail _ (.tail _ (.head _)))))
  obtain ⟨cb0a, cb0b, cb0e, cb0c⟩ := HM22.out.cells3 (.tail _ (.tail _ (.tail _ (.tail _ (.tail _ (.tail _ (.tail _ (.head _))))))))
  go_wp2_with fail
  refine (EG.out _ _ _ _ _ (HM22.out.reads (.tail _ (.head _))).1 (HM22.out.reads (.tail _ (.head _))).2 (HM22.out.reads (.tail _ (.tail _ (.tail _ (.tail _ (.tail _ (.head _))))))).1 (HM22.out.reads (.tail _ (.tail _ (.tail _ (.tail _ (.tail _ (.head _))))))).2).mono ?_
  rintro e W23 ⟨rfl, hb⟩
  have HM23 := Lib.hid (Mem.below HM22.out hb)
  clear hb HM22
  clear cb18a cb18b cb18e cb18c cb16a cb16b cb16e cb16c cb14a cb14b cb14e cb14c cb0a cb0b cb0e cb0c
  obtain ⟨cb18a, cb18b, cb18e, cb18c⟩ := HM23.out.cells3 (.head _)
  obtain ⟨cb16a, cb16b, cb16e, cb16c⟩ := HM23.out.cells3 (.tail _ (.tail _ (.head _)))
  obtain ⟨cb14a, cb14b, cb14e, cb14c⟩ := HM23.out.cells3 (.tail _ (.tail _ (.tail _ (.tail _ (.head _)))))
  obtain ⟨cb0a, cb0b, cb0e, cb0c⟩ := HM23.out.cells3 (.tail _ (.tail _ (.tail _ (.tail _ (.tail _ (.tail _ (.tail _ (.head _))))))))
  go_wp2_with fail
  refine (MG.out _ _ _ HM23.out.1 (HM23.out.own (.tail _ (.head _)))).mono ?_
  rintro e W24 ⟨rfl, hR, hB, hk⟩
  have HM24 := Lib.hid (Mem.mark (bf := [_]) HM23.out hR hB hk)
  clear hR hB hk HM23
  clear cb18a cb18b cb18e cb18c cb16a cb16b cb16e cb16c cb14a cb14b cb14e cb14c cb0a cb0b cb0e cb0c
  obtain ⟨cb18a, cb18b, cb18e, cb18c⟩ := HM24.out.cells3 (.head _)
  obtain ⟨cb16a, cb16b, cb16e, cb16c⟩ := HM24.out.cells3 (.tail _ (.tail _ (.head _)))
  obtain ⟨cb14a, cb14b, cb14e, cb14c⟩ := HM24.out.cells3 (.tail _ (.tail _ (.tail _ (.tail _ (.head _)))))
  obtain ⟨cb0a, cb0b, cb0e, cb0c⟩ := HM24.out.cells3 (.tail _ (.tail _ (.tail _ (.tail _ (.tail _ (.tail _ (.tail _ (.head _))))))))
  go_wp2_with fail
  refine (HG.out _ _ _ _ (HM24.out.len (.tail _ (.head _))) (HM24.out.reads (.tail _ (.head _))).1 (HM24.out.reads (.tail _ (.head _))).2).mono ?_
  rintro e W25 ⟨rfl, hb⟩
  have HM25 := Lib.hid (Mem.below HM24.out hb)
  clear hb HM24
  clear cb18a cb18b cb18e cb18c cb16a cb16b cb16e cb16c cb14a cb14b cb14e cb14c cb0a cb0b cb0e cb0c
  obtain ⟨cb18a, cb18b, cb18e, cb18c⟩ := HM25.out.cells3 (.head _)
  obtain ⟨cb16a, cb16b, cb16e, cb16c⟩ := HM25.out.cells3 (.tail _ (.tail _ (.head _)))
  obtain ⟨cb14a, cb14b, cb14e, cb14c⟩ := HM25.out.cells3 (.tail _ (.tail _ (.tail _ (.tail _ (.head _)))))
  obtain ⟨cb0a, cb0b, cb0e, cb0c⟩ := HM25.out.cells3 (.tail _ (.tail _ (.tail _ (.tail _ (.tail _ (.tail _ (.tail _ (.head _))))))))
  go_wp2_with fail
  refine (T0.out _ HM25.out.1).mono ?_
  rintro e W26 ⟨u26, rfl, hR, hb⟩
  obtain ⟨A26, d26, rfl⟩ := Kd.R_slice hR
  have HM26 := Lib.hid (Mem.row HM25.out hR hb)
  clear hR hb HM25
  clear cb18a cb18b cb18e cb18c cb16a cb16b cb16e cb16c cb14a cb14b cb14e cb14c cb0a cb0b cb0e cb0c
  obtain ⟨cb18a, cb18b, cb18e, cb18c⟩ := HM26.out.cells3 (.tail _ (.head _))
  obtain ⟨cb16a, cb16b, cb16e, cb16c⟩ := HM26.out.cells3 (.tail _ (.tail _ (.tail _ (.head _))))
  obtain ⟨cb14a, cb14b, cb14e, cb14c⟩ := HM26.out.cells3 (.tail _ (.tail _ (.tail _ (.tail _ (.tail _ (.head _))))))
  obtain ⟨cb0a, cb0b, cb0e, cb0c⟩ := HM26.out.cells3 (.tail _ (.tail _ (.tail _ (.tail _ (.tail _ (.tail _ (.tail _ (.tail _ (.head _)))))))))
  go_wp2_with fail
  refine (IM.out _ _ _ (HM26.out.reads (.head _)).1 (HM26.out.reads (.head _)).2).mono ?_
  rintro e W27 ⟨u27, rfl, hR, hb⟩
  obtain ⟨A27, d27, rfl⟩ := Kd.R_slice hR
  have HM27 := Lib.hid (Mem.row HM26.out hR hb)
  clear hR hb HM26
  clear cb18a cb18b cb18e cb18c cb16a cb16b cb16e cb16c cb14a cb14b cb14e cb14c cb0a cb0b cb0e cb0c
  obtain ⟨cb18a, cb18b, cb18e, cb18c⟩ := HM27.out.cells3 (.tail _ (.tail _ (.head _)))
  obtain ⟨cb16a, cb16b, cb16e, cb16c⟩ := HM27.out.cells3 (.tail _ (.tail _ (.tail _ (.tail _ (.head _)))))
  obtain ⟨cb14a, cb14b, cb14e, cb14c⟩ := HM27.out.cells3 (.tail _ (.tail _ (.tail _ (.tail _ (.tail _ (.tail _ (.head _)))))))
  obtain ⟨cb0a, cb0b, cb0e, cb0c⟩ := HM27.out.cells3 (.tail _ (.tail _ (.tail _ (.tail _ (.tail _ (.tail _ (.tail _ (.tail _ (.tail _ (.head _))))))))))
  go_wp2_with fail
  have HM28 := Lib.hid (Mem.box HM27.out 44 #[.int .i64 g, .slice A27 gl.length d27, .int .i64 ge])
  clear HM27
  generalize hW : W27.alloc (.cells #[.int .i64 g, .slice A27 gl.length d27, .int .i64 ge] 44) = W28 at HM28 ⊢
  clear hW
  generalize hb : W27.heap.size = b28 at HM28 ⊢
  refine (EG.out _ _ _ _ _ (HM28.out.reads (.tail _ (.head _))).1 (HM28.out.reads (.tail _ (.head _))).2 (HM28.out.reads (.tail _ (.tail _ (.tail _ (.tail _ (.tail _ (.tail _ (.tail _ (.tail _ (.head _)))))))))).1 (HM28.out.reads (.tail _ (.tail _ (.tail _ (.tail _ (.tail _ (.tail _ (.tail _ (.tail _ (.head _)))))))))).2).mono ?_
  rintro e W29 ⟨rfl, hb⟩
  have HM29 := Lib.hid (Mem.below HM28.out hb)
  clear hb HM28
  clear cb18a cb18b cb18e cb18c cb16a cb16b cb16e cb16c cb14a cb14b cb14e cb14c cb0a cb0b cb0e cb0c
  obtain ⟨cb28a, cb28b, cb28e, cb28c⟩ := HM29.out.cells3 (.head _)
  obtain ⟨cb18a, cb18b, cb18e, cb18c⟩ := HM29.out.cells3 (.tail _ (.tail _ (.tail _ (.head _))))
  obtain ⟨cb16a, cb16b, cb16e, cb16c⟩ := HM29.out.cells3 (.tail _ (.tail _ (.tail _ (.tail _ (.tail _ (.head _))))))
  obtain ⟨cb14a, cb14b, cb14e, cb14c⟩ := HM29.out.cells3 (.tail _ (.tail _ (.tail _ (.tail _ (.tail _ (.tail _ (.tail _ (.head _))))))))
  obtain ⟨cb0a, cb0b, cb0e, cb0c⟩ := HM29.out.cells3 (.tail _ (.tail _ (.tail _ (.tail _ (.tail _ (.tail _ (.tail _ (.tail _ (.tail _ (.tail _ (.head _)))))))))))
  go_wp2_with fail
  refine (HG.out _ _ _ _ (HM29.out.len (.tail _ (.tail _ (.tail _ (.tail _ (.head _)))))) (HM29.out.reads (.tail _ (.tail _ (.tail _ (.tail _ (.head _)))))).1 (HM29.out.reads (.tail _ (.tail _ (.tail _ (.tail _ (.head _)))))).2).mono ?_
  rintro e W30 ⟨rfl, hb⟩
  have HM30 := Lib.hid (Mem.below HM29.out hb)
  clear hb HM29
  clear cb28a cb28b cb28e cb28c cb18a cb18b cb18e cb18c cb16a cb16b cb16e cb16c cb14a cb14b cb14e cb14c cb0a cb0b cb0e cb0c
  obtain ⟨cb28a, cb28b, cb28e, cb28c⟩ := HM30.out.cells3 (.head _)
  obtain ⟨cb18a, cb18b, cb18e, cb18c⟩ := HM30.out.cells3 (.tail _ (.tail _ (.tail _ (.head _))))
  obtain ⟨cb16a, cb16b, cb16e, cb16c⟩ := HM30.out.cells3 (.tail _ (.tail _ (.tail _ (.tail _ (.tail _ (.head _))))))
  obtain ⟨cb14a, cb14b, cb14e, cb14c⟩ := HM30.out.cells3 (.tail _ (.tail _ (.tail _ (.tail _ (.tail _ (.tail _ (.tail _ (.head _))))))))
  obtain ⟨cb0a, cb0b, cb0e, cb0c⟩ := HM30.out.cells3 (.tail _ (.tail _ (.tail _ (.tail _ (.tail _ (.tail _ (.tail _ (.tail _ (.tail _ (.tail _ (.head _)))))))))))
  go_wp2
  go_ret
  exact ⟨rfl, HM30.out.1⟩
end Go.Proofs.Ytfinbmnjfnajiaa.KRootBelow
end
