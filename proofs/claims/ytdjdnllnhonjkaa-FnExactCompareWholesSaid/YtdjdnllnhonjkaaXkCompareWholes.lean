/- Walk: two whole numbers compared. -/
import Derived.Test.YtdjdnllnhonjkaaMr
set_option linter.unusedVariables false
set_option linter.unusedSimpArgs false
namespace Go.Proofs.Ytdjdnllnhonjkaa.PW
open Go.RowKit Go.Proofs.YtdjdnllnhonjkaaW.PrintWords Go.Proofs.Ytdjdnllnhonjkaa.Pc Go.Proofs.Ytdjdnllnhonjkaa.Pb Go.Proofs.Ytdjdnllnhonjkaa.Pw Go.Proofs.Ytdjdnllnhonjkaa.Ma Go.Proofs.Ytdjdnllnhonjkaa.Mb Go.Proofs.Ytdjdnllnhonjkaa.Mc Go.Proofs.Ytdjdnllnhonjkaa.Md Go.Proofs.Ytdjdnllnhonjkaa.Me Go.Proofs.Ytdjdnllnhonjkaa.Mg Go.Proofs.Ytdjdnllnhonjkaa.Mh Dg

def impl_CompareWholes.f (a0_0 : Int) (l0_1 : List Int) (a1_0 : Int) (l1_1 : List Int) : Option (Int × Int) := if isW a0_0 l0_1 = true ∧ isW a1_0 l1_1 = true then some (Pm.sgn (wv a0_0 l0_1 - wv a1_0 l1_1), 0) else some (0, 1)

set_option maxHeartbeats 1600000 in
set_option maxRecDepth 20000 in
theorem impl_CompareWholes.calls (a0_0 : Int) (A0_1 : Option Addr) (c0_1 : Nat) (l0_1 : List Int) (a1_0 : Int) (A1_1 : Option Addr) (c1_1 : Nat) (l1_1 : List Int) (r1 : Int) (r2 : Int) (w : World) (hr0_1 : Kd.C (Kd.int .i64) w A0_1 l0_1.length l0_1) (hc0_1 : l0_1.length ≤ c0_1) (hr1_1 : Kd.C (Kd.int .i64) w A1_1 l1_1.length l1_1) (hc1_1 : l1_1.length ≤ c1_1) (h : impl_CompareWholes.f a0_0 l0_1 a1_0 l1_1 = some (r1, r2)) :
    Calls Try.prog 27 #[.agg #[.int .i64 a0_0, .slice A0_1 l0_1.length c0_1], .agg #[.int .i64 a1_0, .slice A1_1 l1_1.length c1_1]] w fun e w' => e = .returned (.tuple #[.int .i64 r1, .int .i64 r2]) ∧ Below w.heap.size w w' := by
  unfold impl_CompareWholes.f at h
  have hI := fun (W : World) (hb : Below w.heap.size w W) => cIs (s := a0_0) (C_at hr0_1 hb) hc0_1 hr0_1.2.1
  have hJ := fun (W : World) (hb : Below w.heap.size w W) => cIs (s := a1_0) (C_at hr1_1 hb) hc1_1 hr1_1.2.1
  have HJ := Lib.hid hJ
  have HI := Lib.hid hI
  clear hI hJ
  have hbw : ∀ W, Below (w.heap.size + 2) ((w.alloc (.cells #[.int .i64 a0_0, .slice A0_1 l0_1.length c0_1] 28)).alloc (.cells #[.int .i64 a1_0, .slice A1_1 l1_1.length c1_1] 28)) W → Below w.heap.size w W ∧ W.cell? ⟨w.heap.size, 0, none⟩ = some (.int .i64 a0_0) ∧ W.cell? ⟨w.heap.size, 1, none⟩ = some (.slice A0_1 l0_1.length c0_1) ∧ W.cell? ⟨w.heap.size + 1, 0, none⟩ = some (.int .i64 a1_0) ∧ W.cell? ⟨w.heap.size + 1, 1, none⟩ = some (.slice A1_1 l1_1.length c1_1) ∧ w.heap.size + 2 ≤ W.heap.size := by
    intro W hW
    have e1 : (w.alloc (.cells #[.int .i64 a0_0, .slice A0_1 l0_1.length c0_1] 28)).heap.size = w.heap.size + 1 := by simp
    have hx := (hW.block w.heap.size (by omega)).trans (((Ma.below_alloc (w.alloc (.cells #[.int .i64 a0_0, .slice A0_1 l0_1.length c0_1] 28)) _).block w.heap.size (by simp)).trans (heap_alloc_new w _))
    have hy := (hW.block (w.heap.size + 1) (by omega)).trans (show _ = some (.cells #[.int .i64 a1_0, .slice A1_1 l1_1.length c1_1] 28 (0, 0)) by have := heap_alloc_new (w.alloc (.cells #[.int .i64 a0_0, .slice A0_1 l0_1.length c0_1] 28)) (.cells #[.int .i64 a1_0, .slice A1_1 l1_1.length c1_1] 28); rw [e1] at this; exact this)
    exact ⟨(below_then (Ma.below_alloc w _) (Ma.below_alloc _ _)).trans (hW.mono (by omega)), blk_cell hx 0, blk_cell hx 1, blk_cell hy 0, blk_cell hy 1, by have := hW.size; simp at this; exact this⟩
  have HBW := Lib.hid hbw
  clear hbw
  cases hw : isW a0_0 l0_1 with
  | false =>
    rw [hw] at h HI
    rw [if_neg (by simp)] at h
    obtain ⟨rfl, rfl⟩ := Prod.mk.inj (Option.some.inj h)
    clear h hw hr0_1 hc0_1 hr1_1 hc1_1 HJ
    go_enter Try.func27, Try.ntmps27
    go_wp2_with fail
    refine (HI.out _ (HBW.out _ (Below.refl _ _)).1).mono ?_
    rintro e w1 ⟨rfl, hb⟩
    have HB1 := Lib.hid (HBW.out _ (hb.mono (by simp))).1
    clear hb
    go_wp2
    go_ret2
    exact ⟨rfl, HB1.out⟩
  | true =>
    rw [hw] at h HI
    cases hx : isW a1_0 l1_1 with
    | false =>
      rw [hx] at h HJ
      rw [if_neg (by simp)] at h
      obtain ⟨rfl, rfl⟩ := Prod.mk.inj (Option.some.inj h)
      clear h hw hx hr0_1 hc0_1 hr1_1 hc1_1
      go_enter Try.func27, Try.ntmps27
      go_wp2_with fail
      refine (HI.out _ (HBW.out _ (Below.refl _ _)).1).mono ?_
      rintro e w1 ⟨rfl, hb⟩
      obtain ⟨h1, c0, c1, d0, d1, hs⟩ := HBW.out _ (hb.mono (by simp))
      have HB1 := Lib.hid h1
      have HB2 := Lib.hid (hb.mono (B' := w.heap.size + 2) (by simp))
      clear hb h1
      go_wp2_with fail
      refine (HJ.out _ HB1.out).mono ?_
      rintro e w2 ⟨rfl, hb⟩
      have HB3 := Lib.hid (HB1.out.trans (hb.mono (by omega)))
      clear hb
      go_wp2
      go_ret2
      exact ⟨rfl, HB3.out⟩
    | true =>
      rw [hx] at h HJ
      rw [if_pos ⟨rfl, rfl⟩] at h
      obtain ⟨rfl, rfl⟩ := Prod.mk.inj (Option.some.inj h)
      have b0 := (isW_eq hw).2.2
      have b1 := (isW_eq hx).2.2
      have hT := fun (W : World) (hb : Below w.heap.size w W) => cBig (c := c0_1) (C_at hr0_1 hb) hw
      have hU := fun (W : World) (hb : Below w.heap.size w W) => cBig (c := c1_1) (C_at hr1_1 hb) hx
      have HT := Lib.hid hT
      have HU := Lib.hid hU
      have hC := fun (W : World) (g g4 : Nat) (hz : Z W g (wv a0_0 l0_1)) (hz4 : Z W g4 (wv a1_0 l1_1)) => Mi.cmp hz hz4 (by omega) (by omega)
      have HC := Lib.hid hC
      clear hC b0 b1
      clear hT hU h hw hx hr0_1 hc0_1 hr1_1 hc1_1
      go_enter Try.func27, Try.ntmps27
      go_wp2_with fail
      refine (HI.out _ (HBW.out _ (Below.refl _ _)).1).mono ?_
      rintro e w1 ⟨rfl, hb⟩
      obtain ⟨h1, c0, c1, d0, d1, hs⟩ := HBW.out _ (hb.mono (by simp))
      have HB1 := Lib.hid h1
      have HB2 := Lib.hid (hb.mono (B' := w.heap.size + 2) (by simp))
      clear hb h1
      go_wp2_with fail
      refine (HJ.out _ HB1.out).mono ?_
      rintro e w2 ⟨rfl, hb⟩
      have HB3 := Lib.hid (HB2.out.trans (hb.mono hs))
      clear hb HB1 HB2 c0 c1 d0 d1 hs
      obtain ⟨h1, c0, c1, d0, d1, hs⟩ := HBW.out _ HB3.out
      have HB4 := Lib.hid h1
      clear h1
      go_wp2_with fail
      go_region_law (first
        | (go_simp; go_at_call 62; refine (HT.out _ HB4.out.drew).mono ?_; rintro e w3 ⟨g, rfl, hz, hg, hb⟩; obtain ⟨h1, x0, x1, y0, y1, hs3⟩ := HBW.out w3 (HB3.out.drew.trans (hb.mono hs)); have HB5 := Lib.hid h1; have HZ := Lib.hid hz; have HB6 := Lib.hid (HB3.out.drew.trans (hb.mono hs)); clear hz hg hb h1 HT)
        | (go_simp; go_at_call 62; refine (HU.out _ HB5.out).mono ?_; rintro e w4 ⟨g4, rfl, hz, hg, hb⟩; have HZ1 := Lib.hid (HZ.out.below hb); have HZ2 := Lib.hid hz; have HB7 := Lib.hid (HBW.out w4 (HB6.out.trans (hb.mono hs3))).1; clear hz hg hb HU)
        | (go_simp; go_at_call 72; refine (HC.out _ _ _ HZ1.out HZ2.out).mono ?_; rintro e w5 ⟨rfl, n5, rfl⟩))
      all_goals go_wp2
      all_goals go_ret2
      all_goals exact ⟨rfl, below_then HB7.out (below_drawn n5)⟩
end Go.Proofs.Ytdjdnllnhonjkaa.PW
