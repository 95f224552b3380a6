/- Walk: two whole numbers added. -/
import Derived.Test.YtdjdnllnhonjkaaMu
set_option linter.unusedVariables false
set_option linter.unusedSimpArgs false
namespace Go.Proofs.Ytdjdnllnhonjkaa.PW
open Go.RowKit Go.Proofs.YtdjdnllnhonjkaaW.PrintWords Go.Proofs.Ytdjdnllnhonjkaa.Pc Go.Proofs.Ytdjdnllnhonjkaa.Pb Go.Proofs.Ytdjdnllnhonjkaa.Pw Go.Proofs.Ytdjdnllnhonjkaa.Ma Go.Proofs.Ytdjdnllnhonjkaa.Mb Go.Proofs.Ytdjdnllnhonjkaa.Mc Go.Proofs.Ytdjdnllnhonjkaa.Md Go.Proofs.Ytdjdnllnhonjkaa.Me Go.Proofs.Ytdjdnllnhonjkaa.Mg Go.Proofs.Ytdjdnllnhonjkaa.Mh Go.Proofs.Ytdjdnllnhonjkaa.Mn Go.Proofs.Ytdjdnllnhonjkaa.Mq Go.Proofs.Ytdjdnllnhonjkaa.Mr Go.Proofs.Ytdjdnllnhonjkaa.Mu Dg

def impl_AddWholes.f (a0_0 : Int) (l0_1 : List Int) (a1_0 : Int) (l1_1 : List Int) : Option (Int × List Int × Int) := some (both a0_0 l0_1 a1_0 l1_1 (wv a0_0 l0_1 + wv a1_0 l1_1))

set_option maxHeartbeats 1600000 in
set_option maxRecDepth 20000 in
theorem impl_AddWholes.calls (a0_0 : Int) (A0_1 : Option Addr) (c0_1 : Nat) (l0_1 : List Int) (a1_0 : Int) (A1_1 : Option Addr) (c1_1 : Nat) (l1_1 : List Int) (r1 : Int) (r2 : List Int) (r3 : Int) (w : World) (hr0_1 : Kd.C (Kd.int .i64) w A0_1 l0_1.length l0_1) (hc0_1 : l0_1.length ≤ c0_1) (hr1_1 : Kd.C (Kd.int .i64) w A1_1 l1_1.length l1_1) (hc1_1 : l1_1.length ≤ c1_1) (h : impl_AddWholes.f a0_0 l0_1 a1_0 l1_1 = some (r1, r2, r3)) :
    Calls Try.prog 37 #[.agg #[.int .i64 a0_0, .slice A0_1 l0_1.length c0_1], .agg #[.int .i64 a1_0, .slice A1_1 l1_1.length c1_1]] w fun e w' => ∃ v1_ : Value, e = .returned (.tuple #[.agg #[.int .i64 r1, v1_], .int .i64 r3]) ∧ Kd.R (Kd.int .i64) 2 w' w.heap.size (fun _ => True) v1_ r2 ∧ Below w.heap.size w w' := by
  unfold impl_AddWholes.f both at h
  have hI := fun (W : World) (hb : Below w.heap.size w W) => cIs (s := a0_0) (C_at hr0_1 hb) hc0_1 hr0_1.2.1
  have hJ := fun (W : World) (hb : Below w.heap.size w W) => cIs (s := a1_0) (C_at hr1_1 hb) hc1_1 hr1_1.2.1
  have HJ := Lib.hid hJ
  have HI := Lib.hid hI
  clear hI hJ
  have HBW := Lib.hid (threeBoxes w a0_0 A0_1 l0_1.length c0_1 a1_0 A1_1 l1_1.length c1_1)
  cases hw : isW a0_0 l0_1 with
  | false =>
    rw [hw] at h HI
    rw [if_neg (by simp)] at h
    obtain ⟨rfl, h2⟩ := Prod.mk.inj (Option.some.inj h)
    obtain ⟨rfl, rfl⟩ := Prod.mk.inj h2
    clear h h2 hw hr0_1 hc0_1 hr1_1 hc1_1 HJ
    go_enter Try.func37, Try.ntmps37
    go_wp2_with fail
    refine (HI.out _ (HBW.out _ (Below.refl _ _)).1).mono ?_
    rintro e w1 ⟨rfl, hb⟩
    obtain ⟨h1', c0, c1, d0, d1, ⟨hs, i0, i1, i2⟩, hbx⟩ := HBW.out _ (hb.mono (by simp))
    have HB1 := Lib.hid h1'
    have HBX := Lib.hid hbx
    obtain ⟨e0, e1, f0, f1⟩ := cellsOf hbx
    clear hb h1' hbx
    go_wp2
    have hst := storedW (s := 0) (u := .slice none 0 0) HBX.out HB1.out (by omega) (Kd.R_nil _ _ _ _ _)
    exact bodyPost_ret (results_ct rfl _ _ (w.heap.size + 1 + 1) 28 #[.int .i64 0, .slice none 0 0] (0, 0) _ rfl hst.1 Try.underlying28 rfl sizeW) rfl ⟨_, rfl, hst.2.1, hst.2.2⟩
  | true =>
    rw [hw] at h HI
    cases hx : isW a1_0 l1_1 with
    | false =>
      rw [hx] at h HJ
      rw [if_neg (by simp)] at h
      obtain ⟨rfl, h2⟩ := Prod.mk.inj (Option.some.inj h)
      obtain ⟨rfl, rfl⟩ := Prod.mk.inj h2
      clear h h2 hw hx hr0_1 hc0_1 hr1_1 hc1_1
      go_enter Try.func37, Try.ntmps37
      go_wp2_with fail
      refine (HI.out _ (HBW.out _ (Below.refl _ _)).1).mono ?_
      rintro e w1 ⟨rfl, hb⟩
      obtain ⟨h1', c0, c1, d0, d1, ⟨hs, i0, i1, i2⟩, hbx⟩ := HBW.out _ (hb.mono (by simp))
      have HB1 := Lib.hid h1'
      have HB2 := Lib.hid (hb.mono (B' := w.heap.size + 3) (by simp))
      clear hb h1' hbx
      go_wp2_with fail
      refine (HJ.out _ HB1.out).mono ?_
      rintro e w2 ⟨rfl, hb⟩
      have HB3 := Lib.hid (HB2.out.trans (hb.mono hs))
      clear hb HB1 HB2 c0 c1 d0 d1 hs i0 i1 i2
      obtain ⟨h1', c0, c1, d0, d1, ⟨hs, i0, i1, i2⟩, hbx⟩ := HBW.out _ HB3.out
      have HB4 := Lib.hid h1'
      have HBX := Lib.hid hbx
      obtain ⟨e0, e1, f0, f1⟩ := cellsOf hbx
      clear h1' hbx c0 c1 d0 d1 HB3
      go_wp2
      have hst := storedW (s := 0) (u := .slice none 0 0) HBX.out HB4.out (by omega) (Kd.R_nil _ _ _ _ _)
      exact bodyPost_ret (results_ct rfl _ _ (w.heap.size + 1 + 1) 28 #[.int .i64 0, .slice none 0 0] (0, 0) _ rfl hst.1 Try.underlying28 rfl sizeW) rfl ⟨_, rfl, hst.2.1, hst.2.2⟩
    | true =>
      rw [hx] at h HJ
      rw [if_pos ⟨rfl, rfl⟩] at h
      have h1 := Option.some.inj h
      have HE := Lib.hid h1
      have b0 := (isW_eq hw).2.2
      have b1 := (isW_eq hx).2.2
      have hT := fun (W : World) (hb : Below w.heap.size w W) => cBig (c := c0_1) (C_at hr0_1 hb) hw
      have hU := fun (W : World) (hb : Below w.heap.size w W) => cBig (c := c1_1) (C_at hr1_1 hb) hx
      have HT := Lib.hid hT
      have HU := Lib.hid hU
      have hC := fun (W : World) (p g g4 : Nat) (hp : Blk W p) (hz : Z W g (wv a0_0 l0_1)) (hz4 : Z W g4 (wv a1_0 l1_1)) => Mj.add hp hz hz4 (by omega) (by omega)
      have hW := fun (W : World) (p : Nat) (hz : Z W p (wv a0_0 l0_1 + wv a1_0 l1_1)) => Mr.whole hz (by have := bl_add_natAbs (wv a0_0 l0_1) (wv a1_0 l1_1); omega)
      rw [h1] at hW
      have HC := Lib.hid hC
      have HW := Lib.hid hW
      clear hC hW b0 b1 h1 HE
      clear hT hU h hw hx hr0_1 hc0_1 hr1_1 hc1_1
      go_enter Try.func37, Try.ntmps37
      go_wp2_with fail
      refine (HI.out _ (HBW.out _ (Below.refl _ _)).1).mono ?_
      rintro e w1 ⟨rfl, hb⟩
      obtain ⟨h1', c0, c1, d0, d1, ⟨hs, i0, i1, i2⟩, hbx⟩ := HBW.out _ (hb.mono (by simp))
      have HB1 := Lib.hid h1'
      have HB2 := Lib.hid (hb.mono (B' := w.heap.size + 3) (by simp))
      have HBX := Lib.hid hbx
      clear hb h1' hbx
      go_wp2_with fail
      refine (HJ.out _ HB1.out).mono ?_
      rintro e w2 ⟨rfl, hb⟩
      have HB3 := Lib.hid (HB2.out.trans (hb.mono hs))
      clear hb HB1 HB2 c0 c1 d0 d1 hs i0 i1 i2
      obtain ⟨h1', c0, c1, d0, d1, ⟨hs, i0, i1, i2⟩, hbx⟩ := HBW.out _ HB3.out
      have HB4 := Lib.hid h1'
      clear h1'
      go_wp2_with fail
      go_region_law (first
        | (go_simp; go_at_call 62; refine (HT.out _ (HBW.out _ (by first | exact HB3.out.drew | exact (HB3.out.alloc hs _).drew | exact HB3.out.drew.alloc hs _)).1).mono ?_; rintro e w3 ⟨g, rfl, hz, hg, hb⟩; have hX := Below.trans (show Below (w.heap.size + 3) _ _ by first | exact HB3.out.drew | exact (HB3.out.alloc hs _).drew | exact HB3.out.drew.alloc hs _) (hb.mono (by first | exact hs | (simp; omega))); obtain ⟨h1', x0, x1, y0, y1, ⟨hs3, j0, j1, j2⟩, hbx3⟩ := HBW.out w3 hX; have HX3 := Lib.hid hX; have HZ := Lib.hid hz; have HGa := Lib.hid hg; have HLa := Lib.hid hz.lt; have HK3 := Lib.hid (fun p (hp : Blk _ p) => hp.below hb); clear hz hg hb h1' hX hbx3 HT)
        | (go_simp; go_at_call 62; refine (HU.out _ (HBW.out _ (by first | exact HX3.out | exact HX3.out.alloc hs3 _)).1).mono ?_; rintro e w4 ⟨g4, rfl, hz, hg, hb⟩; have hX := Below.trans (show Below (w.heap.size + 3) _ _ by first | exact HX3.out | exact HX3.out.alloc hs3 _) (hb.mono (by first | exact hs3 | (simp; omega))); obtain ⟨h1', xx0, xx1, yy0, yy1, ⟨hs4, k0, k1, k2⟩, hbx4⟩ := HBW.out w4 hX; have HX4 := Lib.hid hX; have HZ1 := Lib.hid (show Z w4 g _ from (by first | exact HZ.out.below hb | exact (HZ.out.below (Ma.below_alloc _ _)).below hb)); have HZ2 := Lib.hid hz; have HGb := Lib.hid hg; have HLb := Lib.hid hz.lt; have HSb := Lib.hid hb.size; have HK4 := Lib.hid (fun p (hp : Blk _ p) => hp.below hb); clear hz hg hb h1' hX hbx4 HU HZ)
        | (go_simp; go_at_call 84; refine (HC.out _ _ _ _ (by first | exact HK4.out _ (HK3.out _ ((Z.new _).blk.below (Below.refl _ _).drew)) | exact HK4.out _ (HK3.out _ (Z.new _).blk) | exact HK4.out _ (Z.new _).blk | exact (Z.new _).blk) (by first | exact HZ1.out | exact HZ1.out.below (Ma.below_alloc _ _)) (by first | exact HZ2.out | exact HZ2.out.below (Ma.below_alloc _ _))).mono ?_; rintro e w5 ⟨rfl, hz, hg⟩; have hX := below_put (show Below (w.heap.size + 3) _ _ by first | exact HX4.out | exact HX4.out.alloc hs4 _) hg (by omega) (by first | exact hs4 | (simp; omega)); obtain ⟨h1', z0, z1, zz0, zz1, ⟨hs5, l0, l1, l2⟩, hbx5⟩ := HBW.out w5 hX; have HX5 := Lib.hid hX; have HZ3 := Lib.hid hz; clear hz hg h1' hX hbx5)
        | (go_simp; go_at_call 66; refine (HW.out _ _ HZ3.out).mono ?_; rintro e w6 ⟨u, rfl, hR, hb⟩; obtain ⟨A, c, rfl⟩ := Kd.R_slice hR; have hX := HX5.out.trans (hb.mono hs5); obtain ⟨h1', o0, o1, oo0, oo1, ⟨hs6, m0, m1, m2⟩, hbx6⟩ := HBW.out w6 hX; obtain ⟨e0, e1, f0, f1⟩ := cellsOf hbx6; have HB6 := Lib.hid h1'; have HBX := Lib.hid hbx6; have HR := Lib.hid (Kd.R_lower (base' := w.heap.size) hR (by omega)); clear hR hb h1' hX hbx6))
      all_goals
        have hst := storedW (s := r1) (u := .slice A r2.length c) HBX.out HB6.out (by omega) HR.out
        rename_i hK
        refine hK _ _ (wp_ret ?_)
        show bodyPost Try.prog Try.f37 _ Exit.ret _ _
        exact bodyPost_ret (results_ct rfl _ _ (w.heap.size + 1 + 1) 28 #[.int .i64 r1, .slice A r2.length c] (0, 0) _ rfl hst.1 Try.underlying28 rfl sizeW) rfl ⟨_, rfl, hst.2.1, hst.2.2⟩
end Go.Proofs.Ytdjdnllnhonjkaa.PW
