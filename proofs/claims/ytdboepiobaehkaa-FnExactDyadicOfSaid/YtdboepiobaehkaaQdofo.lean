/- Lemmas of the claim: Vc. -/
import Derived.Test.YtdboepiobaehkaaQdofn
import Derived.Test.YtdboepiobaehkaaQdofh
import Derived.Test.YtdboepiobaehkaaQdoff
import Derived.Test.YtdboepiobaehkaaQdofj
section
set_option linter.unusedVariables false
set_option linter.unusedSimpArgs false
namespace Go.Proofs.Ytdboepiobaehkaa.Vc
open Go.RowKit Go.Proofs.YtdboepiobaehkaaW.PrintWords Go.Proofs.YtdboepiobaehkaaW.PrintLast Go.Proofs.YtdboepiobaehkaaW.PrintMore Go.Proofs.Ytdboepiobaehkaa.PW Go.Proofs.Ytdboepiobaehkaa.Pc Go.Proofs.Ytdboepiobaehkaa.Pb Go.Proofs.Ytdboepiobaehkaa.Pw Go.Proofs.Ytdboepiobaehkaa.Pt Go.Proofs.Ytdboepiobaehkaa.Ln Go.Proofs.Ytdboepiobaehkaa.Ma Go.Proofs.Ytdboepiobaehkaa.Mh Go.Proofs.Ytdboepiobaehkaa.Mu Go.Proofs.Ytdboepiobaehkaa.Na Go.Proofs.Ytdboepiobaehkaa.Nd Go.Proofs.Ytdboepiobaehkaa.Nf Go.Proofs.Ytdboepiobaehkaa.Qa Go.Proofs.Ytdboepiobaehkaa.Qb Go.Proofs.Ytdboepiobaehkaa.Va Go.Proofs.Ytdboepiobaehkaa.Vb Dg Fp
theorem ofF_dy {x : Nat} (hf : fin Ieee.single x = true) : ofF x = ((dy (zf x) (Wc.expo x)).1, (dy (zf x) (Wc.expo x)).2.1, (dy (zf x) (Wc.expo x)).2.2, 0) := by
  unfold ofF
  rw [if_pos hf, fitD_dy, if_pos]
  rw [isD_dy, decide_eq_true]
  by_cases h0 : zf x = 0
  · exact .inl h0
  · right
    have h1 := zf_bl x
    have h2 := bl_mono (Nat.div_le_self (zf x).natAbs (2 ^ tz (zf x).natAbs))
    have h3 := tz_lt (n := (zf x).natAbs) (by omega)
    have h4 := expo_bd hf
    omega
theorem sDyadicOf {w : World} (x : Nat) (hx : x < 4294967296) :
    Calls Try.prog 27 #[.float .f32 x] w (GivesD w (ofF x).1 (ofF x).2.1 (ofF x).2.2.1 (ofF x).2.2.2) := by
  obtain ⟨W0, hW0⟩ : ∃ W0, W0 = w.alloc (.cells #[.int .i64 0, .slice none 0 0, .int .i64 0] 31) := ⟨_, rfl⟩
  obtain ⟨hb0, hx0, hs0⟩ := boxes1 w (.cells #[.int .i64 0, .slice none 0 0, .int .i64 0] 31) W0 (by rw [hW0]; exact Below.refl _ _)
  have HF := Lib.hid (fun (W : World) => Wd.l01Finite x hx W)
  have HB0 := Lib.hid hb0
  have HX0 := Lib.hid hx0
  have HW := Lib.hid hW0
  obtain ⟨d0, d1, d2, f0, f1, f2, l1⟩ := cellsD hx0
  clear hb0 hx0 hW0
  cases hf : fin Ieee.single x with
  | false =>
    rw [show ofF x = (0, [], 0, 1) by unfold ofF; rw [if_neg (by rw [hf]; simp)]]
    rw [hf] at HF
    go_enter Try.func27, Try.ntmps27
    go_upto_region 1 with fail
    rw [← HW.out]
    clear HW
    go_wp2_with fail
    refine (HF.out _).mono ?_
    rintro en w1 ⟨rfl, n1, rfl⟩
    have hb1 : Below W0.heap.size W0 (W0.drewN n1) := pw_below_drewN (Below.refl _ _) n1
    have hx1 := (hb1.block _ l1).trans HX0.out
    have HB1 := Lib.hid (below_then HB0.out hb1)
    clear d0 d1 d2 f0 f1 f2 hb1
    obtain ⟨d0, d1, d2, f0, f1, f2, l2⟩ := cellsD hx1
    have HX1 := Lib.hid hx1
    clear hx1
    generalize W0.drewN n1 = W1 at *
    go_wp2
    have hst := storedD (s := 0) (x := 0) (u := .slice none 0 0) HX1.out HB1.out (by omega) (Kd.R_nil _ _ _ _ _)
    exact bodyPost_ret (results_ct rfl _ _ w.heap.size 31 #[.int .i64 0, .slice none 0 0, .int .i64 0] (0, 0) _ rfl hst.1 Try.underlying31 rfl sizeD) rfl ⟨_, rfl, hst.2.1, hst.2.2⟩
  | true =>
    rw [ofF_dy hf]
    have HO := Lib.hid (fun (W : World) => sl03Of (w := W) x hx hf)
    rw [hf] at HF
    clear hf
    generalize dy (zf x) (Wc.expo x) = r at *
    obtain ⟨r1, r2, r3⟩ := r
    go_enter Try.func27, Try.ntmps27
    go_upto_region 1 with fail
    rw [← HW.out]
    clear HW
    go_wp2_with fail
    refine (HF.out _).mono ?_
    rintro en w1 ⟨rfl, n1, rfl⟩
    have hb1 : Below W0.heap.size W0 (W0.drewN n1) := pw_below_drewN (Below.refl _ _) n1
    have HB1 := Lib.hid hb1
    clear d0 d1 d2 f0 f1 f2 hb1
    generalize W0.drewN n1 = W1 at *
    go_wp2_with fail
    refine (HO.out _).mono ?_
    rintro en w3 ⟨u, rfl, hR, hb⟩
    obtain ⟨A, c, rfl⟩ := Kd.R_slice hR
    have hb3 := below_then HB1.out hb
    have hx1 := (hb3.block _ l1).trans HX0.out
    obtain ⟨b0, b1, b2, g0, g1, g2, k1⟩ := cellsD hx1
    have HX2 := Lib.hid hx1
    have HB3 := Lib.hid (below_then HB0.out hb3)
    have HR := Lib.hid (Kd.R_lower (base' := w.heap.size) hR (by have h5 := HB1.out.size; have h6 := HB0.out.size; omega))
    clear hR hb hb3 hx1
    go_wp2
    have hst := storedD (s := r1) (x := r3) (u := .slice A r2.length c) HX2.out HB3.out (by omega) HR.out
    exact bodyPost_ret (results_ct rfl _ _ w.heap.size 31 #[.int .i64 r1, .slice A r2.length c, .int .i64 r3] (0, 0) _ rfl hst.1 Try.underlying31 rfl sizeD) rfl ⟨_, rfl, hst.2.1, hst.2.2⟩
theorem ofF_len (x : Nat) : (ofF x).2.1.length ≤ 1048576 := by
  unfold ofF
  split
  · exact fitD_len _ _
  · exact Nat.zero_le _
set_option maxHeartbeats 1600000 in
set_option maxRecDepth 20000 in
theorem walk (w : World) (x : Nat) (hx0 : (Lit.float .f32 x).wf = true) :
    Calls Try.prog 4 #[.float .f32 x] w fun e w' => e = .returned (.bool true) ∧ Below w.heap.size w w' := by
  have hx : x < 4294967296 := by simpa [Lit.wf] using hx0
  have SP := Lib.hid (fun (W : World) => sDyadicOf (w := W) x hx)
  have IM := Lib.hid (fun (W : World) => iDyadicOf (w := W) x hx)
  have hgl := ofF_len x
  generalize ofF x = r at *
  obtain ⟨g, gl, ge, cd⟩ := r
  dsimp only at hgl
  obtain ⟨K1, heg⟩ := (eqDyadic_self g gl ge (by omega)).rounds
  obtain ⟨K2, hmg⟩ := (Lk.marksD g gl ge 1 (by decide) (by decide) (by omega)).rounds
  obtain ⟨K3, hhg⟩ := (sheldD g gl.length ge (by omega)).rounds
  have EG := Lib.hid (fun (W : World) (A : Option Addr) (c : Nat) (B : Option Addr) (d : Nat) (h0 : Kd.C (Kd.int .i64) W A gl.length gl) (hc : gl.length ≤ c) (h1 : Kd.C (Kd.int .i64) W B gl.length gl) (hd : gl.length ≤ d) => laws_eqDyadic.calls K1 g A c gl ge g B d gl ge true W h0 hc h1 hd heg)
  obtain ⟨mg, hmgv⟩ : ∃ mg, mg = 1 + (gl.length : Int) := ⟨_, rfl⟩
  rw [← hmgv] at hmg hhg
  have pmg : 0 ≤ mg := by omega
  generalize Px.mks 1 gl.length = kg at *
  have MG := Lib.hid (fun (W : World) (P : Nat → Prop) (u : Value) (hB : Below w.heap.size w W) (ho : Kd.R (Kd.int .i64) 2 W w.heap.size P u gl) => laws_markDyadic.calls K2 g P u gl ge 1 mg kg w W hB ho hmg)
  have HG := Lib.hid (fun (W : World) (A : Option Addr) (n c : Nat) (hn : n = kg.length) (h0 : Kd.C (Kd.int .i64) W A kg.length kg) (hc : kg.length ≤ c) => hn ▸ laws_heldDyadic.calls K3 g A c kg ge 1 mg W h0 hc hhg)
  have HM := Lib.hid (Mem.nil w)
  clear heg hmg hhg hmgv hgl hx hx0
  go_enter Try.func4, Try.ntmps4
  go_wp2_with fail
  refine (SP.out _).mono ?_
  rintro e W1 ⟨u1, rfl, hR, hb⟩
  obtain ⟨A1, d1, rfl⟩ := Kd.R_slice hR
  have HM1 := Lib.hid (Mem.row HM.out hR hb)
  clear hR hb HM
  go_wp2_with fail
  have HM2 := Lib.hid (Mem.box HM1.out 31 #[.int .i64 g, .slice A1 gl.length d1, .int .i64 ge])
  clear HM1
  generalize hW : W1.alloc (.cells #[.int .i64 g, .slice A1 gl.length d1, .int .i64 ge] 31) = W2 at HM2 ⊢
  clear hW
  generalize hb : W1.heap.size = b2 at HM2 ⊢
  refine (IM.out _).mono ?_
  rintro e W3 ⟨u3, rfl, hR, hb⟩
  obtain ⟨A3, d3, rfl⟩ := Kd.R_slice hR
  have HM3 := Lib.hid (Mem.row HM2.out hR hb)
  clear hR hb HM2
  obtain ⟨c2a, c2b, c2e, c2c⟩ := HM3.out.cells3 (.tail _ (.head _))
  go_wp2_with fail
  have HM4 := Lib.hid (Mem.box HM3.out 31 #[.int .i64 g, .slice A3 gl.length d3, .int .i64 ge])
  clear HM3
  generalize hW : W3.alloc (.cells #[.int .i64 g, .slice A3 gl.length d3, .int .i64 ge] 31) = W4 at HM4 ⊢
  clear hW
  generalize hb : W3.heap.size = b4 at HM4 ⊢
  refine (EG.out _ _ _ _ _ (HM4.out.reads (.tail _ (.head _))).1 (HM4.out.reads (.tail _ (.head _))).2 (HM4.out.reads (.tail _ (.tail _ (.tail _ (.head _))))).1 (HM4.out.reads (.tail _ (.tail _ (.tail _ (.head _))))).2).mono ?_
  rintro e W5 ⟨rfl, hb⟩
  have HM5 := Lib.hid (Mem.below HM4.out hb)
  clear hb HM4
  clear c2a c2b c2e c2c
  obtain ⟨c4a, c4b, c4e, c4c⟩ := HM5.out.cells3 (.head _)
  obtain ⟨c2a, c2b, c2e, c2c⟩ := HM5.out.cells3 (.tail _ (.tail _ (.head _)))
  go_wp2_with fail
  refine (MG.out _ _ _ HM5.out.1 (HM5.out.own (.tail _ (.head _)))).mono ?_
  rintro e W6 ⟨rfl, hR, hB, hk⟩
  have HM6 := Lib.hid (Mem.mark (bf := [_]) HM5.out hR hB hk)
  clear hR hB hk HM5
  clear c4a c4b c4e c4c c2a c2b c2e c2c
  obtain ⟨c4a, c4b, c4e, c4c⟩ := HM6.out.cells3 (.head _)
  obtain ⟨c2a, c2b, c2e, c2c⟩ := HM6.out.cells3 (.tail _ (.tail _ (.head _)))
  go_wp2_with fail
  refine (HG.out _ _ _ _ (HM6.out.len (.tail _ (.head _))) (HM6.out.reads (.tail _ (.head _))).1 (HM6.out.reads (.tail _ (.head _))).2).mono ?_
  rintro e W7 ⟨rfl, hb⟩
  have HM7 := Lib.hid (Mem.below HM6.out hb)
  clear hb HM6
  clear c4a c4b c4e c4c c2a c2b c2e c2c
  obtain ⟨c4a, c4b, c4e, c4c⟩ := HM7.out.cells3 (.head _)
  obtain ⟨c2a, c2b, c2e, c2c⟩ := HM7.out.cells3 (.tail _ (.tail _ (.head _)))
  go_wp2_with fail
  refine (IM.out _).mono ?_
  rintro e W8 ⟨u8, rfl, hR, hb⟩
  obtain ⟨A8, d8, rfl⟩ := Kd.R_slice hR
  have HM8 := Lib.hid (Mem.row HM7.out hR hb)
  clear hR hb HM7
  clear c4a c4b c4e c4c c2a c2b c2e c2c
  obtain ⟨c4a, c4b, c4e, c4c⟩ := HM8.out.cells3 (.tail _ (.head _))
  obtain ⟨c2a, c2b, c2e, c2c⟩ := HM8.out.cells3 (.tail _ (.tail _ (.tail _ (.head _))))
  go_wp2_with fail
  have HM9 := Lib.hid (Mem.box HM8.out 31 #[.int .i64 g, .slice A8 gl.length d8, .int .i64 ge])
  clear HM8
  generalize hW : W8.alloc (.cells #[.int .i64 g, .slice A8 gl.length d8, .int .i64 ge] 31) = W9 at HM9 ⊢
  clear hW
  generalize hb : W8.heap.size = b9 at HM9 ⊢
  refine (EG.out _ _ _ _ _ (HM9.out.reads (.tail _ (.head _))).1 (HM9.out.reads (.tail _ (.head _))).2 (HM9.out.reads (.tail _ (.tail _ (.tail _ (.tail _ (.tail _ (.head _))))))).1 (HM9.out.reads (.tail _ (.tail _ (.tail _ (.tail _ (.tail _ (.head _))))))).2).mono ?_
  rintro e W10 ⟨rfl, hb⟩
  have HM10 := Lib.hid (Mem.below HM9.out hb)
  clear hb HM9
  clear c4a c4b c4e c4c c2a c2b c2e c2c
  obtain ⟨c4a, c4b, c4e, c4c⟩ := HM10.out.cells3 (.tail _ (.tail _ (.head _)))
  go_wp2_with fail
  refine (HG.out _ _ _ _ (HM10.out.len (.tail _ (.tail _ (.tail _ (.head _))))) (HM10.out.reads (.tail _ (.tail _ (.tail _ (.head _))))).1 (HM10.out.reads (.tail _ (.tail _ (.tail _ (.head _))))).2).mono ?_
  rintro e W11 ⟨rfl, hb⟩
  have HM11 := Lib.hid (Mem.below HM10.out hb)
  clear hb HM10
  go_wp2
  go_ret
  exact ⟨rfl, HM11.out.1⟩
end Go.Proofs.Ytdboepiobaehkaa.Vc
end
