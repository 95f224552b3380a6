/- Lemmas of the claim: PWx46, PWx47, PWx48, PWx49, Px, PWx5, Pt, Py, Pz, Ss, Pv, Pu, Ps, PWx109, Lk. -/
import Derived.Test.YtfinbmnjfnajiaaQRWf
import Derived.Test.YtfinbmnjfnajiaaQRWg
import Derived.Test.YtfinbmnjfnajiaaQRWa
section
namespace Go.Proofs.Ytfinbmnjfnajiaa.PW
open Go.RowKit Go.Proofs.YtfinbmnjfnajiaaW.PrintWords Go.Proofs.YtfinbmnjfnajiaaW.PrintLast Go.Proofs.YtfinbmnjfnajiaaW.PrintMore
attribute [local go_sem] max2_int min2_int max_two min_two max_three min_three max_four min_four   -- for this text's walks alone
set_option linter.unusedVariables false
set_option linter.unusedSimpArgs false
def laws_markInt64S.l0 : Nat → List Int → Int → Int → Option (Int × List Int)
  | 0, _, _, _ => none
  | k + 1, x0, x1, x5 => if x5 < (x0.length : Int) then (if 0 ≤ x5 then (laws_markInt64S.l0 k (x0.set (x5 : Int).toNat x1) (wrap64 (x1 + 1)) (wrap64 (x5 + 1))) else (none)) else (some (x1, x0))
def laws_markInt64S.f (k : Nat) (l0 : List Int) (a1 : Int) : Option (Int × List Int) := laws_markInt64S.l0 k l0 a1 0
theorem laws_markInt64S.mono_l : ∀ k, (∀ y0 y1 y2, LeO (laws_markInt64S.l0 k y0 y1 y2) (laws_markInt64S.l0 (k + 1) y0 y1 y2))
  | 0 => fun _ _ _ r h => by simp [laws_markInt64S.l0] at h
  | k + 1 => by
    have ih0 := laws_markInt64S.mono_l k
    · intro y0 y1 y2
      unfold laws_markInt64S.l0
      repeat' first
      | (with_reducible exact ih0 _ _ _)
      | (with_reducible exact LeO.refl _)
      | (with_reducible exact LeO.none _)
      | (with_reducible refine LeO.ite ?_ ?_)
      | (with_reducible refine LeO.bind ?_ (fun _ => ?_))
      | exact ih0 _ _ _
      | exact LeO.none _
      | refine LeO.ite ?_ ?_
      | refine LeO.bind ?_ (fun _ => ?_)
theorem laws_markInt64S.mono : ∀ a0 a1 k, LeO (laws_markInt64S.f k a0 a1) (laws_markInt64S.f (k + 1) a0 a1) := by
  intro a0 a1 k
  have ih0 := laws_markInt64S.mono_l k
  unfold laws_markInt64S.f
  repeat' first
      | (with_reducible exact ih0 _ _ _)
      | (with_reducible exact LeO.refl _)
      | (with_reducible exact LeO.none _)
      | (with_reducible refine LeO.ite ?_ ?_)
      | (with_reducible refine LeO.bind ?_ (fun _ => ?_))
      | exact ih0 _ _ _
      | exact LeO.none _
      | refine LeO.ite ?_ ?_
      | refine LeO.bind ?_ (fun _ => ?_)
set_option maxHeartbeats 8000000 in
set_option maxRecDepth 100000 in
theorem laws_markInt64S.calls (k : Nat) (P0_ : Nat → Prop) (u9000_ : Value) (l0 : List Int) (a1 : Int) (r1 : Int) (r2 : List Int) (w0 w : World) (hB : Below w0.heap.size w0 w) (ho0 : Kd.R (Kd.int .i64) 2 w w0.heap.size P0_ u9000_ l0) (h : laws_markInt64S.f k l0 a1 = some (r1, r2)) :
    Calls Try.prog 40 #[u9000_, .int .i64 a1] w fun e w' => e = .returned (.int .i64 r1) ∧ Kd.R (Kd.int .i64) 2 w' w0.heap.size (fun k_ => (P0_ k_ ∨ w.heap.size ≤ k_)) u9000_ r2 ∧ Below w0.heap.size w0 w' ∧ Kept w w' (fun k_ => P0_ k_) := by
  have HO0 := Aside0.mk (show Kd.R (Kd.int .i64) 2 w w0.heap.size (fun k_ => (P0_ k_ ∨ w.heap.size ≤ k_)) u9000_ l0 from Kd.R_mono ho0 (fun k_ hk => (.inl hk)))
  have HK := Aside0.mk (Kept.refl w (fun k_ => P0_ k_))
  have HW0 := Aside0.mk hB.size
  have HB := Aside0.mk hB
  clear hB
  have H : (laws_markInt64S.l0 k l0 a1 0) = some (r1, r2) := h
  clear h
  have H' := Aside0.mk H
  clear H
  go_enter Try.func40, Try.ntmps40
  go_wp2
  go_loopg [1, 5] k (fun kq v1 v5 w' => ∃ (x0_1 : List Int) (x1_1 : Int) (x5_1 : Int), v1 = .int .i64 x1_1 ∧ v5 = .int .i64 x5_1 ∧ Aside0 (laws_markInt64S.l0 kq x0_1 x1_1 x5_1 = some (r1, r2)) ∧ Aside0 (kq ≤ k) ∧ Aside0 (Kd.R (Kd.int .i64) 2 w' w0.heap.size (fun k_ => (P0_ k_ ∨ w.heap.size ≤ k_)) u9000_ x0_1) ∧ Aside0 (Kept w w' (fun k_ => P0_ k_)) ∧ Aside0 (Below w0.heap.size w0 w'))
  case atStart => exact ⟨(l0), (a1), (0), (by first | rfl | (simp; done) | (simp [*]; done)), (by first | rfl | (simp; done) | (simp [*]; done)), H', ⟨Nat.le_refl _⟩, ⟨by (with_reducible repeat (first | apply Kd.R_alloc | apply Kd.R_drewN | apply Kd.R_drew)); exact HO0.out⟩, ⟨by repeat (first | (with_reducible first | exact HK.out | apply Kept.alloc | apply Kept.drewN | apply Kept.drew) | exact HK.out)⟩, ⟨by repeat (first | (with_reducible first | exact HB.out | apply below_alloc | apply pw_below_drewN | apply below_drew1) | exact HB.out)⟩⟩
  case round =>
    clear H'
    try clear p2
    obtain ⟨x0_1, x1_1, x5_1, rfl, rfl, HA, HK1, HO_0, HK, HB⟩ := hrel
    cases gk with
    | zero => exact absurd HA.out (by simp [laws_markInt64S.l0])
    | succ k1 =>
      have H := HA.out
      clear HA
      simp only [laws_markInt64S.l0] at H
      by_cases c3 : x5_1 < (x0_1.length : Int)
      · rw [if_pos c3] at H
        have c3b0 : decide (x5_1 < (x0_1.length : Int)) = true := decide_eq_true c3
        clear c3
        by_cases c4 : 0 ≤ x5_1
        · rw [if_pos c4] at H
          have c4b0 : decide (0 ≤ x5_1) = true := decide_eq_true c4
          clear c4
          obtain ⟨y303, hy303⟩ : ∃ y_ : List Int, y_ = (x0_1.set (x5_1 : Int).toNat x1_1) := ⟨_, rfl⟩
          replace H : (laws_markInt64S.l0 k1 y303 (wrap64 (x1_1 + 1)) (wrap64 (x5_1 + 1))) = some (r1, r2) := by first | (rw [hy303]; with_reducible exact H) | (have H2_ := (Option.bind_some _ _).symm.trans H; rw [hy303]; with_reducible exact H2_) | (have H2_ := (Option.bind_some _ _).symm.trans H; with_reducible exact H2_) | with_reducible exact H | (rw [hy303]; exact H) | exact H
          have Ny303 := Aside0.mk hy303
          clear hy303
          have H' := Aside0.mk H
          clear H
          obtain ⟨Ao6, co6, eo6⟩ := Kd.R_slice HO_0.out
          subst eo6
          have p5 : 0 ≤ (x5_1 : Int) := of_decide_eq_true (by first | (with_reducible assumption) | assumption)
          have q5 : (x5_1 : Int) < ((x0_1.length : Int) : Int) := of_decide_eq_true (by first | (with_reducible assumption) | assumption)
          obtain ⟨go5, co5, eo5, gb5, gl5, cl5, HG5⟩ := Kd.R_form HO_0.out (by omega)
          (first | cases eo5 | (injection eo5 with ea_ en_ ec_; (first | subst ea_ | (injection ea_ with ea_; subst ea_)); subst ec_; clear en_))
          have GB5 := Aside0.mk gb5
          have GG5 := Aside0.mk HG5
          clear gb5 gl5 HG5
          have HMgo5 := Aside0.mk (show (P0_ go5 ∨ w.heap.size ≤ go5) from (HO_0.out.1 _ rfl))
          obtain ⟨hx5_0, hf5_0⟩ := Kd.R_celln 0 HO_0.out (x5_1 : Int) p5 q5
          replace p5 := eq_true p5
          replace q5 := eq_true q5
          have HP7 := Kd.R_putg HO_0.out (x5_1 : Int) x1_1
          go_wp2_with (first | ((with_reducible refine gate_store (t := 2) (p := 15) rfl ?_); refine store_event (t := 2) (p := 15) (v := ?vo_w8) (w1 := (wr.setCell ⟨go5, (x5_1 : Int).toNat, none⟩ (.int .i64 x1_1))) ?hg ?ho ?hn ?hr ?_; (case ho => rfl); (case hg => rfl); (case hn => rfl); (case hr => first | (go_simp; done) | (go_simp; rfl)); intro w8 hw; have hg : wr.grownBy w8 (some go5) := (by rw [hw]; exact HP7.2); have hp_ : Kd.R (Kd.int .i64) 2 w8 w0.heap.size (fun k_ => (P0_ k_ ∨ w.heap.size ≤ k_)) (.slice (some ⟨go5, 0, none⟩) x0_1.length co6) y303 := (by rw [hw, Ny303.out]; exact HP7.1); clear HP7; have n0_ := Aside0.mk (hp_); have n1_ := Aside0.mk ((by rw [hw]; exact below_set (HB.out) GB5.out : Below w0.heap.size w0 w8)); have n2_ := Aside0.mk (Kept.of_grown (S := (fun k_ => P0_ k_)) hg (by repeat (first | (with_reducible first | exact HK.out | apply Kept.alloc | apply Kept.drewN | apply Kept.drew) | exact HK.out)) (fun k_ e_ => (HO_0.out.1 k_ e_))); clear HO_0; clear HB; clear HK; have HO_0 := n0_; have HB := n1_; have HK := n2_; clear n0_ n1_ n2_; clear hg hw hp_))
          go_roundg k1
          case measure => have := HK1.out; omega
          case rel => exact ⟨(y303), (wrap64 (x1_1 + 1)), (wrap64 (x5_1 + 1)), (by first | rfl | (simp; done) | (simp [*]; done)), (by first | rfl | (simp; done) | (simp [*]; done)), H', ⟨by have := HK1.out; omega⟩, ⟨by (with_reducible repeat (first | apply Kd.R_alloc | apply Kd.R_drewN | apply Kd.R_drew)); exact HO_0.out⟩, ⟨by repeat (first | (with_reducible first | exact HK.out | apply Kept.alloc | apply Kept.drewN | apply Kept.drew) | exact HK.out)⟩, ⟨by repeat (first | (with_reducible first | exact HB.out | apply below_alloc | apply pw_below_drewN | apply below_drew1) | exact HB.out)⟩⟩
        · rw [if_neg c4] at H
          exact absurd H (by simp)
      · rw [if_neg c3] at H
        have c3b0 : decide (x5_1 < (x0_1.length : Int)) = false := decide_eq_false c3
        clear c3
        simp only [Option.some.injEq, Prod.mk.injEq] at H
        obtain ⟨rfl, rfl⟩ := H
        obtain ⟨Ao9, co9, eo9⟩ := Kd.R_slice HO_0.out
        subst eo9
        go_wp2
        go_ret
        exact ⟨by first | rfl | (simp [errW_none, errW_some] <;> rfl) | (simp [*, errW_none, errW_some] <;> rfl), by (with_reducible repeat (first | apply Kd.R_alloc | apply Kd.R_drewN | apply Kd.R_drew)); exact HO_0.out, by repeat (first | (with_reducible first | exact HB.out | apply below_alloc | apply pw_below_drewN | apply below_drew1) | exact HB.out), by repeat (first | (with_reducible first | exact HK.out | apply Kept.alloc | apply Kept.drewN | apply Kept.drew) | exact HK.out)⟩
end Go.Proofs.Ytfinbmnjfnajiaa.PW
end
section
namespace Go.Proofs.Ytfinbmnjfnajiaa.PW
open Go.RowKit Go.Proofs.YtfinbmnjfnajiaaW.PrintWords Go.Proofs.YtfinbmnjfnajiaaW.PrintLast Go.Proofs.YtfinbmnjfnajiaaW.PrintMore
attribute [local go_sem] max2_int min2_int max_two min_two max_three min_three max_four min_four   -- for this text's walks alone
set_option linter.unusedVariables false
set_option linter.unusedSimpArgs false
def laws_markWhole.f (k : Nat) (a0_0 : Int) (l0_1 : List Int) (a1 : Int) : Option (Int × List Int) := (laws_markInt64S.f k l0_1 a1).bind fun bt305 => (some (bt305.1, bt305.2))
theorem laws_markWhole.mono : ∀ a0 a1 a2 k, LeO (laws_markWhole.f k a0 a1 a2) (laws_markWhole.f (k + 1) a0 a1 a2) := by
  intro a0 a1 a2 k
  unfold laws_markWhole.f
  repeat' first
      | (with_reducible exact laws_markInt64S.mono _ _ _)
      | (with_reducible exact LeO.refl _)
      | (with_reducible exact LeO.none _)
      | (with_reducible refine LeO.ite ?_ ?_)
      | (with_reducible refine LeO.bind ?_ (fun _ => ?_))
      | exact laws_markInt64S.mono _ _ _
      | exact LeO.none _
      | refine LeO.ite ?_ ?_
      | refine LeO.bind ?_ (fun _ => ?_)
set_option maxHeartbeats 8000000 in
set_option maxRecDepth 100000 in
theorem laws_markWhole.calls (k : Nat) (a0_0 : Int) (P0_1_ : Nat → Prop) (u9000_ : Value) (l0_1 : List Int) (a1 : Int) (r1 : Int) (r2 : List Int) (w0 w : World) (hB : Below w0.heap.size w0 w) (ho0_1 : Kd.R (Kd.int .i64) 2 w w0.heap.size P0_1_ u9000_ l0_1) (h : laws_markWhole.f k a0_0 l0_1 a1 = some (r1, r2)) :
    Calls Try.prog 14 #[.agg #[.int .i64 a0_0, u9000_], .int .i64 a1] w fun e w' => e = .returned (.int .i64 r1) ∧ Kd.R (Kd.int .i64) 2 w' w0.heap.size (fun k_ => (P0_1_ k_ ∨ w.heap.size ≤ k_)) u9000_ r2 ∧ Below w0.heap.size w0 w' ∧ Kept w w' (fun k_ => P0_1_ k_) := by
  have hu26 := Try.underlying26
  have HO0_1 := Aside0.mk (show Kd.R (Kd.int .i64) 2 w w0.heap.size (fun k_ => (P0_1_ k_ ∨ w.heap.size ≤ k_)) u9000_ l0_1 from Kd.R_mono ho0_1 (fun k_ hk => (.inl hk)))
  have HK := Aside0.mk (Kept.refl w (fun k_ => P0_1_ k_))
  have HW0 := Aside0.mk hB.size
  have HB := Aside0.mk hB
  clear hB
  have H : ((laws_markInt64S.f k l0_1 a1).bind fun bt305 => (some (bt305.1, bt305.2))) = some (r1, r2) := h
  clear h
  replace H := Option.bind_eq_some_iff.mp H
  obtain ⟨⟨t305, t306⟩, A30, H⟩ := H
  replace H : (some (t305, t306)) = some (r1, r2) := H
  have A3 := Aside0.mk A30
  clear A30
  simp only [Option.some.injEq, Prod.mk.injEq] at H
  obtain ⟨rfl, rfl⟩ := H
  obtain ⟨Ao4, co4, eo4⟩ := Kd.R_slice HO0_1.out
  subst eo4
  go_enter Try.func14, Try.ntmps14
  go_wp2_with (first | ((with_reducible refine gate_dst (N := 2) rfl ?_); refine box_event ?hg (N := 2) ?hd (cs := #[.int .i64 a0_0, .slice Ao4 l0_1.length co4]) (t := 26) ?hr ?_; (case hd => rfl); (case hg => rfl); (case hr => first | (go_simp; done) | (go_simp; rfl)); intro gb304 hg w5 hbox hb; have n0_ := Aside0.mk (Kd.R_below (by (with_reducible repeat (first | apply Kd.R_alloc | apply Kd.R_drewN | apply Kd.R_drew)); exact HO0_1.out) hb); have n1_ := Aside0.mk (Kept.below (S := (fun k_ => P0_1_ k_)) (by repeat (first | (with_reducible first | exact HK.out | apply Kept.alloc | apply Kept.drewN | apply Kept.drew) | exact HK.out)) hb); have n2_ := Aside0.mk (below_step (by repeat (first | (with_reducible first | exact HB.out | apply below_alloc | apply pw_below_drewN | apply below_drew1) | exact HB.out)) hb); have n3_ := Aside0.mk (hbox); have n4_ := Aside0.mk ((by rw [hg]; exact (by first | exact HK.out.1 | exact (show Kept w _ (fun k_ => P0_1_ k_) from by repeat (first | (with_reducible first | exact HK.out | apply Kept.alloc | apply Kept.drewN | apply Kept.drew) | exact HK.out)).1) : w.heap.size ≤ gb304)); have n5_ := Aside0.mk ((by rw [hg]; exact (below_size (by repeat (first | (with_reducible first | exact HB.out | apply below_alloc | apply pw_below_drewN | apply below_drew1) | exact HB.out))) : w0.heap.size ≤ gb304)); clear HO0_1; clear HK; clear HB; have HO0_1 := n0_; have HK := n1_; have HB := n2_; have BK304 := n3_; have GW304 := n4_; have GE304 := n5_; clear n0_ n1_ n2_ n3_ n4_ n5_; clear hb hbox hg; have hcz6_0 : w5.cell? ⟨gb304, 0, none⟩ = some (.int .i64 a0_0) := (blk_cell BK304.out 0).trans rfl; have hcz6_1 : w5.cell? ⟨gb304, 1, none⟩ = some (.slice Ao4 l0_1.length co4) := (blk_cell BK304.out 1).trans rfl; have hfz6_0 := blk_frozen BK304.out 0; have hfz6_1 := blk_frozen BK304.out 1) | ((with_reducible refine gate_callee (f := 40) rfl ?_); refine goesL_ (some 8) rfl rfl Try.func40 (by kernel_rfl) rfl #[.slice Ao4 l0_1.length co4, .int .i64 a1] rfl (by (try simp only [List.map_toArray, List.map_cons, List.map_nil]); first | done | rfl | (simp only [List.length_drop, List.length_take]; rfl)) ?_; (with_reducible refine (laws_markInt64S.calls k (fun k_ => some k_ = (.slice Ao4 l0_1.length co4 : Value).ownBlock) (.slice Ao4 l0_1.length co4) l0_1 a1 t305 t306 w0 _ ?side1 ?side2 A3.out).mono ?_); (case side1 => repeat (first | (with_reducible first | exact HB.out | apply below_alloc | apply pw_below_drewN | apply below_drew1 | refine below_set ?_ GE304.out) | exact HB.out)); (case side2 => exact Kd.R_tight rfl HO0_1.out); rintro e w7 ⟨rfl, hy0, hb, hkp⟩; refine ⟨_, rfl, ?_⟩; have n0_ := Aside0.mk (Kd.R_reok rfl hy0 (fun k_ e_ => HO0_1.out.1 k_ e_)); have n1_ := Aside0.mk (blk_kept (by (with_reducible repeat (first | refine blk_drewN ?_ _ | refine blk_drew ?_ | refine blk_alloc ?_ _)); exact BK304.out) hkp (fun hs_ => (fun e_ => (Kd.R_ne HO0_1.out BK304.out (by decide)) e_) hs_)); have n2_ := Aside0.mk (Kept.then_ (S := (fun k_ => P0_1_ k_)) (by repeat (first | (with_reducible first | exact HK.out | apply Kept.alloc | apply Kept.drewN | apply Kept.drew | refine Kept.setCell ?_ (.inr GW304.out) _) | exact HK.out)) hkp (fun k_ hs_ => (fun e_ => (HO0_1.out.1 k_ e_.symm)) hs_)); have n3_ := Aside0.mk (hb); clear HO0_1; clear BK304; clear HK; clear HB; have HO0_1 := n0_; have BK304 := n1_; have HK := n2_; have HB := n3_; clear n0_ n1_ n2_ n3_; (try clear hb); (try clear hkp); (try clear hy0)))
  go_ret
  exact ⟨by first | rfl | (simp [errW_none, errW_some] <;> rfl) | (simp [*, errW_none, errW_some] <;> rfl), by (with_reducible repeat (first | apply Kd.R_alloc | apply Kd.R_drewN | apply Kd.R_drew)); exact HO0_1.out, by repeat (first | (with_reducible first | exact HB.out | apply below_alloc | apply pw_below_drewN | apply below_drew1 | refine below_set ?_ GE304.out) | exact HB.out), by repeat (first | (with_reducible first | exact HK.out | apply Kept.alloc | apply Kept.drewN | apply Kept.drew | refine Kept.setCell ?_ (.inr GW304.out) _) | exact HK.out)⟩
end Go.Proofs.Ytfinbmnjfnajiaa.PW
end
section
namespace Go.Proofs.Ytfinbmnjfnajiaa.PW
open Go.RowKit Go.Proofs.YtfinbmnjfnajiaaW.PrintWords Go.Proofs.YtfinbmnjfnajiaaW.PrintLast Go.Proofs.YtfinbmnjfnajiaaW.PrintMore
attribute [local go_sem] max2_int min2_int max_two min_two max_three min_three max_four min_four   -- for this text's walks alone
set_option linter.unusedVariables false
set_option linter.unusedSimpArgs false
def laws_heldInt64S.l0 : Nat → List Int → Int → Int → Option (Int)
  | 0, _, _, _ => none
  | k + 1, x0, x1, x5 => if x5 < (x0.length : Int) then (if 0 ≤ x5 then (if (rd x0 x5) = x1 then (laws_heldInt64S.l0 k x0 (wrap64 (x1 + 1)) (wrap64 (x5 + 1))) else (some (-1))) else (none)) else (some x1)
def laws_heldInt64S.f (k : Nat) (l0 : List Int) (a1 : Int) : Option (Int) := laws_heldInt64S.l0 k l0 a1 0
theorem laws_heldInt64S.mono_l : ∀ k, (∀ y0 y1 y2, LeO (laws_heldInt64S.l0 k y0 y1 y2) (laws_heldInt64S.l0 (k + 1) y0 y1 y2))
  | 0 => fun _ _ _ r h => by simp [laws_heldInt64S.l0] at h
  | k + 1 => by
    have ih0 := laws_heldInt64S.mono_l k
    · intro y0 y1 y2
      unfold laws_heldInt64S.l0
      repeat' first
      | (with_reducible exact ih0 _ _ _)
      | (with_reducible exact LeO.refl _)
      | (with_reducible exact LeO.none _)
      | (with_reducible refine LeO.ite ?_ ?_)
      | (with_reducible refine LeO.bind ?_ (fun _ => ?_))
      | exact ih0 _ _ _
      | exact LeO.none _
      | refine LeO.ite ?_ ?_
      | refine LeO.bind ?_ (fun _ => ?_)
theorem laws_heldInt64S.mono : ∀ a0 a1 k, LeO (laws_heldInt64S.f k a0 a1) (laws_heldInt64S.f (k + 1) a0 a1) := by
  intro a0 a1 k
  have ih0 := laws_heldInt64S.mono_l k
  unfold laws_heldInt64S.f
  repeat' first
      | (with_reducible exact ih0 _ _ _)
      | (with_reducible exact LeO.refl _)
      | (with_reducible exact LeO.none _)
      | (with_reducible refine LeO.ite ?_ ?_)
      | (with_reducible refine LeO.bind ?_ (fun _ => ?_))
      | exact ih0 _ _ _
      | exact LeO.none _
      | refine LeO.ite ?_ ?_
      | refine LeO.bind ?_ (fun _ => ?_)
set_option maxHeartbeats 8000000 in
set_option maxRecDepth 100000 in
theorem laws_heldInt64S.calls (k : Nat) (A0 : Option Addr) (c0 : Nat) (l0 : List Int) (a1 : Int) (r : Int) (w : World) (hr0 : Kd.C (Kd.int .i64) w A0 l0.length l0) (hc0 : l0.length ≤ c0) (h : laws_heldInt64S.f k l0 a1 = some r) :
    Calls Try.prog 41 #[.slice A0 l0.length c0, .int .i64 a1] w fun e w' => e = .returned (.int .i64 r) ∧ Drawn0 w w' := by
  have HR0 := Aside0.mk hr0
  have HC0 := Aside0.mk hc0
  clear hr0 hc0
  have H : (laws_heldInt64S.l0 k l0 a1 0) = some r := h
  clear h
  have H' := Aside0.mk H
  clear H
  go_enter Try.func41, Try.ntmps41
  go_wp2
  go_loopg [1, 5] k (fun kq v1 v5 w' => ∃ (x1_1 : Int) (x5_1 : Int), v1 = .int .i64 x1_1 ∧ v5 = .int .i64 x5_1 ∧ Aside0 (laws_heldInt64S.l0 kq l0 x1_1 x5_1 = some r) ∧ Aside0 (kq ≤ k) ∧ Drawn0 w w')
  case atStart => exact ⟨(a1), (0), (by first | rfl | (simp; done) | (simp [*]; done)), (by first | rfl | (simp; done) | (simp [*]; done)), H', ⟨Nat.le_refl _⟩, by repeat (first | exact Drawn0.refl _ | apply Drawn0.step)⟩
  case round =>
    clear H'
    try clear p2
    obtain ⟨x1_1, x5_1, rfl, rfl, HA, HK1, ⟨m1, rfl⟩⟩ := hrel
    cases gk with
    | zero => exact absurd HA.out (by simp [laws_heldInt64S.l0])
    | succ k1 =>
      have H := HA.out
      clear HA
      simp only [laws_heldInt64S.l0] at H
      by_cases c3 : x5_1 < (l0.length : Int)
      · rw [if_pos c3] at H
        have c3b0 : decide (x5_1 < (l0.length : Int)) = true := decide_eq_true c3
        clear c3
        by_cases c4 : 0 ≤ x5_1
        · rw [if_pos c4] at H
          have c4b0 : decide (0 ≤ x5_1) = true := decide_eq_true c4
          clear c4
          by_cases c5 : (rd l0 x5_1) = x1_1
          · rw [if_pos c5] at H
            have c5b0 : ((rd l0 x5_1) == x1_1) = true := beq_iff_eq.mpr c5
            have c5b1 : ((rd l0 x5_1) != x1_1) = false := bne_eq_false_iff_eq.mpr c5
            clear c5
            have H' := Aside0.mk H
            clear H
            have p307 : 0 ≤ (x5_1 : Int) := of_decide_eq_true (by first | (with_reducible assumption) | assumption)
            have q307 : x5_1 < (l0.length : Int) := of_decide_eq_true (by first | (with_reducible assumption) | assumption)
            obtain ⟨ad307, e307, hx307_0⟩ := Kd.at_int HR0.out x5_1 p307 q307
            cases e307
            replace p307 := eq_true p307
            replace q307 := eq_true q307
            go_wp2
            go_roundg k1
            case measure => have := HK1.out; omega
            case rel => exact ⟨(wrap64 (x1_1 + 1)), (wrap64 (x5_1 + 1)), (by first | rfl | (simp; done) | (simp [*]; done)), (by first | rfl | (simp; done) | (simp [*]; done)), H', ⟨by have := HK1.out; omega⟩, by repeat (first | exact Drawn0.refl _ | apply Drawn0.step)⟩
          · rw [if_neg c5] at H
            have c5b0 : ((rd l0 x5_1) == x1_1) = false := beq_eq_false_iff_ne.mpr c5
            have c5b1 : ((rd l0 x5_1) != x1_1) = true := bne_iff_ne.mpr c5
            obtain rfl := Option.some.inj H
            have p307 : 0 ≤ (x5_1 : Int) := of_decide_eq_true (by first | (with_reducible assumption) | assumption)
            have q307 : x5_1 < (l0.length : Int) := of_decide_eq_true (by first | (with_reducible assumption) | assumption)
            obtain ⟨ad307, e307, hx307_0⟩ := Kd.at_int HR0.out x5_1 p307 q307
            cases e307
            replace p307 := eq_true p307
            replace q307 := eq_true q307
            go_wp2
            go_ret
            exact ⟨by first | rfl | (simp; done) | (simp [*]; done), by repeat (first | exact Drawn0.refl _ | apply Drawn0.step)⟩
        · rw [if_neg c4] at H
          exact absurd H (by simp)
      · rw [if_neg c3] at H
        have c3b0 : decide (x5_1 < (l0.length : Int)) = false := decide_eq_false c3
        clear c3
        obtain rfl := Option.some.inj H
        go_wp2
        go_ret
        exact ⟨by first | rfl | (simp; done) | (simp [*]; done), by repeat (first | exact Drawn0.refl _ | apply Drawn0.step)⟩
end Go.Proofs.Ytfinbmnjfnajiaa.PW
end
section
namespace Go.Proofs.Ytfinbmnjfnajiaa.PW
open Go.RowKit Go.Proofs.YtfinbmnjfnajiaaW.PrintWords Go.Proofs.YtfinbmnjfnajiaaW.PrintLast Go.Proofs.YtfinbmnjfnajiaaW.PrintMore
attribute [local go_sem] max2_int min2_int max_two min_two max_three min_three max_four min_four   -- for this text's walks alone
set_option linter.unusedVariables false
set_option linter.unusedSimpArgs false
def laws_heldWhole.f (k : Nat) (a0_0 : Int) (l0_1 : List Int) (a1 : Int) : Option (Int) := (laws_heldInt64S.f k l0_1 a1).bind fun t309 => (if t309 < 0 then (some (-1)) else (some t309))
theorem laws_heldWhole.mono : ∀ a0 a1 a2 k, LeO (laws_heldWhole.f k a0 a1 a2) (laws_heldWhole.f (k + 1) a0 a1 a2) := by
  intro a0 a1 a2 k
  unfold laws_heldWhole.f
  repeat' first
      | (with_reducible exact laws_heldInt64S.mono _ _ _)
      | (with_reducible exact LeO.refl _)
      | (with_reducible exact LeO.none _)
      | (with_reducible refine LeO.ite ?_ ?_)
      | (with_reducible refine LeO.bind ?_ (fun _ => ?_))
      | exact laws_heldInt64S.mono _ _ _
      | exact LeO.none _
      | refine LeO.ite ?_ ?_
      | refine LeO.bind ?_ (fun _ => ?_)
set_option maxHeartbeats 8000000 in
set_option maxRecDepth 100000 in
theorem laws_heldWhole.calls (k : Nat) (a0_0 : Int) (A0_1 : Option Addr) (c0_1 : Nat) (l0_1 : List Int) (a1 : Int) (r : Int) (w : World) (hr0_1 : Kd.C (Kd.int .i64) w A0_1 l0_1.length l0_1) (hc0_1 : l0_1.length ≤ c0_1) (h : laws_heldWhole.f k a0_0 l0_1 a1 = some r) :
    Calls Try.prog 15 #[.agg #[.int .i64 a0_0, .slice A0_1 l0_1.length c0_1], .int .i64 a1] w fun e w' => e = .returned (.int .i64 r) ∧ Below w.heap.size w w' := by
  have hu26 := Try.underlying26
  have HR0_1 := Aside0.mk hr0_1
  have HC0_1 := Aside0.mk hc0_1
  clear hr0_1 hc0_1
  have HB := Aside0.mk (Below.refl w.heap.size w)
  have H : ((laws_heldInt64S.f k l0_1 a1).bind fun t309 => (if t309 < 0 then (some (-1)) else (some t309))) = some r := h
  clear h
  replace H := Option.bind_eq_some_iff.mp H
  obtain ⟨t309, A30, H⟩ := H
  replace H : (if t309 < 0 then (some (-1)) else (some t309)) = some r := H
  have A3 := Aside0.mk A30
  clear A30
  by_cases c4 : t309 < 0
  · rw [if_pos c4] at H
    have c4b0 : decide (t309 < 0) = true := decide_eq_true c4
    clear c4
    obtain rfl := Option.some.inj H
    go_enter Try.func15, Try.ntmps15
    go_wp2_with (first | ((with_reducible refine gate_dst (N := 2) rfl ?_); refine box_event ?hg (N := 2) ?hd (cs := #[.int .i64 a0_0, .slice A0_1 l0_1.length c0_1]) (t := 26) ?hr ?_; (case hd => rfl); (case hg => rfl); (case hr => first | (go_simp; done) | (go_simp; rfl)); intro gb308 hg w5 hbox hb; have n0_ := Aside0.mk (below_step (by repeat (first | (with_reducible first | exact HB.out | apply below_alloc | apply pw_below_drewN | apply below_drew1) | exact HB.out)) hb); have n1_ := Aside0.mk (hbox); have n2_ := Aside0.mk ((by rw [hg]; exact (below_size (by repeat (first | (with_reducible first | exact HB.out | apply below_alloc | apply pw_below_drewN | apply below_drew1) | exact HB.out))) : w.heap.size ≤ gb308)); have n3_ := Aside0.mk ((by rw [hg]; exact (below_size (by repeat (first | (with_reducible first | exact HB.out | apply below_alloc | apply pw_below_drewN | apply below_drew1) | exact HB.out))) : w.heap.size ≤ gb308)); clear HB; have HB := n0_; have BK308 := n1_; have GW308 := n2_; have GE308 := n3_; clear n0_ n1_ n2_ n3_; clear hb hbox hg; have hcz6_0 : w5.cell? ⟨gb308, 0, none⟩ = some (.int .i64 a0_0) := (blk_cell BK308.out 0).trans rfl; have hcz6_1 : w5.cell? ⟨gb308, 1, none⟩ = some (.slice A0_1 l0_1.length c0_1) := (blk_cell BK308.out 1).trans rfl; have hfz6_0 := blk_frozen BK308.out 0; have hfz6_1 := blk_frozen BK308.out 1) | ((with_reducible refine gate_callee (f := 41) rfl ?_); refine goesL_ (some 8) rfl rfl Try.func41 (by kernel_rfl) rfl #[.slice A0_1 l0_1.length c0_1, .int .i64 a1] rfl (by (try simp only [List.map_toArray, List.map_cons, List.map_nil]); first | done | rfl | (simp only [List.length_drop, List.length_take]; rfl)) ?_; (with_reducible refine (laws_heldInt64S.calls k _ _ l0_1 a1 t309 _ ?side1 ?side2 A3.out).mono ?_); (case side1 => repeat (first | exact (Kd.C_below HR0_1.out HB.out) | (with_reducible refine Kd.C_alloc ?_ _) | (with_reducible refine Kd.C_drewN ?_ _) | (with_reducible refine Kd.C_drew ?_))); (case side2 => exact HC0_1.out); rintro e w' ⟨rfl, ⟨nd, rfl⟩⟩; refine ⟨_, rfl, ?_⟩))
    go_ret
    exact ⟨by first | rfl | (simp [errW_none, errW_some] <;> rfl) | (simp [*, errW_none, errW_some] <;> rfl), by repeat (first | (with_reducible first | exact HB.out | apply below_alloc | apply pw_below_drewN | apply below_drew1 | refine below_set ?_ GE308.out) | exact HB.out)⟩
  · rw [if_neg c4] at H
    have c4b0 : decide (t309 < 0) = false := decide_eq_false c4
    clear c4
    obtain rfl := Option.some.inj H
    go_enter Try.func15, Try.ntmps15
    go_wp2_with (first | ((with_reducible refine gate_dst (N := 2) rfl ?_); refine box_event ?hg (N := 2) ?hd (cs := #[.int .i64 a0_0, .slice A0_1 l0_1.length c0_1]) (t := 26) ?hr ?_; (case hd => rfl); (case hg => rfl); (case hr => first | (go_simp; done) | (go_simp; rfl)); intro gb308 hg w7 hbox hb; have n0_ := Aside0.mk (below_step (by repeat (first | (with_reducible first | exact HB.out | apply below_alloc | apply pw_below_drewN | apply below_drew1) | exact HB.out)) hb); have n1_ := Aside0.mk (hbox); have n2_ := Aside0.mk ((by rw [hg]; exact (below_size (by repeat (first | (with_reducible first | exact HB.out | apply below_alloc | apply pw_below_drewN | apply below_drew1) | exact HB.out))) : w.heap.size ≤ gb308)); have n3_ := Aside0.mk ((by rw [hg]; exact (below_size (by repeat (first | (with_reducible first | exact HB.out | apply below_alloc | apply pw_below_drewN | apply below_drew1) | exact HB.out))) : w.heap.size ≤ gb308)); clear HB; have HB := n0_; have BK308 := n1_; have GW308 := n2_; have GE308 := n3_; clear n0_ n1_ n2_ n3_; clear hb hbox hg; have hcz8_0 : w7.cell? ⟨gb308, 0, none⟩ = some (.int .i64 a0_0) := (blk_cell BK308.out 0).trans rfl; have hcz8_1 : w7.cell? ⟨gb308, 1, none⟩ = some (.slice A0_1 l0_1.length c0_1) := (blk_cell BK308.out 1).trans rfl; have hfz8_0 := blk_frozen BK308.out 0; have hfz8_1 := blk_frozen BK308.out 1) | ((with_reducible refine gate_callee (f := 41) rfl ?_); refine goesL_ (some 8) rfl rfl Try.func41 (by kernel_rfl) rfl #[.slice A0_1 l0_1.length c0_1, .int .i64 a1] rfl (by (try simp only [List.map_toArray, List.map_cons, List.map_nil]); first | done | rfl | (simp only [List.length_drop, List.length_take]; rfl)) ?_; (with_reducible refine (laws_heldInt64S.calls k _ _ l0_1 a1 t309 _ ?side1 ?side2 A3.out).mono ?_); (case side1 => repeat (first | exact (Kd.C_below HR0_1.out HB.out) | (with_reducible refine Kd.C_alloc ?_ _) | (with_reducible refine Kd.C_drewN ?_ _) | (with_reducible refine Kd.C_drew ?_))); (case side2 => exact HC0_1.out); rintro e w' ⟨rfl, ⟨nd, rfl⟩⟩; refine ⟨_, rfl, ?_⟩))
    go_ret
    exact ⟨by first | rfl | (simp [errW_none, errW_some] <;> rfl) | (simp [*, errW_none, errW_some] <;> rfl), by repeat (first | (with_reducible first | exact HB.out | apply below_alloc | apply pw_below_drewN | apply below_drew1 | refine below_set ?_ GE308.out) | exact HB.out)⟩
end Go.Proofs.Ytfinbmnjfnajiaa.PW
end
section
namespace Go.Proofs.Ytfinbmnjfnajiaa.Px
open Go.RowKit Go.Proofs.YtfinbmnjfnajiaaW.PrintWords Go.Proofs.Ytfinbmnjfnajiaa.PW Go.Proofs.Ytfinbmnjfnajiaa.Pb Go.Proofs.Ytfinbmnjfnajiaa.Pc Go.Proofs.Ytfinbmnjfnajiaa.Pm Go.Proofs.Ytfinbmnjfnajiaa.Pw Dg
set_option linter.unusedVariables false
set_option linter.unusedSimpArgs false
theorem sown (l : List Int) (h : l.length ≤ 1099511627776) : spec_l01Own.f l = some l := by
  unfold spec_l01Own.f
  simp only [Option.bind_some, List.length_nil, List.nil_append]
  rw [if_pos (by omega)]
def smk (s : Int) (n : Nat) : Int × List Int := if n = 0 then (0, []) else (s, L n)
theorem smk_sgn (z : Int) : smk (sgn z) z.natAbs = (sgn z, L z.natAbs) := by
  unfold smk
  by_cases h : z = 0
  · subst h
    simp [sgn, L_zero]
  · rw [if_neg (by omega)]
theorem smk_one (z : Int) (s : Int) (hs : s = if z < 0 then -1 else 1) : smk s z.natAbs = (sgn z, L z.natAbs) := by
  by_cases h : z = 0
  · subst h
    simp [smk, sgn, L_zero]
  · rw [← smk_sgn z, hs]
    congr 1
    unfold sgn
    split
    · rfl
    · first | rw [if_neg h] | rfl
theorem smake_loop (s : Int) (l : List Int) (hd : Dig 16777216 l) (hl : l.length ≤ 1099511627776) : ∀ i : Nat, i ≤ l.length → val 16777216 (l.take i) = val 16777216 l → Ev (fun k => spec_l02Make.l0 k s l (i : Int)) (smk s (val 16777216 l).toNat) := by
  intro i
  induction i with
  | zero =>
    intro _ hv
    refine Ev.step (f := fun _ => some (0, [])) (fun k => ?_) (ev_of fun _ => ?_)
    · simp only [spec_l02Make.l0]
      rw [if_neg (by omega), if_pos (by omega)]
    · rw [List.take_zero, val_nil] at hv
      rw [← hv]; rfl
  | succ i ih =>
    intro hi hv
    have e1 : wrap64 (((i + 1 : Nat) : Int) - 1) = (i : Int) := by rw [wrapZ _ (by omega) (by omega)]; omega
    by_cases h0 : l.getD i 0 = 0
    · refine Ev.step (f := fun k => spec_l02Make.l0 k s l (i : Int)) (fun k => ?_) (ih (by omega) ?_)
      · simp only [spec_l02Make.l0]
        rw [if_pos (by omega), e1, if_pos (by omega), if_pos (by omega), rdN, if_pos h0]
      · rw [← hv]
        exact (val_take_zero (by omega) h0).symm
    · refine Ev.step (f := fun _ => some (s, l.take (i + 1))) (fun k => ?_) (ev_of fun _ => ?_)
      · simp only [spec_l02Make.l0]
        rw [if_pos (by omega), e1, if_pos (by omega), if_pos (by omega), rdN, if_neg h0, if_neg (by omega), if_pos (by omega), if_pos (show ((i + 1 : Nat) : Int) ≤ (l.length : Int) by omega), Int.toNat_natCast, sown _ (by simp; omega)]
        rfl
      · have ht : Top (l.take (i + 1)) := top_take_of hi (.inr (by rw [Nat.add_sub_cancel]; exact h0))
        have hne : l.take (i + 1) ≠ [] := by
          intro e
          have := congrArg List.length e
          rw [List.length_take, List.length_nil] at this
          omega
        have hp := val_pos (hd.take (i + 1)) ht hne (by decide)
        rw [hv] at hp
        have hL := L_of (hd.take (i + 1)) ht
        rw [hv] at hL
        unfold smk
        rw [if_neg (by omega), hL]
theorem smake (s : Int) (l : List Int) (hd : Dig 16777216 l) (hl : l.length ≤ 1099511627776) : Ev (fun k => spec_l02Make.f k s l) (smk s (val 16777216 l).toNat) := by
  unfold spec_l02Make.f
  exact smake_loop s l hd hl l.length (Nat.le_refl _) (by rw [List.take_length])
def mks (k : Int) (n : Nat) : List Int := (List.range n).map fun i : Nat => k + i
theorem mks_len (k : Int) (n : Nat) : (mks k n).length = n := by unfold mks; simp
theorem mks_succ (k : Int) (n : Nat) : mks k (n + 1) = mks k n ++ [k + n] := by unfold mks; rw [List.range_succ, List.map_append]; rfl
theorem mks_getD (k : Int) (n i : Nat) (h : i < n) : (mks k n).getD i 0 = k + i := by unfold mks; simp [List.getD, h]
theorem mark_loop (n : Nat) (hn : n ≤ 1099511627776) (d : Nat) : ∀ (i : Nat) (ys : List Int), i + d = n → ys.length = n → ys.take i = mks 1 i → Ev (fun k => laws_markInt64S.l0 k ys (1 + (i : Int)) (i : Int)) (1 + (n : Int), mks 1 n) := by
  induction d with
  | zero =>
    intro i ys hi hy h
    obtain rfl : i = n := by omega
    rw [List.take_of_length_le (by omega)] at h
    subst h
    refine Ev.step (f := fun _ => some (1 + (i : Int), mks 1 i)) (fun k => ?_) (ev_of fun _ => rfl)
    simp only [laws_markInt64S.l0]
    rw [if_neg (by omega)]
  | succ d ih =>
    intro i ys hi hy h
    refine Ev.step (f := fun k => laws_markInt64S.l0 k (ys.set i (1 + (i : Int))) (1 + ((i + 1 : Nat) : Int)) ((i + 1 : Nat) : Int)) (fun k => ?_) (ih (i + 1) _ (by omega) (by simpa using hy) ?_)
    · simp only [laws_markInt64S.l0]
      rw [if_pos (by omega), if_pos (by omega), wrapZ _ (by omega) (by omega), wrapZ _ (by omega) (by omega), Int.toNat_natCast]
      congr 1
    · rw [List.take_succ_eq_append_getElem (by simp; omega), Dg.take_set, h, mks_succ]
      simp
theorem held_loop (n : Nat) (hn : n ≤ 1099511627776) (d : Nat) : ∀ (i : Nat), i + d = n → Ev (fun k => laws_heldInt64S.l0 k (mks 1 n) (1 + (i : Int)) (i : Int)) (1 + (n : Int)) := by
  have hln := mks_len 1 n
  induction d with
  | zero =>
    intro i hi
    obtain rfl : i = n := by omega
    refine Ev.step (f := fun _ => some (1 + (i : Int))) (fun k => ?_) (ev_of fun _ => rfl)
    simp only [laws_heldInt64S.l0]
    rw [if_neg (by omega)]
  | succ d ih =>
    intro i hi
    refine Ev.step (f := fun k => laws_heldInt64S.l0 k (mks 1 n) (1 + ((i + 1 : Nat) : Int)) ((i + 1 : Nat) : Int)) (fun k => ?_) (ih (i + 1) (by omega))
    simp only [laws_heldInt64S.l0]
    rw [if_pos (by omega), if_pos (by omega), rdN, mks_getD 1 n i (by omega), if_pos rfl, wrapZ _ (by omega) (by omega), wrapZ _ (by omega) (by omega)]
    congr 1
theorem sheld (s : Int) (n : Nat) (hn : n ≤ 1099511627776) : Ev (fun k => laws_heldWhole.f k s (mks 1 n) 1) (1 + (n : Int)) := by
  unfold laws_heldWhole.f laws_heldInt64S.f
  exact Ev.bind (f := fun k t => _) (held_loop n hn n 0 (by omega)) (ifn (by omega) (ev_of fun _ => rfl))
end Go.Proofs.Ytfinbmnjfnajiaa.Px
end
section
namespace Go.Proofs.Ytfinbmnjfnajiaa.PW
open Go.RowKit Go.Proofs.YtfinbmnjfnajiaaW.PrintWords Go.Proofs.YtfinbmnjfnajiaaW.PrintLast Go.Proofs.YtfinbmnjfnajiaaW.PrintMore
attribute [local go_sem] max2_int min2_int max_two min_two max_three min_three max_four min_four   -- for this text's walks alone
set_option linter.unusedVariables false
set_option linter.unusedSimpArgs false
def spec_l02Both.f (k : Nat) (a0_0 : Int) (l0_1 : List Int) (a1_0 : Int) (l1_1 : List Int) : Option (Int) := (spec_l02Is.f k a0_0 l0_1).bind fun t109 => (if t109 = true then ((spec_l02Is.f k a1_0 l1_1).bind fun t110 => (if t110 = true then (some 0) else (some 1))) else (some 1))
theorem spec_l02Both.mono : ∀ a0 a1 a2 a3 k, LeO (spec_l02Both.f k a0 a1 a2 a3) (spec_l02Both.f (k + 1) a0 a1 a2 a3) := by
  intro a0 a1 a2 a3 k
  unfold spec_l02Both.f
  repeat' first
      | (with_reducible exact spec_l02Is.mono _ _ _)
      | (with_reducible exact LeO.refl _)
      | (with_reducible exact LeO.none _)
      | (with_reducible refine LeO.ite ?_ ?_)
      | (with_reducible refine LeO.bind ?_ (fun _ => ?_))
      | exact spec_l02Is.mono _ _ _
      | exact LeO.none _
      | refine LeO.ite ?_ ?_
      | refine LeO.bind ?_ (fun _ => ?_)
end Go.Proofs.Ytfinbmnjfnajiaa.PW
end
section
namespace Go.Proofs.Ytfinbmnjfnajiaa.Pt
open Go.RowKit Go.Proofs.YtfinbmnjfnajiaaW.PrintWords Go.Proofs.Ytfinbmnjfnajiaa.PW Go.Proofs.Ytfinbmnjfnajiaa.Pb Go.Proofs.Ytfinbmnjfnajiaa.Pc Go.Proofs.Ytfinbmnjfnajiaa.Pm Go.Proofs.Ytfinbmnjfnajiaa.Pw Dg
set_option linter.unusedVariables false
set_option linter.unusedSimpArgs false
theorem slimbs_loop (a b : List Int) (hl : a.length = b.length) (hm : a.length ≤ 1099511627776) (ha : Dig 16777216 a) (hb : Dig 16777216 b) :
    ∀ i : Nat, i ≤ a.length → a.drop i = b.drop i → Ev (fun k => spec_l02CompareLimbs.l0 k a b ((i : Int) - 1)) (sgn (val 16777216 a - val 16777216 b)) := by
  intro i
  induction i with
  | zero =>
    intro _ h
    rw [List.drop_zero, List.drop_zero] at h
    subst h
    refine Ev.step (f := fun _ => some 0) (fun k => ?_) (ev_of fun _ => by rw [Int.sub_self]; rfl)
    simp only [spec_l02CompareLimbs.l0]
    rw [if_neg (by omega)]
  | succ i ih =>
    intro hi h
    have e1 : ((i + 1 : Nat) : Int) - 1 = (i : Int) := by omega
    rw [e1]
    by_cases hx : a.getD i 0 = b.getD i 0
    · have h2 : a.drop i = b.drop i := by
        rw [List.drop_eq_getElem_cons (show i < a.length by omega), List.drop_eq_getElem_cons (show i < b.length by omega), h, ← getD_lt (show i < a.length by omega), ← getD_lt (show i < b.length by omega), hx]
      refine Ev.step (f := fun k => spec_l02CompareLimbs.l0 k a b ((i : Int) - 1)) (fun k => ?_) (ih (by omega) h2)
      simp only [spec_l02CompareLimbs.l0]
      rw [if_pos (by omega), if_pos (by omega), if_pos (by omega), if_pos (by omega), rdN, rdN, if_pos hx, wrapZ _ (by omega) (by omega)]
    · refine Ev.step (f := fun _ => some (sgn (a.getD i 0 - b.getD i 0))) (fun k => ?_) (ev_of fun _ => ?_)
      · simp only [spec_l02CompareLimbs.l0]
        rw [if_pos (by omega), if_pos (by omega), if_pos (by omega), if_pos (by omega), rdN, rdN, if_neg hx]
        unfold sgn
        rcases Int.lt_or_gt_of_ne hx with h3 | h3
        · rw [if_pos h3, if_pos (by omega)]
        · rw [if_neg (by omega), if_neg (by omega), if_neg (by omega)]
      · congr 1
        rcases Int.lt_or_gt_of_ne hx with h3 | h3
        · have := val_lt_of_digit (by decide) ha hb i h (by omega) h3
          unfold sgn; rw [if_pos (by omega), if_pos (by omega)]
        · have := val_lt_of_digit (by decide) hb ha i h.symm (by omega) h3
          unfold sgn; rw [if_neg (by omega), if_neg (by omega), if_neg (by omega), if_neg (by omega)]
theorem slimbs {a b : List Int} (ha : Dig 16777216 a) (hb : Dig 16777216 b) (ta : Top a) (tb : Top b) (h1 : a.length ≤ 1099511627776) (h2 : b.length ≤ 1099511627776) : Ev (fun k => spec_l02CompareLimbs.f k a b) (sgn (val 16777216 a - val 16777216 b)) := by
  unfold spec_l02CompareLimbs.f
  by_cases h : a.length = b.length
  · refine ifp (by omega) ?_
    have := slimbs_loop a b h h1 ha hb a.length (Nat.le_refl _) (by rw [List.drop_length, h, List.drop_length])
    rw [wrapZ _ (by omega) (by omega)]
    exact this
  · refine ifn (by omega) ?_
    rcases Nat.lt_or_gt_of_ne h with h3 | h3
    · have := val_lt_of_length (by decide) ha hb tb h3
      refine ifp (by omega) (ev_of fun _ => ?_)
      unfold sgn; rw [if_pos (by omega)]
    · have := val_lt_of_length (by decide) hb ha ta h3
      refine ifn (by omega) (ev_of fun _ => ?_)
      unfold sgn; rw [if_neg (by omega), if_neg (by omega)]
theorem sgn_range (z : Int) : -1 ≤ sgn z ∧ sgn z ≤ 1 := by
  unfold sgn
  split
  · omega
  · split <;> omega
end Go.Proofs.Ytfinbmnjfnajiaa.Pt
end
section
namespace Go.Proofs.Ytfinbmnjfnajiaa.Py
open Go.RowKit Go.Proofs.YtfinbmnjfnajiaaW.PrintWords Go.Proofs.Ytfinbmnjfnajiaa.PW Go.Proofs.Ytfinbmnjfnajiaa.Pb Go.Proofs.Ytfinbmnjfnajiaa.Pc Go.Proofs.Ytfinbmnjfnajiaa.Pm Go.Proofs.Ytfinbmnjfnajiaa.Pw Go.Proofs.Ytfinbmnjfnajiaa.Px Go.Proofs.Ytfinbmnjfnajiaa.Pt Dg
set_option linter.unusedVariables false
set_option linter.unusedSimpArgs false
theorem plus_round (a b out : List Int) (c : Int) (i : Nat) (ha : Dig 16777216 a) (hb : Dig 16777216 b) (hl1 : a.length ≤ 1099511627776) (hl2 : b.length ≤ 1099511627776) (ho : out.length ≤ 1099511627777) (h0 : 0 ≤ c) (h1 : c ≤ 1) (hi : i ≤ 1099511627777) (k : Nat) :
    spec_l02Plus.j1 (k + 1) a b out c (i : Int) true = spec_l02Plus.l0 k a b (out ++ [(c + a.getD i 0 + b.getD i 0) % 16777216]) ((c + a.getD i 0 + b.getD i 0) / 16777216) ((i + 1 : Nat) : Int) := by
  have hai := ha.all0 (by decide) i
  have hbi := hb.all0 (by decide) i
  simp only [spec_l02Plus.j1]
  rw [if_pos trivial, wrapZ ((i : Int) + 1) (by omega) (by omega)]
  by_cases hia : i < a.length
  · rw [if_pos (show (i : Int) < (a.length : Int) by omega), if_pos (show (0 : Int) ≤ (i : Int) by omega)]
    by_cases hib : i < b.length
    · rw [if_pos (show (i : Int) < (b.length : Int) by omega), if_pos (by omega), rdN, rdN, wrapZ (c + _) (by omega) (by omega), wrapZ (c + _ + _) (by omega) (by omega), Int.tmod_eq_emod_of_nonneg (by omega), Int.tdiv_eq_ediv_of_nonneg (by omega), wrapZ _ (by omega) (by omega)]
      rfl
    · have hb0 : b.getD i 0 = 0 := getD_ge (by omega)
      rw [if_neg (show ¬ (i : Int) < (b.length : Int) by omega), if_pos (by omega), rdN, wrapZ (c + _) (by omega) (by omega), Int.tmod_eq_emod_of_nonneg (by omega), Int.tdiv_eq_ediv_of_nonneg (by omega), wrapZ _ (by omega) (by omega), hb0, Int.add_zero]
      rfl
  · have ha0 : a.getD i 0 = 0 := getD_ge (by omega)
    rw [if_neg (show ¬ (i : Int) < (a.length : Int) by omega)]
    by_cases hib : i < b.length
    · rw [if_pos (show (i : Int) < (b.length : Int) by omega), if_pos (show (0 : Int) ≤ (i : Int) by omega), if_pos (by omega), rdN, wrapZ (c + _) (by omega) (by omega), Int.tmod_eq_emod_of_nonneg (by omega), Int.tdiv_eq_ediv_of_nonneg (by omega), wrapZ _ (by omega) (by omega), ha0, Int.add_zero]
      rfl
    · have hb0 : b.getD i 0 = 0 := getD_ge (by omega)
      rw [if_neg (show ¬ (i : Int) < (b.length : Int) by omega), if_pos (by omega), Int.tmod_eq_emod_of_nonneg (by omega), Int.tdiv_eq_ediv_of_nonneg (by omega), wrapZ _ (by omega) (by omega), ha0, hb0, Int.add_zero, Int.add_zero]
      rfl
theorem plus_end (a b out : List Int) (i : Nat) (ha : a.length ≤ i) (hb : b.length ≤ i) : Ev (fun k => spec_l02Plus.l0 k a b out 0 (i : Int)) out := by
  refine Ev.step (f := fun k => spec_l02Plus.j1 k a b out 0 (i : Int) false) (fun k => ?_) (Ev.step (f := fun _ => some out) (fun k => ?_) (ev_of fun _ => rfl))
  · simp only [spec_l02Plus.l0]
    rw [if_neg (by omega), if_neg (by omega)]
    rfl
  · simp only [spec_l02Plus.j1]
    rw [if_neg (by simp)]
theorem plus_loop (a b : List Int) (ha : Dig 16777216 a) (hb : Dig 16777216 b) (hl1 : a.length ≤ 1099511627776) (hl2 : b.length ≤ 1099511627776) (M : Nat) (hM1 : a.length ≤ M) (hM2 : b.length ≤ M) (hM3 : M = a.length ∨ M = b.length) (d : Nat) :
    ∀ (i : Nat) (out : List Int) (c : Int), i + d = M → out.length = i → Dig 16777216 out → 0 ≤ c → c ≤ 1 → val 16777216 out + 16777216 ^ i * c = val 16777216 (a.take i) + val 16777216 (b.take i) →
      ∃ r, Ev (fun k => spec_l02Plus.l0 k a b out c (i : Int)) r ∧ Dig 16777216 r ∧ val 16777216 r = val 16777216 a + val 16777216 b ∧ r.length ≤ M + 1 := by
  induction d with
  | zero =>
    intro i out c hd hlen hdo h0 h1 hinv
    obtain rfl : i = M := by omega
    rw [val_take_ge hM1, val_take_ge hM2] at hinv
    by_cases hc : c = 0
    · subst hc
      exact ⟨out, plus_end a b out i hM1 hM2, hdo, by omega, by omega⟩
    · obtain rfl : c = 1 := by omega
      have ha0 : a.getD i 0 = 0 := getD_ge hM1
      have hb0 : b.getD i 0 = 0 := getD_ge hM2
      refine ⟨out ++ [1], ?_, hdo.append (Dig.cons (by decide) (by decide) Dig.nil), ?_, by simp; omega⟩
      · refine Ev.step (f := fun k => spec_l02Plus.j1 k a b out 1 (i : Int) true) (fun k => ?_) (Ev.step (f := fun k => spec_l02Plus.l0 k a b (out ++ [1]) 0 ((i + 1 : Nat) : Int)) (fun k => ?_) (plus_end a b _ (i + 1) (by omega) (by omega)))
        · simp only [spec_l02Plus.l0]
          rw [if_neg (by omega), if_neg (by omega)]
          rfl
        · rw [plus_round a b out 1 i ha hb hl1 hl2 (by omega) (by decide) (by decide) (by omega) k, ha0, hb0]
          rfl
      · rw [val_snoc, hlen, ← hinv]
        rfl
  | succ d ih =>
    intro i out c hd hlen hdo h0 h1 hinv
    have hai := ha.all0 (by decide) i
    have hbi := hb.all0 (by decide) i
    obtain ⟨r, hr, h2⟩ := ih (i + 1) (out ++ [(c + a.getD i 0 + b.getD i 0) % 16777216]) ((c + a.getD i 0 + b.getD i 0) / 16777216) (by omega) (by simp; omega) (hdo.append (Dig.cons (by omega) (by omega) Dig.nil)) (by omega) (by omega) (by
      have := add_step (a := a.getD i 0) (b := b.getD i 0) (c := c) (x := (c + a.getD i 0 + b.getD i 0) % 16777216) (c' := (c + a.getD i 0 + b.getD i 0) / 16777216) (p := 16777216) hinv (by omega)
      rw [val_snoc, hlen, val_take_succ' a i, val_take_succ' b i, Int.pow_succ]
      exact this)
    refine ⟨r, ?_, h2⟩
    refine Ev.step (f := fun k => spec_l02Plus.j1 k a b out c (i : Int) true) (fun k => ?_) (Ev.step (f := fun k => _) (fun k => plus_round a b out c i ha hb hl1 hl2 (by omega) h0 h1 (by omega) k) hr)
    simp only [spec_l02Plus.l0]
    by_cases hia : i < a.length
    · rw [if_pos (by omega)]
    · rw [if_neg (by omega), if_pos (by omega)]
theorem splus (a b : List Int) (ha : Dig 16777216 a) (hb : Dig 16777216 b) (hl1 : a.length ≤ 1099511627776) (hl2 : b.length ≤ 1099511627776) :
    ∃ r, Ev (fun k => spec_l02Plus.f k a b) r ∧ Dig 16777216 r ∧ val 16777216 r = val 16777216 a + val 16777216 b ∧ r.length ≤ max a.length b.length + 1 := by
  unfold spec_l02Plus.f
  exact plus_loop a b ha hb hl1 hl2 (max a.length b.length) (by omega) (by omega) (by omega) (max a.length b.length) 0 [] 0 (by omega) rfl Dig.nil (by decide) (by decide) (by simp [val])
theorem minus_loop (a b : List Int) (ha : Dig 16777216 a) (hb : Dig 16777216 b) (hab : b.length ≤ a.length) (hl1 : a.length ≤ 1099511627776) (hle : val 16777216 b ≤ val 16777216 a) (d : Nat) :
    ∀ (i : Nat) (out : List Int) (c : Int), i + d = a.length → out.length = i → Dig 16777216 out → 0 ≤ c → c ≤ 1 → val 16777216 out - 16777216 ^ i * c = val 16777216 (a.take i) - val 16777216 (b.take i) →
      ∃ r, Ev (fun k => spec_l02Minus.l0 k a b out c (i : Int)) r ∧ Dig 16777216 r ∧ val 16777216 r = val 16777216 a - val 16777216 b ∧ r.length = a.length := by
  induction d with
  | zero =>
    intro i out c hd hlen hdo h0 h1 hinv
    obtain rfl : i = a.length := by omega
    rw [val_take_ge (Nat.le_refl _), val_take_ge hab] at hinv
    have hlt := val_lt (by decide) hdo
    rw [hlen] at hlt
    have hp : ((16777216 : Nat) : Int) ^ a.length = (16777216 : Int) ^ a.length := rfl
    have hv : val 16777216 out = val 16777216 a - val 16777216 b := by
      rcases (show c = 0 ∨ c = 1 by omega) with rfl | rfl
      · omega
      · exfalso
        rw [Int.mul_one] at hinv
        omega
    refine ⟨out, Ev.step (f := fun _ => some out) (fun k => ?_) (ev_of fun _ => rfl), hdo, hv, hlen⟩
    simp only [spec_l02Minus.l0]
    rw [if_neg (by omega)]
  | succ d ih =>
    intro i out c hd hlen hdo h0 h1 hinv
    have hai := ha.all0 (by decide) i
    have hbi := hb.all0 (by decide) i
    obtain ⟨x, hx⟩ : ∃ x, x = a.getD i 0 - c - b.getD i 0 := ⟨_, rfl⟩
    obtain ⟨y, e, hy0, hy1, he0, he1, hye, hcase⟩ : ∃ y e : Int, 0 ≤ y ∧ y < 16777216 ∧ 0 ≤ e ∧ e ≤ 1 ∧ x = y - 16777216 * e ∧ (x < 0 ∧ y = x + 16777216 ∧ e = 1 ∨ ¬ x < 0 ∧ y = x ∧ e = 0) := by
      by_cases hn : x < 0
      · exact ⟨x + 16777216, 1, by omega, by omega, by omega, by omega, by omega, .inl ⟨hn, rfl, rfl⟩⟩
      · exact ⟨x, 0, by omega, by omega, by omega, by omega, by omega, .inr ⟨hn, rfl, rfl⟩⟩
    obtain ⟨r, hr, h2⟩ := ih (i + 1) (out ++ [y]) e (by omega) (by simp; omega) (hdo.append (Dig.cons hy0 hy1 Dig.nil)) he0 he1 (by
      have := sub_step (a := a.getD i 0) (b := b.getD i 0) (c := c) (x := y) (c' := e) (p := 16777216) hinv (by omega)
      rw [val_snoc, hlen, val_take_succ' a i, val_take_succ' b i, Int.pow_succ]
      exact this)
    refine ⟨r, Ev.step (f := fun k => spec_l02Minus.l0 k a b (out ++ [y]) e ((i + 1 : Nat) : Int)) (fun k => ?_) hr, h2⟩
    simp only [spec_l02Minus.l0]
    rw [if_pos (by omega), if_pos (by omega), rdN, rdN, wrapZ (a.getD i 0 - c) (by omega) (by omega), wrapZ ((i : Int) + 1) (by omega) (by omega)]
    have hol : out.length < 17592186044416 := by omega
    by_cases hib : i < b.length
    · rw [if_pos (by omega), ← hx, wrapZ x (by omega) (by omega)]
      rcases hcase with ⟨hn, rfl, rfl⟩ | ⟨hn, rfl, rfl⟩
      · rw [if_pos hn, if_pos hol, wrapZ _ (by omega) (by omega)]; rfl
      · rw [if_neg hn, if_pos hol]; rfl
    · have hb0 : b.getD i 0 = 0 := getD_ge (by omega)
      rw [if_neg (by omega), show a.getD i 0 - c = x by omega]
      rcases hcase with ⟨hn, rfl, rfl⟩ | ⟨hn, rfl, rfl⟩
      · rw [if_pos hn, if_pos hol, wrapZ _ (by omega) (by omega)]; rfl
      · rw [if_neg hn, if_pos hol]; rfl
theorem sminus (a b : List Int) (ha : Dig 16777216 a) (hb : Dig 16777216 b) (hab : b.length ≤ a.length) (hl1 : a.length ≤ 1099511627776) (hle : val 16777216 b ≤ val 16777216 a) :
    ∃ r, Ev (fun k => spec_l02Minus.f k a b) r ∧ Dig 16777216 r ∧ val 16777216 r = val 16777216 a - val 16777216 b ∧ r.length = a.length := by
  unfold spec_l02Minus.f
  exact minus_loop a b ha hb hab hl1 hle a.length 0 [] 0 (by omega) rfl Dig.nil (by decide) (by decide) (by simp [val])
end Go.Proofs.Ytfinbmnjfnajiaa.Py
end
section
namespace Go.Proofs.Ytfinbmnjfnajiaa.Pz
open Go.RowKit Go.Proofs.YtfinbmnjfnajiaaW.PrintWords Go.Proofs.Ytfinbmnjfnajiaa.PW Go.Proofs.Ytfinbmnjfnajiaa.Pb Go.Proofs.Ytfinbmnjfnajiaa.Pc Go.Proofs.Ytfinbmnjfnajiaa.Pm Go.Proofs.Ytfinbmnjfnajiaa.Pw Go.Proofs.Ytfinbmnjfnajiaa.Px Go.Proofs.Ytfinbmnjfnajiaa.Pt Go.Proofs.Ytfinbmnjfnajiaa.Py Dg
set_option linter.unusedVariables false
set_option linter.unusedSimpArgs false
theorem smk_of {s z : Int} (h : z ≠ 0 → s = sgn z) : smk s z.natAbs = (sgn z, L z.natAbs) := by
  by_cases h0 : z = 0
  · subst h0; simp [smk, sgn, L_zero]
  · rw [h h0]; exact smk_sgn z
theorem sgn_zero {z : Int} : sgn z = 0 ↔ z = 0 := by
  unfold sgn
  split
  · omega
  · split <;> omega
theorem L_le {a b : Nat} (h : a ≤ b) : (L a).length ≤ (L b).length := by
  rcases Nat.lt_or_ge (L b).length (L a).length with h1 | h1
  · have := val_lt_of_length (by decide) (L_dig b) (L_dig a) (L_top a) h1
    rw [L_val, L_val] at this
    omega
  · exact h1
theorem sadd (x y : Int) (hx : bl x.natAbs ≤ 1099511627000) (hy : bl y.natAbs ≤ 1099511627000) : Ev (fun k => spec_l02Add.f k (sgn x) (L x.natAbs) (sgn y) (L y.natAbs)) (sgn (x + y), L (x + y).natAbs) := by
  have lx := L_len x.natAbs
  have ly := L_len y.natAbs
  have mk : ∀ (s : Int) (l : List Int) (z : Int), Dig 16777216 l → l.length ≤ 1099511627777 → val 16777216 l = (z.natAbs : Nat) → (z ≠ 0 → s = sgn z) → l.length ≤ 1099511627776 → Ev (fun k => spec_l02Make.f k s l) (sgn z, L z.natAbs) := by
    intro s l z hd _ hv hs hl
    have := smake s l hd hl
    rw [hv, Int.toNat_natCast, smk_of hs] at this
    exact this
  unfold spec_l02Add.f
  by_cases h0 : x = 0
  · subst h0
    refine ifp rfl (Ev.bind (f := fun k t => _) (mk (sgn y) (L y.natAbs) y (L_dig _) (by omega) (L_val _) (fun _ => rfl) (by omega)) (ev_of fun _ => ?_))
    rw [Int.zero_add]
  refine ifn (fun h => h0 (sgn_zero.1 h)) ?_
  by_cases h1 : y = 0
  · subst h1
    refine ifp rfl (Ev.bind (f := fun k t => _) (mk (sgn x) (L x.natAbs) x (L_dig _) (by omega) (L_val _) (fun _ => rfl) (by omega)) (ev_of fun _ => ?_))
    rw [Int.add_zero]
  refine ifn (fun h => h1 (sgn_zero.1 h)) ?_
  have sx : sgn x = 1 ∧ 0 < x ∨ sgn x = -1 ∧ x < 0 := by
    unfold sgn
    split
    · exact .inr ⟨rfl, by omega⟩
    · exact .inl ⟨rfl, by omega⟩
  have sy : sgn y = 1 ∧ 0 < y ∨ sgn y = -1 ∧ y < 0 := by
    unfold sgn
    split
    · exact .inr ⟨rfl, by omega⟩
    · exact .inl ⟨rfl, by omega⟩
  have sz : ∀ z : Int, (0 < z → sgn z = 1) ∧ (z < 0 → sgn z = -1) := fun z => ⟨fun h => by unfold sgn; rw [if_neg (by omega), if_neg (by omega)], fun h => by unfold sgn; rw [if_pos h]⟩
  by_cases he : sgn x = sgn y
  · refine ifp he ?_
    obtain ⟨r, hr, hd, hv, hl⟩ := splus (L x.natAbs) (L y.natAbs) (L_dig _) (L_dig _) (by omega) (by omega)
    rw [L_val, L_val] at hv
    refine Ev.bind (f := fun k t => _) hr (Ev.bind (f := fun k t => _) (mk (sgn x) r (x + y) hd (by omega) (by omega) (fun _ => ?_) (by omega)) (ev_of fun _ => rfl))
    have h2 := sz (x + y)
    rcases sx with ⟨e1, p1⟩ | ⟨e1, p1⟩ <;> rcases sy with ⟨e2, p2⟩ | ⟨e2, p2⟩
    · rw [e1, h2.1 (by omega)]
    · omega
    · omega
    · rw [e1, h2.2 (by omega)]
  · refine ifn he ?_
    have hc := slimbs (L_dig x.natAbs) (L_dig y.natAbs) (L_top _) (L_top _) (by omega) (by omega)
    rw [L_val, L_val] at hc
    refine Ev.bind (f := fun k t => _) hc ?_
    have h2 := sz (x + y)
    by_cases hle : y.natAbs ≤ x.natAbs
    · refine ifp ?_ ?_
      · unfold sgn; rw [if_neg (by omega)]; split <;> omega
      obtain ⟨r, hr, hd, hv, hl⟩ := sminus (L x.natAbs) (L y.natAbs) (L_dig _) (L_dig _) (L_le hle) (by omega) (by rw [L_val, L_val]; omega)
      rw [L_val, L_val] at hv
      refine Ev.bind (f := fun k t => _) hr (Ev.bind (f := fun k t => _) (mk (sgn x) r (x + y) hd (by omega) ?_ (fun _ => ?_) (by omega)) (ev_of fun _ => rfl))
      · rw [hv]
        rcases sx with ⟨e1, p1⟩ | ⟨e1, p1⟩ <;> rcases sy with ⟨e2, p2⟩ | ⟨e2, p2⟩ <;> omega
      · rcases sx with ⟨e1, p1⟩ | ⟨e1, p1⟩ <;> rcases sy with ⟨e2, p2⟩ | ⟨e2, p2⟩
        · omega
        · rw [e1, h2.1 (by omega)]
        · rw [e1, h2.2 (by omega)]
        · omega
    · refine ifn ?_ ?_
      · unfold sgn; rw [if_pos (by omega)]; omega
      obtain ⟨r, hr, hd, hv, hl⟩ := sminus (L y.natAbs) (L x.natAbs) (L_dig _) (L_dig _) (L_le (by omega)) (by omega) (by rw [L_val, L_val]; omega)
      rw [L_val, L_val] at hv
      refine Ev.bind (f := fun k t => _) hr (Ev.bind (f := fun k t => _) (mk (sgn y) r (x + y) hd (by omega) ?_ (fun _ => ?_) (by omega)) (ev_of fun _ => rfl))
      · rw [hv]
        rcases sx with ⟨e1, p1⟩ | ⟨e1, p1⟩ <;> rcases sy with ⟨e2, p2⟩ | ⟨e2, p2⟩ <;> omega
      · rcases sx with ⟨e1, p1⟩ | ⟨e1, p1⟩ <;> rcases sy with ⟨e2, p2⟩ | ⟨e2, p2⟩
        · omega
        · rw [e2, h2.2 (by omega)]
        · rw [e2, h2.1 (by omega)]
        · omega
end Go.Proofs.Ytfinbmnjfnajiaa.Pz
end
section
namespace Go.Proofs.Ytfinbmnjfnajiaa.Ss
open Go.RowKit Go.Proofs.YtfinbmnjfnajiaaW.PrintWords Go.Proofs.YtfinbmnjfnajiaaW.PrintMore Go.Proofs.Ytfinbmnjfnajiaa.PW Go.Proofs.Ytfinbmnjfnajiaa.Pb Go.Proofs.Ytfinbmnjfnajiaa.Pc Go.Proofs.Ytfinbmnjfnajiaa.Pm Go.Proofs.Ytfinbmnjfnajiaa.Pw Go.Proofs.Ytfinbmnjfnajiaa.Px Go.Proofs.Ytfinbmnjfnajiaa.Pt Go.Proofs.Ytfinbmnjfnajiaa.Pz Dg
set_option linter.unusedVariables false
set_option linter.unusedSimpArgs false
theorem i64_id {x : Int} (h0 : -9223372036854775808 ≤ x) (h1 : x ≤ 9223372036854775807) : IntKind.i64.wrap x = x := by rw [IntKind.wrap_i64]; omega
theorem td24 (n : Nat) (h : n ≤ 4611686018427387904) : wrap64 (Int.tdiv (n : Int) 24) = ((n / 24 : Nat) : Int) := by
  rw [Int.tdiv_eq_ediv_of_nonneg (by omega), wrapZ _ (by omega) (by omega)]; rfl
theorem tm24 (n : Nat) : Int.tmod (n : Int) 24 = ((n % 24 : Nat) : Int) := by
  rw [Int.tmod_eq_emod_of_nonneg (by omega)]; rfl
theorem um24 (n : Nat) : IntKind.u64.wrap (Int.tmod (n : Int) 24) = ((n % 24 : Nat) : Int) := by
  rw [tm24, IntKind.wrap_u64]; omega
theorem pow_le24 {r : Nat} (h : r ≤ 24) : 1 ≤ (2 : Int) ^ r ∧ (2 : Int) ^ r ≤ 16777216 := by
  have h1 := Nat.pow_le_pow_right (n := 2) (by decide) h
  have h2 := Nat.two_pow_pos r
  have e : ((2 : Int) ^ r) = ((2 ^ r : Nat) : Int) := by simp
  rw [e]; omega
theorem shl24 {x : Int} {r : Nat} (h0 : 0 ≤ x) (h1 : x < 16777216) (hr : r ≤ 24) : shl .i64 x (r : Int) = x * 2 ^ r ∧ 0 ≤ x * 2 ^ r ∧ x * 2 ^ r ≤ 16777215 * 16777216 := by
  have hp := pow_le24 hr
  have h2 : x * 2 ^ r ≤ 16777215 * 16777216 := Int.mul_le_mul (by omega) hp.2 (by omega) (by omega)
  have h3 : 0 ≤ x * 2 ^ r := Int.mul_nonneg h0 (by omega)
  refine ⟨?_, h3, h2⟩
  unfold shl
  rw [Int.toNat_natCast, Nat.min_eq_left (by show r ≤ 64; omega), i64_id (by omega) (by omega)]
theorem left_loop (s : Int) (a : List Int) (ha : Dig 16777216 a) (k : Nat) (hk : k ≤ 1073741824) (hm : a.length ≤ 1073741824) (hs : -1 ≤ s ∧ s ≤ 1) (S : Nat) (hS : val 16777216 a * 2 ^ (k % 24) * 16777216 ^ (k / 24) = S) (d : Nat) :
    ∀ (i : Nat) (ys : List Int) (c : Int), i + d = a.length → ys.length = k / 24 + i → Dig 16777216 ys → 0 ≤ c → c < 2 ^ (k % 24) →
      val 16777216 ys + 16777216 ^ (k / 24 + i) * c = val 16777216 (a.take i) * 2 ^ (k % 24) * 16777216 ^ (k / 24) →
      Ev (fun n => spec_l02Left.l0 n (k : Int) ys c (i : Int) s a) (smk s S) := by
  have hr : k % 24 ≤ 24 := by omega
  have hq : k / 24 ≤ 1073741824 := by omega
  have um := um24 k
  generalize k % 24 = r at *
  generalize k / 24 = q at *
  have hp := pow_le24 hr
  induction d with
  | zero =>
    intro i ys c hd hy hdy hc0 hc1 hinv
    have hi : i = a.length := by omega
    subst hi
    rw [List.take_length, hS] at hinv
    have hmk := smake s (ys ++ [c]) (hdy.append (Dig.cons hc0 (by omega) Dig.nil)) (by simp; omega)
    rw [val_snoc, hy] at hmk
    have e : ((16777216 : Nat) : Int) = 16777216 := rfl
    rw [e, hinv, Int.toNat_natCast] at hmk
    refine Ev.step (f := fun n => (spec_l02Make.f n s (ys ++ [c])).bind fun bt => (some (bt.1, bt.2))) (fun n => ?_) (Ev.bind (f := fun k t => _) hmk (ev_of fun _ => rfl))
    simp only [spec_l02Left.l0]
    rw [if_neg (by omega), if_pos (by omega)]
  | succ d ih =>
    intro i ys c hd hy hdy hc0 hc1 hinv
    have hai := ha.all0 (by decide) i
    obtain ⟨hs1, hs2, hs3⟩ := shl24 hai.1 hai.2 hr
    obtain ⟨x, hx⟩ : ∃ x, x = c + a.getD i 0 * 2 ^ r := ⟨_, rfl⟩
    have hxlt : x / 16777216 < 2 ^ r := by
      apply Int.ediv_lt_of_lt_mul (by decide)
      have : (a.getD i 0 + 1) * 2 ^ r ≤ 16777216 * 2 ^ r := Int.mul_le_mul_of_nonneg_right (by omega) (by omega)
      rw [Int.add_mul] at this
      rw [hx, Int.mul_comm (2 ^ r)]
      omega
    refine Ev.step (f := fun n => spec_l02Left.l0 n (k : Int) (ys ++ [x % 16777216]) (x / 16777216) ((i + 1 : Nat) : Int) s a) (fun n => ?_)
      (ih (i + 1) _ _ (by omega) (by simp; omega) (hdy.append (Dig.cons (by omega) (by omega) Dig.nil)) (by omega) hxlt ?_)
    · simp only [spec_l02Left.l0]
      rw [if_pos (by omega), if_pos (by omega), um, if_pos (by omega), if_pos (by omega), rdN, hs1, ← hx, wrapZ x (by omega) (by omega), Int.tmod_eq_emod_of_nonneg (by omega), Int.tdiv_eq_ediv_of_nonneg (by omega), wrapZ (x / 16777216) (by omega) (by omega), wrapZ ((i : Int) + 1) (by omega) (by omega)]
      rfl
    · rw [val_snoc, hy, val_take_succ' a i, show q + (i + 1) = q + i + 1 by omega, Int.pow_succ]
      have h1 : x = x % 16777216 + 16777216 * (x / 16777216) := by omega
      have e : ((16777216 : Nat) : Int) = 16777216 := rfl
      rw [e]
      rw [Int.pow_add] at hinv ⊢
      generalize (16777216 : Int) ^ i = P at *
      generalize (16777216 : Int) ^ q = Q at *
      generalize x % 16777216 = lo at *
      generalize x / 16777216 = hi' at *
      generalize a.getD i 0 = ai at *
      generalize (2 : Int) ^ r = R at *
      generalize val 16777216 ys = Vy at *
      generalize val 16777216 (a.take i) = Va at *
      clear ih hs1 hs2 hs3 um
      grind
theorem pow_split24 (k : Nat) : (2 : Int) ^ (k % 24) * 16777216 ^ (k / 24) = 2 ^ k := by
  rw [show (16777216 : Int) = 2 ^ 24 from rfl, ← Int.pow_mul, ← Int.pow_add]
  congr 1
  omega
theorem sgn_pow (x : Int) (k : Nat) : sgn (x * 2 ^ k) = sgn x := by
  have hp : (0 : Int) < 2 ^ k := Int.pow_pos (by decide)
  unfold sgn
  rcases Int.lt_trichotomy x 0 with h | h | h
  · rw [if_pos h, if_pos (Int.mul_neg_of_neg_of_pos h hp)]
  · subst h; simp
  · have := Int.mul_pos h hp
    rw [if_neg (by omega), if_neg (by omega), if_neg (by omega), if_neg (by omega)]
theorem sleft (x : Int) (k : Nat) (hx : bl x.natAbs ≤ 1073741824) (hk : k ≤ 1073741824) : Ev (fun n => spec_l02Left.f n (sgn x) (L x.natAbs) (k : Int)) (sgn (x * 2 ^ k), L (x * 2 ^ k).natAbs) := by
  have lx := L_len x.natAbs
  unfold spec_l02Left.f
  rw [td24 k (by omega)]
  refine ifp (by omega) (ifp (by omega) ?_)
  have := left_loop (sgn x) (L x.natAbs) (L_dig _) k hk (by omega) (sgn_range x) (x * 2 ^ k).natAbs (by
    rw [L_val, Int.mul_assoc, pow_split24, Int.natAbs_mul, Int.natCast_mul]
    have hp : (0 : Int) < 2 ^ k := Int.pow_pos (by decide)
    rw [Int.natAbs_of_nonneg (Int.le_of_lt hp)]) (L x.natAbs).length 0 (List.replicate ((k / 24 : Nat) : Int).toNat 0) 0 (by omega) (by rw [List.length_replicate, Int.toNat_natCast]; rfl) (dig_replicate (by decide) _) (by decide) (Int.pow_pos (by decide)) (by rw [List.take_zero, val_nil, val_zeros]; simp)
  rw [← sgn_pow x k, smk_sgn] at this
  rw [← sgn_pow x k]
  exact this
end Go.Proofs.Ytfinbmnjfnajiaa.Ss
end
section
namespace Go.Proofs.Ytfinbmnjfnajiaa.Pv
open Go.RowKit Go.Proofs.YtfinbmnjfnajiaaW.PrintWords Go.Proofs.Ytfinbmnjfnajiaa.PW Go.Proofs.Ytfinbmnjfnajiaa.Pb Go.Proofs.Ytfinbmnjfnajiaa.Pc Go.Proofs.Ytfinbmnjfnajiaa.Pm Go.Proofs.Ytfinbmnjfnajiaa.Pw Go.Proofs.Ytfinbmnjfnajiaa.Px Dg
set_option linter.unusedVariables false
set_option linter.unusedSimpArgs false
theorem tdm (x : Int) : ((Int.tmod x 16777216 < 0 ∧ -(Int.tmod x 16777216) = ((x.natAbs % 16777216 : Nat) : Int)) ∨ (¬ Int.tmod x 16777216 < 0 ∧ Int.tmod x 16777216 = ((x.natAbs % 16777216 : Nat) : Int))) ∧ (Int.tdiv x 16777216).natAbs = x.natAbs / 16777216 ∧ (Int.tdiv x 16777216 = ((x.natAbs / 16777216 : Nat) : Int) ∨ Int.tdiv x 16777216 = -((x.natAbs / 16777216 : Nat) : Int)) := by
  by_cases h : 0 ≤ x
  · obtain ⟨m, rfl⟩ := Int.eq_ofNat_of_zero_le h
    rw [Int.tmod_eq_emod_of_nonneg (by omega), Int.tdiv_eq_ediv_of_nonneg (by omega)]
    omega
  · obtain ⟨m, hm⟩ := Int.eq_ofNat_of_zero_le (show 0 ≤ -x by omega)
    obtain rfl : x = -(m : Int) := by omega
    rw [Int.neg_tmod, Int.neg_tdiv, Int.tmod_eq_emod_of_nonneg (by omega), Int.tdiv_eq_ediv_of_nonneg (by omega)]
    omega
theorem sof_loop (n : Nat) (s : Int) (hn : (L n).length ≤ 1099511627776) : ∀ (m : Nat) (x : Int), x.natAbs = m → -9223372036854775808 ≤ x → x ≤ 9223372036854775807 → ∀ y : List Int, y ++ L m = L n → Ev (fun k => spec_l02Of.l0 k x s y) (smk s n) := by
  intro m
  induction m using Nat.strongRecOn with
  | ind m ih =>
    intro x hx h1 h2 y hy
    have hyl : y.length ≤ 1099511627776 := by have := congrArg List.length hy; rw [List.length_append] at this; omega
    by_cases h0 : x = 0
    · subst h0
      have : m = 0 := by omega
      subst this
      rw [L_zero, List.append_nil] at hy
      subst hy
      have hm := smake s (L n) (L_dig n) hn
      rw [L_val, Int.toNat_natCast] at hm
      refine Ev.step (f := fun k => (spec_l02Make.f k s (L n)).bind fun t => some (t.1, t.2)) (fun k => ?_) (Ev.bind (f := fun k t => _) hm (ev_of fun _ => rfl))
      simp only [spec_l02Of.l0]
      rw [if_pos trivial]
    · have hm0 : m ≠ 0 := by omega
      obtain ⟨hd, hq, hq2⟩ := tdm x
      rw [hx] at hd hq hq2
      have hL : L m = ((m % 16777216 : Nat) : Int) :: L (m / 16777216) := dg_pos _ hm0
      rw [hL] at hy
      have hq3 : wrap64 (Int.tdiv x 16777216) = Int.tdiv x 16777216 := wrapZ _ (by omega) (by omega)
      refine Ev.step (f := fun k => spec_l02Of.l0 k (Int.tdiv x 16777216) s (y ++ [((m % 16777216 : Nat) : Int)])) (fun k => ?_) (ih (m / 16777216) (Nat.div_lt_self (by omega) (by decide)) _ hq (by omega) (by omega) _ (by rw [List.append_assoc]; exact hy))
      simp only [spec_l02Of.l0]
      rw [if_neg h0]
      rcases hd with ⟨ha, hb⟩ | ⟨ha, hb⟩
      · rw [if_pos ha, if_pos (by omega), hq3, hb, wrapZ _ (by omega) (by omega)]
      · rw [if_neg ha, if_pos (by omega), hq3, hb]
theorem sof (n : Int) (h1 : -9223372036854775808 ≤ n) (h2 : n ≤ 9223372036854775807) : Ev (fun k => spec_l02Of.f k n) (sgn n, L n.natAbs) := by
  have hl : (L n.natAbs).length ≤ 1099511627776 := by
    have h3 := L_len n.natAbs
    have h4 : bl n.natAbs ≤ 64 := bl_le (k := 64) (by omega)
    omega
  unfold spec_l02Of.f
  simp only [Option.bind_some]
  by_cases h : n < 0
  · refine ifp h (Ev.step (f := fun k => spec_l02Of.l0 k n (-1) []) (fun k => rfl) ?_)
    rw [← smk_one n (-1) (by rw [if_pos h])]
    exact sof_loop n.natAbs (-1) hl n.natAbs n rfl h1 h2 [] rfl
  · refine ifn h (Ev.step (f := fun k => spec_l02Of.l0 k n 1 []) (fun k => rfl) ?_)
    rw [← smk_one n 1 (by rw [if_neg h])]
    exact sof_loop n.natAbs 1 hl n.natAbs n rfl h1 h2 [] rfl
end Go.Proofs.Ytfinbmnjfnajiaa.Pv
end
section
namespace Go.Proofs.Ytfinbmnjfnajiaa.Pu
end Go.Proofs.Ytfinbmnjfnajiaa.Pu
end
section
namespace Go.Proofs.Ytfinbmnjfnajiaa.Ps
open Go.RowKit Go.Proofs.YtfinbmnjfnajiaaW.PrintWords Go.Proofs.Ytfinbmnjfnajiaa.PW Go.Proofs.Ytfinbmnjfnajiaa.Pb Go.Proofs.Ytfinbmnjfnajiaa.Pc Go.Proofs.Ytfinbmnjfnajiaa.Pm Go.Proofs.Ytfinbmnjfnajiaa.Pw Dg
set_option linter.unusedVariables false
set_option linter.unusedSimpArgs false
theorem slength_loop : ∀ (m : Nat) (d : Nat), bl d = m → d < 16777216 → ∀ n : Nat, n + m ≤ 1099511627776 → Ev (fun k => spec_l02Length.l0 k (n : Int) (d : Int)) ((n + bl d : Nat) : Int) := by
  intro m
  induction m with
  | zero =>
    intro d hd _ n hn
    have := bl_eq_zero.1 hd
    subst this
    refine Ev.step (f := fun _ => some (n : Int)) (fun k => ?_) (ev_of fun _ => by rw [bl_zero]; rfl)
    simp only [spec_l02Length.l0]
    rw [if_neg (by omega)]
  | succ m ih =>
    intro d hd hlt n hn
    have h0 : d ≠ 0 := by intro h; subst h; rw [bl_zero] at hd; omega
    have hh := bl_half h0
    have e : Int.tdiv (d : Int) 2 = ((d / 2 : Nat) : Int) := by rw [Int.tdiv_eq_ediv_of_nonneg (by omega)]; rfl
    refine Ev.step (f := fun k => spec_l02Length.l0 k ((n + 1 : Nat) : Int) ((d / 2 : Nat) : Int)) (fun k => ?_) ?_
    · simp only [spec_l02Length.l0]
      rw [if_pos (by omega), e, wrapZ _ (by omega) (by omega), wrapZ _ (by omega) (by omega)]
      rfl
    · have := ih (d / 2) (by omega) (by omega) (n + 1) (by omega)
      rw [show n + bl d = n + 1 + bl (d / 2) by omega]
      exact this
theorem slength (s : Int) (n : Nat) (hb : bl n ≤ 1073741824) : Ev (fun k => spec_l02Length.f k s (L n)) ((bl n : Nat) : Int) := by
  unfold spec_l02Length.f
  have hl := L_len n
  by_cases h : n = 0
  · subst h
    exact ifp (by rw [L_zero]; rfl) (ev_of fun _ => rfl)
  · have hp := L_pos h
    obtain ⟨d, hd, h1, h2, h3⟩ := L_last h
    have e1 : wrap64 (((L n).length : Int) - 1) = (((L n).length - 1 : Nat) : Int) := by rw [wrapZ _ (by omega) (by omega)]; omega
    refine ifn (by omega) ?_
    rw [e1]
    refine ifp (by omega) (ifp (by omega) ?_)
    rw [rdN, hd, wrapZ _ (by omega) (by omega), h3]
    have := slength_loop (bl d) d rfl h2 (24 * ((L n).length - 1)) (by omega)
    rw [show ((24 * ((L n).length - 1) : Nat) : Int) = (((L n).length - 1 : Nat) : Int) * 24 by omega] at this
    exact this
end Go.Proofs.Ytfinbmnjfnajiaa.Ps
end
section
namespace Go.Proofs.Ytfinbmnjfnajiaa.PW
open Go.RowKit Go.Proofs.YtfinbmnjfnajiaaW.PrintWords Go.Proofs.YtfinbmnjfnajiaaW.PrintLast Go.Proofs.YtfinbmnjfnajiaaW.PrintMore
attribute [local go_sem] max2_int min2_int max_two min_two max_three min_three max_four min_four   -- for this text's walks alone
set_option linter.unusedVariables false
set_option linter.unusedSimpArgs false
def laws_markDyadic.f (k : Nat) (a0_0 : Int) (l0_1 : List Int) (a0_2 : Int) (a1 : Int) : Option (Int × List Int) := (laws_markWhole.f k a0_0 l0_1 a1).bind fun bt689 => (some (bt689.1, bt689.2))
theorem laws_markDyadic.mono : ∀ a0 a1 a2 a3 k, LeO (laws_markDyadic.f k a0 a1 a2 a3) (laws_markDyadic.f (k + 1) a0 a1 a2 a3) := by
  intro a0 a1 a2 a3 k
  unfold laws_markDyadic.f
  repeat' first
      | (with_reducible exact laws_markWhole.mono _ _ _ _)
      | (with_reducible exact LeO.refl _)
      | (with_reducible exact LeO.none _)
      | (with_reducible refine LeO.ite ?_ ?_)
      | (with_reducible refine LeO.bind ?_ (fun _ => ?_))
      | exact laws_markWhole.mono _ _ _ _
      | exact LeO.none _
      | refine LeO.ite ?_ ?_
      | refine LeO.bind ?_ (fun _ => ?_)
end Go.Proofs.Ytfinbmnjfnajiaa.PW
end
section
namespace Go.Proofs.Ytfinbmnjfnajiaa.Lk
open Go.RowKit Go.Proofs.YtfinbmnjfnajiaaW.PrintWords Go.Proofs.Ytfinbmnjfnajiaa.PW Go.Proofs.Ytfinbmnjfnajiaa.Pb Go.Proofs.Ytfinbmnjfnajiaa.Pc Go.Proofs.Ytfinbmnjfnajiaa.Px Dg
set_option linter.unusedVariables false
set_option linter.unusedSimpArgs false
theorem mark_loop (a : Int) (ha : 0 ≤ a) (hb : a ≤ 1099511627776) (n : Nat) (hn : n ≤ 1099511627776) (d : Nat) : ∀ (i : Nat) (ys : List Int), i + d = n → ys.length = n → ys.take i = mks a i → Ev (fun k => laws_markInt64S.l0 k ys (a + (i : Int)) (i : Int)) (a + (n : Int), mks a n) := by
  induction d with
  | zero =>
    intro i ys hi hy h
    obtain rfl : i = n := by omega
    rw [List.take_of_length_le (by omega)] at h
    subst h
    refine Ev.step (f := fun _ => some (a + (i : Int), mks a i)) (fun k => ?_) (ev_of fun _ => rfl)
    simp only [laws_markInt64S.l0]
    rw [if_neg (by omega)]
  | succ d ih =>
    intro i ys hi hy h
    refine Ev.step (f := fun k => laws_markInt64S.l0 k (ys.set i (a + (i : Int))) (a + ((i + 1 : Nat) : Int)) ((i + 1 : Nat) : Int)) (fun k => ?_) (ih (i + 1) _ (by omega) (by simpa using hy) ?_)
    · simp only [laws_markInt64S.l0]
      rw [if_pos (by omega), if_pos (by omega), wrapZ _ (by omega) (by omega), wrapZ _ (by omega) (by omega), Int.toNat_natCast]
      congr 1
      omega
    · rw [List.take_succ_eq_append_getElem (by simp; omega), Dg.take_set, h, mks_succ]
      simp
theorem marks (s : Int) (l : List Int) (a : Int) (ha : 0 ≤ a) (hb : a ≤ 1099511627776) (hl : l.length ≤ 1099511627776) : Ev (fun k => laws_markWhole.f k s l a) (a + (l.length : Int), mks a l.length) := by
  unfold laws_markWhole.f laws_markInt64S.f
  have := mark_loop a ha hb l.length hl l.length 0 l (by omega) rfl rfl
  rw [show a + ((0 : Nat) : Int) = a by omega] at this
  exact Ev.bind (f := fun k t => _) this (ev_of fun _ => rfl)
end Go.Proofs.Ytfinbmnjfnajiaa.Lk
end
