/- Lemmas of the claim: PWx91, PWx92, PWx117, PWx118, PWx6, PWx33, PWx3, PWx31, PWx82, Px, Pt, Py, Pz, Ss, PWx13, Pv, Pzs, St, Qa, Sm, Qb, PWx10, PWx14, PWx22, Ps, PWx34, PWx7, PWx8. -/
import Derived.Test.YtjddhnjjeomfjaaQNIg
import Derived.Test.YtjddhnjjeomfjaaQNIh
import Derived.Test.YtjddhnjjeomfjaaQNIa
section
namespace Go.Proofs.Ytjddhnjjeomfjaa.PW
open Go.RowKit Go.Proofs.YtjddhnjjeomfjaaW.PrintWords Go.Proofs.YtjddhnjjeomfjaaW.PrintLast Go.Proofs.YtjddhnjjeomfjaaW.PrintMore
attribute [local go_sem] max2_int min2_int max_two min_two max_three min_three max_four min_four   -- for this text's walks alone
set_option linter.unusedVariables false
set_option linter.unusedSimpArgs false
def spec_l03Make.f (k : Nat) (a0_0 : Int) (l0_1 : List Int) (a1 : Int) : Option (Int × List Int × Int) := if a0_0 = 0 then (some (0, ([] : List Int), 0)) else ((spec_l02Twos.f k a0_0 l0_1).bind fun t408 => ((spec_l02Cut.f k a0_0 l0_1 t408).bind fun bt409 => (some (bt409.1, bt409.2, wrap64 (a1 + t408)))))
theorem spec_l03Make.mono : ∀ a0 a1 a2 k, LeO (spec_l03Make.f k a0 a1 a2) (spec_l03Make.f (k + 1) a0 a1 a2) := by
  intro a0 a1 a2 k
  unfold spec_l03Make.f
  repeat' first
      | (with_reducible exact spec_l02Cut.mono _ _ _ _)
      | (with_reducible exact spec_l02Twos.mono _ _ _)
      | (with_reducible exact LeO.refl _)
      | (with_reducible exact LeO.none _)
      | (with_reducible refine LeO.ite ?_ ?_)
      | (with_reducible refine LeO.bind ?_ (fun _ => ?_))
      | exact spec_l02Cut.mono _ _ _ _
      | exact spec_l02Twos.mono _ _ _
      | exact LeO.none _
      | refine LeO.ite ?_ ?_
      | refine LeO.bind ?_ (fun _ => ?_)
set_option maxHeartbeats 8000000 in
set_option maxRecDepth 100000 in
theorem spec_l03Make.calls (k : Nat) (a0_0 : Int) (A0_1 : Option Addr) (c0_1 : Nat) (l0_1 : List Int) (a1 : Int) (r1 : Int) (r2 : List Int) (r3 : Int) (w : World) (hr0_1 : Kd.C (Kd.int .i64) w A0_1 l0_1.length l0_1) (hc0_1 : l0_1.length ≤ c0_1) (h : spec_l03Make.f k a0_0 l0_1 a1 = some (r1, r2, r3)) :
    Calls Try.prog 91 #[.agg #[.int .i64 a0_0, .slice A0_1 l0_1.length c0_1], .int .i64 a1] w fun e w' => ∃ v1_ : Value, e = .returned (.agg #[.int .i64 r1, v1_, .int .i64 r3]) ∧ Kd.R (Kd.int .i64) 2 w' w.heap.size (fun _ => True) v1_ r2 ∧ Below w.heap.size w w' := by
  have hu31 := Try.underlying31
  have hu33 := Try.underlying33
  have HR0_1 := Aside0.mk hr0_1
  have HC0_1 := Aside0.mk hc0_1
  clear hr0_1 hc0_1
  have HB := Aside0.mk (Below.refl w.heap.size w)
  have H : (if a0_0 = 0 then (some (0, ([] : List Int), 0)) else ((spec_l02Twos.f k a0_0 l0_1).bind fun t408 => ((spec_l02Cut.f k a0_0 l0_1 t408).bind fun bt409 => (some (bt409.1, bt409.2, wrap64 (a1 + t408)))))) = some (r1, r2, r3) := h
  clear h
  by_cases c3 : a0_0 = 0
  · rw [if_pos c3] at H
    have c3b0 : (a0_0 == 0) = true := beq_iff_eq.mpr c3
    have c3b1 : (a0_0 != 0) = false := bne_eq_false_iff_eq.mpr c3
    clear c3
    simp only [Option.some.injEq, Prod.mk.injEq] at H
    obtain ⟨rfl, rfl, rfl⟩ := H
    go_enter Try.func91, Try.ntmps91
    go_wp2_with (first | ((with_reducible refine gate_dst (N := 2) rfl ?_); refine box_event ?hg (N := 2) ?hd (cs := #[.int .i64 a0_0, .slice A0_1 l0_1.length c0_1]) (t := 31) ?hr ?_; (case hd => rfl); (case hg => rfl); (case hr => first | (go_simp; done) | (go_simp; rfl)); intro gb406 hg w4 hbox hb; have n0_ := Aside0.mk (below_step (by repeat (first | (with_reducible first | exact HB.out | apply below_alloc | apply pw_below_drewN | apply below_drew1) | exact HB.out)) hb); have n1_ := Aside0.mk (hbox); have n2_ := Aside0.mk ((by rw [hg]; exact (below_size (by repeat (first | (with_reducible first | exact HB.out | apply below_alloc | apply pw_below_drewN | apply below_drew1) | exact HB.out))) : w.heap.size ≤ gb406)); have n3_ := Aside0.mk ((by rw [hg]; exact (below_size (by repeat (first | (with_reducible first | exact HB.out | apply below_alloc | apply pw_below_drewN | apply below_drew1) | exact HB.out))) : w.heap.size ≤ gb406)); clear HB; have HB := n0_; have BK406 := n1_; have GW406 := n2_; have GE406 := n3_; clear n0_ n1_ n2_ n3_; clear hb hbox hg) | ((with_reducible refine gate_dst (N := 4) rfl ?_); refine box_event ?hg (N := 4) ?hd (cs := #[.int .i64 0, .slice none 0 0, .int .i64 0]) (t := 33) ?hr ?_; (case hd => rfl); (case hg => rfl); (case hr => first | (go_simp; done) | (go_simp; rfl)); intro gb407 hg w5 hbox hb; have n0_ := Aside0.mk (blk_below (g := gb406) (o := .cells #[.int .i64 a0_0, .slice A0_1 l0_1.length c0_1] 31 (0, 0)) (by (with_reducible repeat (first | refine blk_drewN ?_ _ | refine blk_drew ?_ | refine blk_alloc ?_ _)); exact BK406.out) hb); have n1_ := Aside0.mk (below_step (by repeat (first | (with_reducible first | exact HB.out | apply below_alloc | apply pw_below_drewN | apply below_drew1 | refine below_set ?_ GE406.out) | exact HB.out)) hb); have n2_ := Aside0.mk (hbox); have n3_ := Aside0.mk ((by rw [hg]; exact (below_size (by repeat (first | (with_reducible first | exact HB.out | apply below_alloc | apply pw_below_drewN | apply below_drew1 | refine below_set ?_ GE406.out) | exact HB.out))) : w.heap.size ≤ gb407)); have n4_ := Aside0.mk ((by rw [hg]; exact (below_size (by repeat (first | (with_reducible first | exact HB.out | apply below_alloc | apply pw_below_drewN | apply below_drew1 | refine below_set ?_ GE406.out) | exact HB.out))) : w.heap.size ≤ gb407)); have n5_ := Aside0.mk ((by rw [hg]; exact Nat.ne_of_lt (blk_lt (g := gb406) (o := .cells #[.int .i64 a0_0, .slice A0_1 l0_1.length c0_1] 31 (0, 0)) (by (with_reducible repeat (first | refine blk_drewN ?_ _ | refine blk_drew ?_ | refine blk_alloc ?_ _)); exact BK406.out)) : gb406 ≠ gb407)); have n6_ := Aside0.mk ((by rw [hg]; exact Nat.ne_of_gt (blk_lt (g := gb406) (o := .cells #[.int .i64 a0_0, .slice A0_1 l0_1.length c0_1] 31 (0, 0)) (by (with_reducible repeat (first | refine blk_drewN ?_ _ | refine blk_drew ?_ | refine blk_alloc ?_ _)); exact BK406.out)) : gb407 ≠ gb406)); clear BK406; clear HB; have BK406 := n0_; have HB := n1_; have BK407 := n2_; have GW407 := n3_; have GE407 := n4_; have NB406_407 := n5_; have NB407_406 := n6_; clear n0_ n1_ n2_ n3_ n4_ n5_ n6_; clear hb hbox hg; have hnb6 := NB406_407.out; have hnc6 := NB407_406.out; have hcz7_0 : w5.cell? ⟨gb406, 0, none⟩ = some (.int .i64 a0_0) := (blk_cell BK406.out 0).trans rfl; have hcz7_1 : w5.cell? ⟨gb406, 1, none⟩ = some (.slice A0_1 l0_1.length c0_1) := (blk_cell BK406.out 1).trans rfl; have hfz7_0 := blk_frozen BK406.out 0; have hfz7_1 := blk_frozen BK406.out 1; have hcz8_0 : w5.cell? ⟨gb407, 0, none⟩ = some (.int .i64 0) := (blk_cell BK407.out 0).trans rfl; have hcz8_1 : w5.cell? ⟨gb407, 1, none⟩ = some (.slice none 0 0) := (blk_cell BK407.out 1).trans rfl; have hcz8_2 : w5.cell? ⟨gb407, 2, none⟩ = some (.int .i64 0) := (blk_cell BK407.out 2).trans rfl; have hfz8_0 := blk_frozen BK407.out 0; have hfz8_1 := blk_frozen BK407.out 1; have hfz8_2 := blk_frozen BK407.out 2))
    refine bodyPost_ret (results_cell_row rfl _ _ gb407 33 #[.int .i64 0, .slice none 0 0, .int .i64 0] (0, 0) _ rfl (by (with_reducible repeat (first | refine blk_drewN ?_ _ | refine blk_drew ?_ | refine blk_alloc ?_ _)); refine blk_put (cs := #[.int .i64 0, .slice none 0 0, .int .i64 0]) ?_ 2 _ rfl; (with_reducible repeat (first | refine blk_drewN ?_ _ | refine blk_drew ?_ | refine blk_alloc ?_ _)); refine blk_put (cs := #[.int .i64 0, .slice none 0 0, .int .i64 0]) ?_ 1 _ rfl; (with_reducible repeat (first | refine blk_drewN ?_ _ | refine blk_drew ?_ | refine blk_alloc ?_ _)); refine blk_put (cs := #[.int .i64 0, .slice none 0 0, .int .i64 0]) ?_ 0 _ rfl; (with_reducible repeat (first | refine blk_drewN ?_ _ | refine blk_drew ?_ | refine blk_alloc ?_ _)); exact BK407.out) Try.underlying33 rfl (by kernel_rfl)) rfl ?_
    exact ⟨_, by first | rfl | (simp [errW_none, errW_some] <;> rfl) | (simp [*, errW_none, errW_some] <;> rfl), by first | exact Kd.R_nil _ _ _ _ _ | exact Kd.N_nil _ _ _ _ _ | exact Kd.V_nil _ _ _ _ _ | exact Kd.Q_nil _ _ _ _ _ | exact Kd.S_nil _ _ _ _ _, by repeat (first | (with_reducible first | exact HB.out | apply below_alloc | apply pw_below_drewN | apply below_drew1 | refine below_set ?_ GE406.out | refine below_set ?_ GE407.out) | exact HB.out)⟩
  · rw [if_neg c3] at H
    have c3b0 : (a0_0 == 0) = false := beq_eq_false_iff_ne.mpr c3
    have c3b1 : (a0_0 != 0) = true := bne_iff_ne.mpr c3
    replace H := Option.bind_eq_some_iff.mp H
    obtain ⟨t408, A90, H⟩ := H
    replace H : ((spec_l02Cut.f k a0_0 l0_1 t408).bind fun bt409 => (some (bt409.1, bt409.2, wrap64 (a1 + t408)))) = some (r1, r2, r3) := H
    have A9 := Aside0.mk A90
    clear A90
    replace H := Option.bind_eq_some_iff.mp H
    obtain ⟨⟨t409, t410⟩, A100, H⟩ := H
    replace H : (some (t409, t410, wrap64 (a1 + t408))) = some (r1, r2, r3) := H
    have A10 := Aside0.mk A100
    clear A100
    simp only [Option.some.injEq, Prod.mk.injEq] at H
    obtain ⟨rfl, rfl, rfl⟩ := H
    go_enter Try.func91, Try.ntmps91
    go_wp2_with (first | ((with_reducible refine gate_dst (N := 2) rfl ?_); refine box_event ?hg (N := 2) ?hd (cs := #[.int .i64 a0_0, .slice A0_1 l0_1.length c0_1]) (t := 31) ?hr ?_; (case hd => rfl); (case hg => rfl); (case hr => first | (go_simp; done) | (go_simp; rfl)); intro gb406 hg w11 hbox hb; have n0_ := Aside0.mk (below_step (by repeat (first | (with_reducible first | exact HB.out | apply below_alloc | apply pw_below_drewN | apply below_drew1) | exact HB.out)) hb); have n1_ := Aside0.mk (hbox); have n2_ := Aside0.mk ((by rw [hg]; exact (below_size (by repeat (first | (with_reducible first | exact HB.out | apply below_alloc | apply pw_below_drewN | apply below_drew1) | exact HB.out))) : w.heap.size ≤ gb406)); have n3_ := Aside0.mk ((by rw [hg]; exact (below_size (by repeat (first | (with_reducible first | exact HB.out | apply below_alloc | apply pw_below_drewN | apply below_drew1) | exact HB.out))) : w.heap.size ≤ gb406)); clear HB; have HB := n0_; have BK406 := n1_; have GW406 := n2_; have GE406 := n3_; clear n0_ n1_ n2_ n3_; clear hb hbox hg) | ((with_reducible refine gate_dst (N := 4) rfl ?_); refine box_event ?hg (N := 4) ?hd (cs := #[.int .i64 0, .slice none 0 0, .int .i64 0]) (t := 33) ?hr ?_; (case hd => rfl); (case hg => rfl); (case hr => first | (go_simp; done) | (go_simp; rfl)); intro gb407 hg w12 hbox hb; have n0_ := Aside0.mk (blk_below (g := gb406) (o := .cells #[.int .i64 a0_0, .slice A0_1 l0_1.length c0_1] 31 (0, 0)) (by (with_reducible repeat (first | refine blk_drewN ?_ _ | refine blk_drew ?_ | refine blk_alloc ?_ _)); exact BK406.out) hb); have n1_ := Aside0.mk (below_step (by repeat (first | (with_reducible first | exact HB.out | apply below_alloc | apply pw_below_drewN | apply below_drew1 | refine below_set ?_ GE406.out) | exact HB.out)) hb); have n2_ := Aside0.mk (hbox); have n3_ := Aside0.mk ((by rw [hg]; exact (below_size (by repeat (first | (with_reducible first | exact HB.out | apply below_alloc | apply pw_below_drewN | apply below_drew1 | refine below_set ?_ GE406.out) | exact HB.out))) : w.heap.size ≤ gb407)); have n4_ := Aside0.mk ((by rw [hg]; exact (below_size (by repeat (first | (with_reducible first | exact HB.out | apply below_alloc | apply pw_below_drewN | apply below_drew1 | refine below_set ?_ GE406.out) | exact HB.out))) : w.heap.size ≤ gb407)); have n5_ := Aside0.mk ((by rw [hg]; exact Nat.ne_of_lt (blk_lt (g := gb406) (o := .cells #[.int .i64 a0_0, .slice A0_1 l0_1.length c0_1] 31 (0, 0)) (by (with_reducible repeat (first | refine blk_drewN ?_ _ | refine blk_drew ?_ | refine blk_alloc ?_ _)); exact BK406.out)) : gb406 ≠ gb407)); have n6_ := Aside0.mk ((by rw [hg]; exact Nat.ne_of_gt (blk_lt (g := gb406) (o := .cells #[.int .i64 a0_0, .slice A0_1 l0_1.length c0_1] 31 (0, 0)) (by (with_reducible repeat (first | refine blk_drewN ?_ _ | refine blk_drew ?_ | refine blk_alloc ?_ _)); exact BK406.out)) : gb407 ≠ gb406)); clear BK406; clear HB; have BK406 := n0_; have HB := n1_; have BK407 := n2_; have GW407 := n3_; have GE407 := n4_; have NB406_407 := n5_; have NB407_406 := n6_; clear n0_ n1_ n2_ n3_ n4_ n5_ n6_; clear hb hbox hg; have hnb13 := NB406_407.out; have hnc13 := NB407_406.out; have hcz14_0 : w12.cell? ⟨gb406, 0, none⟩ = some (.int .i64 a0_0) := (blk_cell BK406.out 0).trans rfl; have hcz14_1 : w12.cell? ⟨gb406, 1, none⟩ = some (.slice A0_1 l0_1.length c0_1) := (blk_cell BK406.out 1).trans rfl; have hfz14_0 := blk_frozen BK406.out 0; have hfz14_1 := blk_frozen BK406.out 1) | ((with_reducible refine gate_callee (f := 129) rfl ?_); refine goesL_ (some 11) rfl rfl Try.func129 (by kernel_rfl) rfl #[.agg #[.int .i64 a0_0, .slice A0_1 l0_1.length c0_1]] rfl (by (try simp only [List.map_toArray, List.map_cons, List.map_nil]); first | done | rfl | (simp only [List.length_drop, List.length_take]; rfl)) ?_; (with_reducible refine (spec_l02Twos.calls k a0_0 _ _ l0_1 t408 _ ?side1 ?side2 A9.out).mono ?_); (case side1 => repeat (first | exact (Kd.C_below HR0_1.out HB.out) | (with_reducible refine Kd.C_alloc ?_ _) | (with_reducible refine Kd.C_drewN ?_ _) | (with_reducible refine Kd.C_drew ?_))); (case side2 => exact HC0_1.out); rintro e w15 ⟨rfl, hb⟩; refine ⟨_, rfl, ?_⟩; have n0_ := Aside0.mk (blk_below (g := gb406) (o := .cells #[.int .i64 a0_0, .slice A0_1 l0_1.length c0_1] 31 (0, 0)) (by (with_reducible repeat (first | refine blk_drewN ?_ _ | refine blk_drew ?_ | refine blk_alloc ?_ _)); exact BK406.out) hb); have n1_ := Aside0.mk (blk_below (g := gb407) (o := .cells #[.int .i64 0, .slice none 0 0, .int .i64 0] 33 (0, 0)) (by (with_reducible repeat (first | refine blk_drewN ?_ _ | refine blk_drew ?_ | refine blk_alloc ?_ _)); exact BK407.out) hb); have n2_ := Aside0.mk (below_step (by repeat (first | (with_reducible first | exact HB.out | apply below_alloc | apply pw_below_drewN | apply below_drew1 | refine below_set ?_ GE406.out | refine below_set ?_ GE407.out) | exact HB.out)) hb); clear BK406; clear BK407; clear HB; have BK406 := n0_; have BK407 := n1_; have HB := n2_; clear n0_ n1_ n2_; (try clear hb); (try clear hb2); (try clear hk); (try clear hi); have hcz16_0 : w15.cell? ⟨gb406, 0, none⟩ = some (.int .i64 a0_0) := (blk_cell BK406.out 0).trans rfl; have hcz16_1 : w15.cell? ⟨gb406, 1, none⟩ = some (.slice A0_1 l0_1.length c0_1) := (blk_cell BK406.out 1).trans rfl; have hfz16_0 := blk_frozen BK406.out 0; have hfz16_1 := blk_frozen BK406.out 1) | ((with_reducible refine gate_callee (f := 103) rfl ?_); refine goesL_ (some 14) rfl rfl Try.func103 (by kernel_rfl) rfl #[.agg #[.int .i64 a0_0, .slice A0_1 l0_1.length c0_1], .int .i64 t408] rfl (by (try simp only [List.map_toArray, List.map_cons, List.map_nil]); first | done | rfl | (simp only [List.length_drop, List.length_take]; rfl)) ?_; (with_reducible refine (spec_l02Cut.calls k a0_0 _ _ l0_1 t408 t409 t410 _ ?side1 ?side2 A10.out).mono ?_); (case side1 => repeat (first | exact (Kd.C_below HR0_1.out HB.out) | (with_reducible refine Kd.C_alloc ?_ _) | (with_reducible refine Kd.C_drewN ?_ _) | (with_reducible refine Kd.C_drew ?_))); (case side2 => exact HC0_1.out); rintro e w17 ⟨v411, rfl, ho0, hb⟩; refine ⟨_, rfl, ?_⟩; have n0_ := Aside0.mk (Kd.R_lower ho0 (below_size (by repeat (first | (with_reducible first | exact HB.out | apply below_alloc | apply pw_below_drewN | apply below_drew1 | refine below_set ?_ GE406.out | refine below_set ?_ GE407.out) | exact HB.out)))); have n1_ := Aside0.mk (blk_below (g := gb406) (o := .cells #[.int .i64 a0_0, .slice A0_1 l0_1.length c0_1] 31 (0, 0)) (by (with_reducible repeat (first | refine blk_drewN ?_ _ | refine blk_drew ?_ | refine blk_alloc ?_ _)); exact BK406.out) hb); have n2_ := Aside0.mk (blk_below (g := gb407) (o := .cells #[.int .i64 0, .slice none 0 0, .int .i64 0] 33 (0, 0)) (by (with_reducible repeat (first | refine blk_drewN ?_ _ | refine blk_drew ?_ | refine blk_alloc ?_ _)); exact BK407.out) hb); have n3_ := Aside0.mk (below_step (by repeat (first | (with_reducible first | exact HB.out | apply below_alloc | apply pw_below_drewN | apply below_drew1 | refine below_set ?_ GE406.out | refine below_set ?_ GE407.out) | exact HB.out)) hb); clear BK406; clear BK407; clear HB; have HO412 := n0_; have BK406 := n1_; have BK407 := n2_; have HB := n3_; clear n0_ n1_ n2_ n3_; (try clear hb); (try clear hb2); (try clear hk); (try clear hi); (try clear ho0); obtain ⟨Ao18, co18, eo18⟩ := Kd.R_slice HO412.out; subst eo18; have hcz19_0 : w17.cell? ⟨gb407, 0, none⟩ = some (.int .i64 0) := (blk_cell BK407.out 0).trans rfl; have hcz19_1 : w17.cell? ⟨gb407, 1, none⟩ = some (.slice none 0 0) := (blk_cell BK407.out 1).trans rfl; have hcz19_2 : w17.cell? ⟨gb407, 2, none⟩ = some (.int .i64 0) := (blk_cell BK407.out 2).trans rfl; have hfz19_0 := blk_frozen BK407.out 0; have hfz19_1 := blk_frozen BK407.out 1; have hfz19_2 := blk_frozen BK407.out 2))
    refine bodyPost_ret (results_cell_row rfl _ _ gb407 33 #[.int .i64 t409, .slice Ao18 t410.length co18, .int .i64 (wrap64 (a1 + t408))] (0, 0) _ rfl (by (with_reducible repeat (first | refine blk_drewN ?_ _ | refine blk_drew ?_ | refine blk_alloc ?_ _)); refine blk_put (cs := #[.int .i64 t409, .slice Ao18 t410.length co18, .int .i64 0]) ?_ 2 _ rfl; (with_reducible repeat (first | refine blk_drewN ?_ _ | refine blk_drew ?_ | refine blk_alloc ?_ _)); refine blk_put (cs := #[.int .i64 t409, .slice none 0 0, .int .i64 0]) ?_ 1 _ rfl; (with_reducible repeat (first | refine blk_drewN ?_ _ | refine blk_drew ?_ | refine blk_alloc ?_ _)); refine blk_put (cs := #[.int .i64 0, .slice none 0 0, .int .i64 0]) ?_ 0 _ rfl; (with_reducible repeat (first | refine blk_drewN ?_ _ | refine blk_drew ?_ | refine blk_alloc ?_ _)); exact BK407.out) Try.underlying33 rfl (by kernel_rfl)) rfl ?_
    exact ⟨_, by first | rfl | (simp [errW_none, errW_some] <;> rfl) | (simp [*, errW_none, errW_some] <;> rfl), by (with_reducible repeat (first | apply Kd.R_alloc | apply Kd.R_drewN | apply Kd.R_drew)); exact Kd.R_mono (Kd.R_far (p := ⟨gb407, 2, none⟩) (Kd.R_far (p := ⟨gb407, 1, none⟩) (Kd.R_far (p := ⟨gb407, 0, none⟩) (Kd.R_types HO412.out BK407.out (by decide)) (fun _ hk => hk.2) (.int .i64 t409)) (fun _ hk => hk.2) (.slice Ao18 t410.length co18)) (fun _ hk => hk.2) (.int .i64 (wrap64 (a1 + t408)))) (fun _ hk => trivial), by repeat (first | (with_reducible first | exact HB.out | apply below_alloc | apply pw_below_drewN | apply below_drew1 | refine below_set ?_ GE406.out | refine below_set ?_ GE407.out) | exact HB.out)⟩
end Go.Proofs.Ytjddhnjjeomfjaa.PW
end
section
namespace Go.Proofs.Ytjddhnjjeomfjaa.PW
open Go.RowKit Go.Proofs.YtjddhnjjeomfjaaW.PrintWords Go.Proofs.YtjddhnjjeomfjaaW.PrintLast Go.Proofs.YtjddhnjjeomfjaaW.PrintMore
attribute [local go_sem] max2_int min2_int max_two min_two max_three min_three max_four min_four   -- for this text's walks alone
set_option linter.unusedVariables false
set_option linter.unusedSimpArgs false
def spec_l03Add.f (k : Nat) (a0_0 : Int) (l0_1 : List Int) (a0_2 : Int) (a1_0 : Int) (l1_1 : List Int) (a1_2 : Int) : Option (Int × List Int × Int) := if a0_0 = 0 then ((spec_l03Make.f k a1_0 l1_1 a1_2).bind fun bt416 => (some (bt416.1, bt416.2.1, bt416.2.2))) else (if a1_0 = 0 then ((spec_l03Make.f k a0_0 l0_1 a0_2).bind fun bt421 => (some (bt421.1, bt421.2.1, bt421.2.2))) else ((spec_l02Left.f k a0_0 l0_1 (wrap64 (a0_2 - (mn a0_2 a1_2)))).bind fun bt426 => ((spec_l02Left.f k a1_0 l1_1 (wrap64 (a1_2 - (mn a0_2 a1_2)))).bind fun bt430 => ((spec_l02Add.f k bt426.1 bt426.2 bt430.1 bt430.2).bind fun bt434 => ((spec_l03Make.f k bt434.1 bt434.2 (mn a0_2 a1_2)).bind fun bt438 => (some (bt438.1, bt438.2.1, bt438.2.2)))))))
theorem spec_l03Add.mono : ∀ a0 a1 a2 a3 a4 a5 k, LeO (spec_l03Add.f k a0 a1 a2 a3 a4 a5) (spec_l03Add.f (k + 1) a0 a1 a2 a3 a4 a5) := by
  intro a0 a1 a2 a3 a4 a5 k
  unfold spec_l03Add.f
  repeat' first
      | (with_reducible exact spec_l02Add.mono _ _ _ _ _)
      | (with_reducible exact spec_l02Left.mono _ _ _ _)
      | (with_reducible exact spec_l03Make.mono _ _ _ _)
      | (with_reducible exact LeO.refl _)
      | (with_reducible exact LeO.none _)
      | (with_reducible refine LeO.ite ?_ ?_)
      | (with_reducible refine LeO.bind ?_ (fun _ => ?_))
      | exact spec_l02Add.mono _ _ _ _ _
      | exact spec_l02Left.mono _ _ _ _
      | exact spec_l03Make.mono _ _ _ _
      | exact LeO.none _
      | refine LeO.ite ?_ ?_
      | refine LeO.bind ?_ (fun _ => ?_)
end Go.Proofs.Ytjddhnjjeomfjaa.PW
end
section
namespace Go.Proofs.Ytjddhnjjeomfjaa.PW
open Go.RowKit Go.Proofs.YtjddhnjjeomfjaaW.PrintWords Go.Proofs.YtjddhnjjeomfjaaW.PrintLast Go.Proofs.YtjddhnjjeomfjaaW.PrintMore
attribute [local go_sem] max2_int min2_int max_two min_two max_three min_three max_four min_four   -- for this text's walks alone
set_option linter.unusedVariables false
set_option linter.unusedSimpArgs false
mutual
def spec_l02Mul.l0 : Nat → List Int → Int → Int → List Int → Int → List Int → Option (Int × List Int)
  | 0, _, _, _, _, _, _ => none
  | k + 1, x5, x6, x444000, x444001, x445000, x445001 => if x6 < (x444001.length : Int) then (spec_l02Mul.l1 k x5 x6 0 0 x444000 x444001 x445000 x445001) else ((spec_l02Make.f k (wrap64 (x444000 * x445000)) x5).bind fun bt449 => (some (bt449.1, bt449.2)))
def spec_l02Mul.l1 : Nat → List Int → Int → Int → Int → Int → List Int → Int → List Int → Option (Int × List Int)
  | 0, _, _, _, _, _, _, _, _ => none
  | k + 1, x5, x6, x7, x8, x444000, x444001, x445000, x445001 => if x8 < (x445001.length : Int) then (if 0 ≤ (wrap64 (x6 + x8)) then (if (wrap64 (x6 + x8)) < (x5.length : Int) then (if 0 ≤ x6 then (if x6 < (x444001.length : Int) then (if 0 ≤ x8 then (spec_l02Mul.l1 k (x5.set ((wrap64 (x6 + x8)) : Int).toNat (Int.tmod (wrap64 ((wrap64 (x7 + (rd x5 (wrap64 (x6 + x8))))) + (wrap64 ((rd x444001 x6) * (rd x445001 x8))))) 16777216)) x6 (wrap64 (Int.tdiv (wrap64 ((wrap64 (x7 + (rd x5 (wrap64 (x6 + x8))))) + (wrap64 ((rd x444001 x6) * (rd x445001 x8))))) 16777216)) (wrap64 (x8 + 1)) x444000 x444001 x445000 x445001) else (none)) else (none)) else (none)) else (none)) else (none)) else (if 0 ≤ (wrap64 (x6 + (x445001.length : Int))) then (if (wrap64 (x6 + (x445001.length : Int))) < (x5.length : Int) then (spec_l02Mul.l0 k (x5.set ((wrap64 (x6 + (x445001.length : Int))) : Int).toNat x7) (wrap64 (x6 + 1)) x444000 x444001 x445000 x445001) else (none)) else (none))
end
def spec_l02Mul.f (k : Nat) (a0_0 : Int) (l0_1 : List Int) (a1_0 : Int) (l1_1 : List Int) : Option (Int × List Int) := if 0 ≤ (wrap64 ((wrap64 ((l0_1.length : Int) + (l1_1.length : Int))) + 1)) then (if (wrap64 ((wrap64 ((l0_1.length : Int) + (l1_1.length : Int))) + 1) : Int).toNat ≤ 35184372088832 then (spec_l02Mul.l0 k (List.replicate (wrap64 ((wrap64 ((l0_1.length : Int) + (l1_1.length : Int))) + 1) : Int).toNat 0) 0 a0_0 l0_1 a1_0 l1_1) else (none)) else (none)
theorem spec_l02Mul.mono_l : ∀ k, (∀ y0 y1 y2 y3 y4 y5, LeO (spec_l02Mul.l0 k y0 y1 y2 y3 y4 y5) (spec_l02Mul.l0 (k + 1) y0 y1 y2 y3 y4 y5)) ∧ (∀ y0 y1 y2 y3 y4 y5 y6 y7, LeO (spec_l02Mul.l1 k y0 y1 y2 y3 y4 y5 y6 y7) (spec_l02Mul.l1 (k + 1) y0 y1 y2 y3 y4 y5 y6 y7))
  | 0 => ⟨fun _ _ _ _ _ _ r h => by simp [spec_l02Mul.l0] at h, fun _ _ _ _ _ _ _ _ r h => by simp [spec_l02Mul.l1] at h⟩
  | k + 1 => by
    obtain ⟨ih0, ih1⟩ := spec_l02Mul.mono_l k
    refine ⟨?_, ?_⟩
    · intro y0 y1 y2 y3 y4 y5
      unfold spec_l02Mul.l0
      repeat' first
      | (with_reducible exact ih0 _ _ _ _ _ _)
      | (with_reducible exact ih1 _ _ _ _ _ _ _ _)
      | (with_reducible exact spec_l02Make.mono _ _ _)
      | (with_reducible exact LeO.refl _)
      | (with_reducible exact LeO.none _)
      | (with_reducible refine LeO.ite ?_ ?_)
      | (with_reducible refine LeO.bind ?_ (fun _ => ?_))
      | exact ih0 _ _ _ _ _ _
      | exact ih1 _ _ _ _ _ _ _ _
      | exact spec_l02Make.mono _ _ _
      | exact LeO.none _
      | refine LeO.ite ?_ ?_
      | refine LeO.bind ?_ (fun _ => ?_)
    · intro y0 y1 y2 y3 y4 y5 y6 y7
      unfold spec_l02Mul.l1
      repeat' first
      | (with_reducible exact ih0 _ _ _ _ _ _)
      | (with_reducible exact ih1 _ _ _ _ _ _ _ _)
      | (with_reducible exact spec_l02Make.mono _ _ _)
      | (with_reducible exact LeO.refl _)
      | (with_reducible exact LeO.none _)
      | (with_reducible refine LeO.ite ?_ ?_)
      | (with_reducible refine LeO.bind ?_ (fun _ => ?_))
      | exact ih0 _ _ _ _ _ _
      | exact ih1 _ _ _ _ _ _ _ _
      | exact spec_l02Make.mono _ _ _
      | exact LeO.none _
      | refine LeO.ite ?_ ?_
      | refine LeO.bind ?_ (fun _ => ?_)
theorem spec_l02Mul.mono : ∀ a0 a1 a2 a3 k, LeO (spec_l02Mul.f k a0 a1 a2 a3) (spec_l02Mul.f (k + 1) a0 a1 a2 a3) := by
  intro a0 a1 a2 a3 k
  obtain ⟨ih0, ih1⟩ := spec_l02Mul.mono_l k
  unfold spec_l02Mul.f
  repeat' first
      | (with_reducible exact ih0 _ _ _ _ _ _)
      | (with_reducible exact ih1 _ _ _ _ _ _ _ _)
      | (with_reducible exact spec_l02Make.mono _ _ _)
      | (with_reducible exact LeO.refl _)
      | (with_reducible exact LeO.none _)
      | (with_reducible refine LeO.ite ?_ ?_)
      | (with_reducible refine LeO.bind ?_ (fun _ => ?_))
      | exact ih0 _ _ _ _ _ _
      | exact ih1 _ _ _ _ _ _ _ _
      | exact spec_l02Make.mono _ _ _
      | exact LeO.none _
      | refine LeO.ite ?_ ?_
      | refine LeO.bind ?_ (fun _ => ?_)
end Go.Proofs.Ytjddhnjjeomfjaa.PW
end
section
namespace Go.Proofs.Ytjddhnjjeomfjaa.PW
open Go.RowKit Go.Proofs.YtjddhnjjeomfjaaW.PrintWords Go.Proofs.YtjddhnjjeomfjaaW.PrintLast Go.Proofs.YtjddhnjjeomfjaaW.PrintMore
attribute [local go_sem] max2_int min2_int max_two min_two max_three min_three max_four min_four   -- for this text's walks alone
set_option linter.unusedVariables false
set_option linter.unusedSimpArgs false
def spec_l03Mul.f (k : Nat) (a0_0 : Int) (l0_1 : List Int) (a0_2 : Int) (a1_0 : Int) (l1_1 : List Int) (a1_2 : Int) : Option (Int × List Int × Int) := (spec_l02Mul.f k a0_0 l0_1 a1_0 l1_1).bind fun bt461 => ((spec_l03Make.f k bt461.1 bt461.2 (wrap64 (a0_2 + a1_2))).bind fun bt465 => (some (bt465.1, bt465.2.1, bt465.2.2)))
theorem spec_l03Mul.mono : ∀ a0 a1 a2 a3 a4 a5 k, LeO (spec_l03Mul.f k a0 a1 a2 a3 a4 a5) (spec_l03Mul.f (k + 1) a0 a1 a2 a3 a4 a5) := by
  intro a0 a1 a2 a3 a4 a5 k
  unfold spec_l03Mul.f
  repeat' first
      | (with_reducible exact spec_l02Mul.mono _ _ _ _ _)
      | (with_reducible exact spec_l03Make.mono _ _ _ _)
      | (with_reducible exact LeO.refl _)
      | (with_reducible exact LeO.none _)
      | (with_reducible refine LeO.ite ?_ ?_)
      | (with_reducible refine LeO.bind ?_ (fun _ => ?_))
      | exact spec_l02Mul.mono _ _ _ _ _
      | exact spec_l03Make.mono _ _ _ _
      | exact LeO.none _
      | refine LeO.ite ?_ ?_
      | refine LeO.bind ?_ (fun _ => ?_)
end Go.Proofs.Ytjddhnjjeomfjaa.PW
end
section
namespace Go.Proofs.Ytjddhnjjeomfjaa.PW
open Go.RowKit Go.Proofs.YtjddhnjjeomfjaaW.PrintWords Go.Proofs.YtjddhnjjeomfjaaW.PrintLast Go.Proofs.YtjddhnjjeomfjaaW.PrintMore
attribute [local go_sem] max2_int min2_int max_two min_two max_three min_three max_four min_four   -- for this text's walks alone
set_option linter.unusedVariables false
set_option linter.unusedSimpArgs false
def spec_l03Is.j0 : Nat → Bool → Int → List Int → Int → Option (Bool)
  | 0, _, _, _, _ => none
  | k + 1, x12, x110000, x110001, x110002 => if x12 = true then (some false) else (if x110000 = 0 then (some (x110002 == 0)) else (if 0 < (x110001.length : Int) then (some ((Int.tmod (rd x110001 0) 2) == 1)) else (none)))
def spec_l03Is.f (k : Nat) (a0_0 : Int) (l0_1 : List Int) (a0_2 : Int) : Option (Bool) := (spec_l02Is.f k a0_0 l0_1).bind fun t110 => (if t110 = true then ((spec_l01In.f a0_2 (-3000) 3000).bind fun t111 => (spec_l03Is.j0 k (!t111) a0_0 l0_1 a0_2)) else (spec_l03Is.j0 k true a0_0 l0_1 a0_2))
theorem spec_l03Is.mono_l : ∀ k, (∀ y0 y1 y2 y3, LeO (spec_l03Is.j0 k y0 y1 y2 y3) (spec_l03Is.j0 (k + 1) y0 y1 y2 y3))
  | 0 => fun _ _ _ _ r h => by simp [spec_l03Is.j0] at h
  | k + 1 => by
    have ih0 := spec_l03Is.mono_l k
    · intro y0 y1 y2 y3
      unfold spec_l03Is.j0
      repeat' first
      | (with_reducible exact ih0 _ _ _ _)
      | (with_reducible exact spec_l02Is.mono _ _ _)
      | (with_reducible exact LeO.refl _)
      | (with_reducible exact LeO.none _)
      | (with_reducible refine LeO.ite ?_ ?_)
      | (with_reducible refine LeO.bind ?_ (fun _ => ?_))
      | exact ih0 _ _ _ _
      | exact spec_l02Is.mono _ _ _
      | exact LeO.none _
      | refine LeO.ite ?_ ?_
      | refine LeO.bind ?_ (fun _ => ?_)
theorem spec_l03Is.mono : ∀ a0 a1 a2 k, LeO (spec_l03Is.f k a0 a1 a2) (spec_l03Is.f (k + 1) a0 a1 a2) := by
  intro a0 a1 a2 k
  have ih0 := spec_l03Is.mono_l k
  unfold spec_l03Is.f
  repeat' first
      | (with_reducible exact ih0 _ _ _ _)
      | (with_reducible exact spec_l02Is.mono _ _ _)
      | (with_reducible exact LeO.refl _)
      | (with_reducible exact LeO.none _)
      | (with_reducible refine LeO.ite ?_ ?_)
      | (with_reducible refine LeO.bind ?_ (fun _ => ?_))
      | exact ih0 _ _ _ _
      | exact spec_l02Is.mono _ _ _
      | exact LeO.none _
      | refine LeO.ite ?_ ?_
      | refine LeO.bind ?_ (fun _ => ?_)
end Go.Proofs.Ytjddhnjjeomfjaa.PW
end
section
namespace Go.Proofs.Ytjddhnjjeomfjaa.PW
open Go.RowKit Go.Proofs.YtjddhnjjeomfjaaW.PrintWords Go.Proofs.YtjddhnjjeomfjaaW.PrintLast Go.Proofs.YtjddhnjjeomfjaaW.PrintMore
attribute [local go_sem] max2_int min2_int max_two min_two max_three min_three max_four min_four   -- for this text's walks alone
set_option linter.unusedVariables false
set_option linter.unusedSimpArgs false
def impl_IsDyadic.f (k : Nat) (a0_0 : Int) (l0_1 : List Int) (a0_2 : Int) : Option (Bool) := (impl_IsWhole.f k a0_0 l0_1).bind fun t311 => (if t311 = true then (if a0_0 = 0 then (some (a0_2 == 0)) else (if 0 < (l0_1.length : Int) then (if (Int.tmod (rd l0_1 0) 2) = 1 then (if a0_2 ≥ (-3000) then (some (decide (a0_2 ≤ 3000))) else (some false)) else (some false)) else (none))) else (some false))
theorem impl_IsDyadic.mono : ∀ a0 a1 a2 k, LeO (impl_IsDyadic.f k a0 a1 a2) (impl_IsDyadic.f (k + 1) a0 a1 a2) := by
  intro a0 a1 a2 k
  unfold impl_IsDyadic.f
  repeat' first
      | (with_reducible exact impl_IsWhole.mono _ _ _)
      | (with_reducible exact LeO.refl _)
      | (with_reducible exact LeO.none _)
      | (with_reducible refine LeO.ite ?_ ?_)
      | (with_reducible refine LeO.bind ?_ (fun _ => ?_))
      | exact impl_IsWhole.mono _ _ _
      | exact LeO.none _
      | refine LeO.ite ?_ ?_
      | refine LeO.bind ?_ (fun _ => ?_)
end Go.Proofs.Ytjddhnjjeomfjaa.PW
end
section
namespace Go.Proofs.Ytjddhnjjeomfjaa.PW
open Go.RowKit Go.Proofs.YtjddhnjjeomfjaaW.PrintWords Go.Proofs.YtjddhnjjeomfjaaW.PrintLast Go.Proofs.YtjddhnjjeomfjaaW.PrintMore
attribute [local go_sem] max2_int min2_int max_two min_two max_three min_three max_four min_four   -- for this text's walks alone
set_option linter.unusedVariables false
set_option linter.unusedSimpArgs false
def laws_szDyadic.f (a0_0 : Int) (l0_1 : List Int) (a0_2 : Int) (a1 : Int) : Option (Int) := (laws_szWhole.f a0_0 l0_1 a1).bind fun t104 => (if t104 < 0 then (some (-1)) else (some t104))
end Go.Proofs.Ytjddhnjjeomfjaa.PW
end
section
namespace Go.Proofs.Ytjddhnjjeomfjaa.PW
open Go.RowKit Go.Proofs.YtjddhnjjeomfjaaW.PrintWords Go.Proofs.YtjddhnjjeomfjaaW.PrintLast Go.Proofs.YtjddhnjjeomfjaaW.PrintMore
attribute [local go_sem] max2_int min2_int max_two min_two max_three min_three max_four min_four   -- for this text's walks alone
set_option linter.unusedVariables false
set_option linter.unusedSimpArgs false
def laws_toDyadic.f (k : Nat) (a0_0 : Int) (l0_1 : List Int) (a0_2 : Int) : Option (Int × List Int × Int) := (laws_toWhole.f k a0_0 l0_1).bind fun bt303 => (some (bt303.1, bt303.2, a0_2))
theorem laws_toDyadic.mono : ∀ a0 a1 a2 k, LeO (laws_toDyadic.f k a0 a1 a2) (laws_toDyadic.f (k + 1) a0 a1 a2) := by
  intro a0 a1 a2 k
  unfold laws_toDyadic.f
  repeat' first
      | (with_reducible exact laws_toWhole.mono _ _ _)
      | (with_reducible exact LeO.refl _)
      | (with_reducible exact LeO.none _)
      | (with_reducible refine LeO.ite ?_ ?_)
      | (with_reducible refine LeO.bind ?_ (fun _ => ?_))
      | exact laws_toWhole.mono _ _ _
      | exact LeO.none _
      | refine LeO.ite ?_ ?_
      | refine LeO.bind ?_ (fun _ => ?_)
end Go.Proofs.Ytjddhnjjeomfjaa.PW
end
section
namespace Go.Proofs.Ytjddhnjjeomfjaa.PW
open Go.RowKit Go.Proofs.YtjddhnjjeomfjaaW.PrintWords Go.Proofs.YtjddhnjjeomfjaaW.PrintLast Go.Proofs.YtjddhnjjeomfjaaW.PrintMore
attribute [local go_sem] max2_int min2_int max_two min_two max_three min_three max_four min_four   -- for this text's walks alone
set_option linter.unusedVariables false
set_option linter.unusedSimpArgs false
def laws_eqDyadic.f (k : Nat) (a0_0 : Int) (l0_1 : List Int) (a0_2 : Int) (a1_0 : Int) (l1_1 : List Int) (a1_2 : Int) : Option (Bool) := (laws_eqWhole.f k a0_0 l0_1 a1_0 l1_1).bind fun t389 => (if t389 = true then (if a0_2 = a1_2 then (some true) else (some false)) else (some false))
theorem laws_eqDyadic.mono : ∀ a0 a1 a2 a3 a4 a5 k, LeO (laws_eqDyadic.f k a0 a1 a2 a3 a4 a5) (laws_eqDyadic.f (k + 1) a0 a1 a2 a3 a4 a5) := by
  intro a0 a1 a2 a3 a4 a5 k
  unfold laws_eqDyadic.f
  repeat' first
      | (with_reducible exact laws_eqWhole.mono _ _ _ _ _)
      | (with_reducible exact LeO.refl _)
      | (with_reducible exact LeO.none _)
      | (with_reducible refine LeO.ite ?_ ?_)
      | (with_reducible refine LeO.bind ?_ (fun _ => ?_))
      | exact laws_eqWhole.mono _ _ _ _ _
      | exact LeO.none _
      | refine LeO.ite ?_ ?_
      | refine LeO.bind ?_ (fun _ => ?_)
end Go.Proofs.Ytjddhnjjeomfjaa.PW
end
section
namespace Go.Proofs.Ytjddhnjjeomfjaa.Px
open Go.RowKit Go.Proofs.YtjddhnjjeomfjaaW.PrintWords Go.Proofs.Ytjddhnjjeomfjaa.PW Go.Proofs.Ytjddhnjjeomfjaa.Pb Go.Proofs.Ytjddhnjjeomfjaa.Pc Go.Proofs.Ytjddhnjjeomfjaa.Pm Go.Proofs.Ytjddhnjjeomfjaa.Pw Dg
set_option linter.unusedVariables false
set_option linter.unusedSimpArgs false
theorem sown (l : List Int) (h : l.length ≤ 1099511627776) : spec_l01Own.f l = some l := by
  unfold spec_l01Own.f
  simp only [Option.bind_some, List.length_nil, List.nil_append]
  rw [if_pos (by omega)]
def smk (s : Int) (n : Nat) : Int × List Int := if n = 0 then (0, []) else (s, L n)
theorem smk_sgn (z : Int) : smk (sgn z) z.natAbs = (sgn z, L z.natAbs) := by
  unfold smk
  by_cases h : z = 0
  · subst h
    simp [sgn, L_zero]
  · rw [if_neg (by omega)]
theorem smk_one (z : Int) (s : Int) (hs : s = if z < 0 then -1 else 1) : smk s z.natAbs = (sgn z, L z.natAbs) := by
  by_cases h : z = 0
  · subst h
    simp [smk, sgn, L_zero]
  · rw [← smk_sgn z, hs]
    congr 1
    unfold sgn
    split
    · rfl
    · first | rw [if_neg h] | rfl
theorem smake_loop (s : Int) (l : List Int) (hd : Dig 16777216 l) (hl : l.length ≤ 1099511627776) : ∀ i : Nat, i ≤ l.length → val 16777216 (l.take i) = val 16777216 l → Ev (fun k => spec_l02Make.l0 k s l (i : Int)) (smk s (val 16777216 l).toNat) := by
  intro i
  induction i with
  | zero =>
    intro _ hv
    refine Ev.step (f := fun _ => some (0, [])) (fun k => ?_) (ev_of fun _ => ?_)
    · simp only [spec_l02Make.l0]
      rw [if_neg (by omega), if_pos (by omega)]
    · rw [List.take_zero, val_nil] at hv
      rw [← hv]; rfl
  | succ i ih =>
    intro hi hv
    have e1 : wrap64 (((i + 1 : Nat) : Int) - 1) = (i : Int) := by rw [wrapZ _ (by omega) (by omega)]; omega
    by_cases h0 : l.getD i 0 = 0
    · refine Ev.step (f := fun k => spec_l02Make.l0 k s l (i : Int)) (fun k => ?_) (ih (by omega) ?_)
      · simp only [spec_l02Make.l0]
        rw [if_pos (by omega), e1, if_pos (by omega), if_pos (by omega), rdN, if_pos h0]
      · rw [← hv]
        exact (val_take_zero (by omega) h0).symm
    · refine Ev.step (f := fun _ => some (s, l.take (i + 1))) (fun k => ?_) (ev_of fun _ => ?_)
      · simp only [spec_l02Make.l0]
        rw [if_pos (by omega), e1, if_pos (by omega), if_pos (by omega), rdN, if_neg h0, if_neg (by omega), if_pos (by omega), if_pos (show ((i + 1 : Nat) : Int) ≤ (l.length : Int) by omega), Int.toNat_natCast, sown _ (by simp; omega)]
        rfl
      · have ht : Top (l.take (i + 1)) := top_take_of hi (.inr (by rw [Nat.add_sub_cancel]; exact h0))
        have hne : l.take (i + 1) ≠ [] := by
          intro e
          have := congrArg List.length e
          rw [List.length_take, List.length_nil] at this
          omega
        have hp := val_pos (hd.take (i + 1)) ht hne (by decide)
        rw [hv] at hp
        have hL := L_of (hd.take (i + 1)) ht
        rw [hv] at hL
        unfold smk
        rw [if_neg (by omega), hL]
theorem smake (s : Int) (l : List Int) (hd : Dig 16777216 l) (hl : l.length ≤ 1099511627776) : Ev (fun k => spec_l02Make.f k s l) (smk s (val 16777216 l).toNat) := by
  unfold spec_l02Make.f
  exact smake_loop s l hd hl l.length (Nat.le_refl _) (by rw [List.take_length])
end Go.Proofs.Ytjddhnjjeomfjaa.Px
end
section
namespace Go.Proofs.Ytjddhnjjeomfjaa.Pt
open Go.RowKit Go.Proofs.YtjddhnjjeomfjaaW.PrintWords Go.Proofs.Ytjddhnjjeomfjaa.PW Go.Proofs.Ytjddhnjjeomfjaa.Pb Go.Proofs.Ytjddhnjjeomfjaa.Pc Go.Proofs.Ytjddhnjjeomfjaa.Pm Go.Proofs.Ytjddhnjjeomfjaa.Pw Dg
set_option linter.unusedVariables false
set_option linter.unusedSimpArgs false
theorem slimbs_loop (a b : List Int) (hl : a.length = b.length) (hm : a.length ≤ 1099511627776) (ha : Dig 16777216 a) (hb : Dig 16777216 b) :
    ∀ i : Nat, i ≤ a.length → a.drop i = b.drop i → Ev (fun k => spec_l02CompareLimbs.l0 k a b ((i : Int) - 1)) (sgn (val 16777216 a - val 16777216 b)) := by
  intro i
  induction i with
  | zero =>
    intro _ h
    rw [List.drop_zero, List.drop_zero] at h
    subst h
    refine Ev.step (f := fun _ => some 0) (fun k => ?_) (ev_of fun _ => by rw [Int.sub_self]; rfl)
    simp only [spec_l02CompareLimbs.l0]
    rw [if_neg (by omega)]
  | succ i ih =>
    intro hi h
    have e1 : ((i + 1 : Nat) : Int) - 1 = (i : Int) := by omega
    rw [e1]
    by_cases hx : a.getD i 0 = b.getD i 0
    · have h2 : a.drop i = b.drop i := by
        rw [List.drop_eq_getElem_cons (show i < a.length by omega), List.drop_eq_getElem_cons (show i < b.length by omega), h, ← getD_lt (show i < a.length by omega), ← getD_lt (show i < b.length by omega), hx]
      refine Ev.step (f := fun k => spec_l02CompareLimbs.l0 k a b ((i : Int) - 1)) (fun k => ?_) (ih (by omega) h2)
      simp only [spec_l02CompareLimbs.l0]
      rw [if_pos (by omega), if_pos (by omega), if_pos (by omega), if_pos (by omega), rdN, rdN, if_pos hx, wrapZ _ (by omega) (by omega)]
    · refine Ev.step (f := fun _ => some (sgn (a.getD i 0 - b.getD i 0))) (fun k => ?_) (ev_of fun _ => ?_)
      · simp only [spec_l02CompareLimbs.l0]
        rw [if_pos (by omega), if_pos (by omega), if_pos (by omega), if_pos (by omega), rdN, rdN, if_neg hx]
        unfold sgn
        rcases Int.lt_or_gt_of_ne hx with h3 | h3
        · rw [if_pos h3, if_pos (by omega)]
        · rw [if_neg (by omega), if_neg (by omega), if_neg (by omega)]
      · congr 1
        rcases Int.lt_or_gt_of_ne hx with h3 | h3
        · have := val_lt_of_digit (by decide) ha hb i h (by omega) h3
          unfold sgn; rw [if_pos (by omega), if_pos (by omega)]
        · have := val_lt_of_digit (by decide) hb ha i h.symm (by omega) h3
          unfold sgn; rw [if_neg (by omega), if_neg (by omega), if_neg (by omega), if_neg (by omega)]
theorem slimbs {a b : List Int} (ha : Dig 16777216 a) (hb : Dig 16777216 b) (ta : Top a) (tb : Top b) (h1 : a.length ≤ 1099511627776) (h2 : b.length ≤ 1099511627776) : Ev (fun k => spec_l02CompareLimbs.f k a b) (sgn (val 16777216 a - val 16777216 b)) := by
  unfold spec_l02CompareLimbs.f
  by_cases h : a.length = b.length
  · refine ifp (by omega) ?_
    have := slimbs_loop a b h h1 ha hb a.length (Nat.le_refl _) (by rw [List.drop_length, h, List.drop_length])
    rw [wrapZ _ (by omega) (by omega)]
    exact this
  · refine ifn (by omega) ?_
    rcases Nat.lt_or_gt_of_ne h with h3 | h3
    · have := val_lt_of_length (by decide) ha hb tb h3
      refine ifp (by omega) (ev_of fun _ => ?_)
      unfold sgn; rw [if_pos (by omega)]
    · have := val_lt_of_length (by decide) hb ha ta h3
      refine ifn (by omega) (ev_of fun _ => ?_)
      unfold sgn; rw [if_neg (by omega), if_neg (by omega)]
theorem sgn_range (z : Int) : -1 ≤ sgn z ∧ sgn z ≤ 1 := by
  unfold sgn
  split
  · omega
  · split <;> omega
end Go.Proofs.Ytjddhnjjeomfjaa.Pt
end
section
namespace Go.Proofs.Ytjddhnjjeomfjaa.Py
open Go.RowKit Go.Proofs.YtjddhnjjeomfjaaW.PrintWords Go.Proofs.Ytjddhnjjeomfjaa.PW Go.Proofs.Ytjddhnjjeomfjaa.Pb Go.Proofs.Ytjddhnjjeomfjaa.Pc Go.Proofs.Ytjddhnjjeomfjaa.Pm Go.Proofs.Ytjddhnjjeomfjaa.Pw Go.Proofs.Ytjddhnjjeomfjaa.Px Go.Proofs.Ytjddhnjjeomfjaa.Pt Dg
set_option linter.unusedVariables false
set_option linter.unusedSimpArgs false
theorem plus_round (a b out : List Int) (c : Int) (i : Nat) (ha : Dig 16777216 a) (hb : Dig 16777216 b) (hl1 : a.length ≤ 1099511627776) (hl2 : b.length ≤ 1099511627776) (ho : out.length ≤ 1099511627777) (h0 : 0 ≤ c) (h1 : c ≤ 1) (hi : i ≤ 1099511627777) (k : Nat) :
    spec_l02Plus.j1 (k + 1) a b out c (i : Int) true = spec_l02Plus.l0 k a b (out ++ [(c + a.getD i 0 + b.getD i 0) % 16777216]) ((c + a.getD i 0 + b.getD i 0) / 16777216) ((i + 1 : Nat) : Int) := by
  have hai := ha.all0 (by decide) i
  have hbi := hb.all0 (by decide) i
  simp only [spec_l02Plus.j1]
  rw [if_pos trivial, wrapZ ((i : Int) + 1) (by omega) (by omega)]
  by_cases hia : i < a.length
  · rw [if_pos (show (i : Int) < (a.length : Int) by omega), if_pos (show (0 : Int) ≤ (i : Int) by omega)]
    by_cases hib : i < b.length
    · rw [if_pos (show (i : Int) < (b.length : Int) by omega), if_pos (by omega), rdN, rdN, wrapZ (c + _) (by omega) (by omega), wrapZ (c + _ + _) (by omega) (by omega), Int.tmod_eq_emod_of_nonneg (by omega), Int.tdiv_eq_ediv_of_nonneg (by omega), wrapZ _ (by omega) (by omega)]
      rfl
    · have hb0 : b.getD i 0 = 0 := getD_ge (by omega)
      rw [if_neg (show ¬ (i : Int) < (b.length : Int) by omega), if_pos (by omega), rdN, wrapZ (c + _) (by omega) (by omega), Int.tmod_eq_emod_of_nonneg (by omega), Int.tdiv_eq_ediv_of_nonneg (by omega), wrapZ _ (by omega) (by omega), hb0, Int.add_zero]
      rfl
  · have ha0 : a.getD i 0 = 0 := getD_ge (by omega)
    rw [if_neg (show ¬ (i : Int) < (a.length : Int) by omega)]
    by_cases hib : i < b.length
    · rw [if_pos (show (i : Int) < (b.length : Int) by omega), if_pos (show (0 : Int) ≤ (i : Int) by omega), if_pos (by omega), rdN, wrapZ (c + _) (by omega) (by omega), Int.tmod_eq_emod_of_nonneg (by omega), Int.tdiv_eq_ediv_of_nonneg (by omega), wrapZ _ (by omega) (by omega), ha0, Int.add_zero]
      rfl
    · have hb0 : b.getD i 0 = 0 := getD_ge (by omega)
      rw [if_neg (show ¬ (i : Int) < (b.length : Int) by omega), if_pos (by omega), Int.tmod_eq_emod_of_nonneg (by omega), Int.tdiv_eq_ediv_of_nonneg (by omega), wrapZ _ (by omega) (by omega), ha0, hb0, Int.add_zero, Int.add_zero]
      rfl
theorem plus_end (a b out : List Int) (i : Nat) (ha : a.length ≤ i) (hb : b.length ≤ i) : Ev (fun k => spec_l02Plus.l0 k a b out 0 (i : Int)) out := by
  refine Ev.step (f := fun k => spec_l02Plus.j1 k a b out 0 (i : Int) false) (fun k => ?_) (Ev.step (f := fun _ => some out) (fun k => ?_) (ev_of fun _ => rfl))
  · simp only [spec_l02Plus.l0]
    rw [if_neg (by omega), if_neg (by omega)]
    rfl
  · simp only [spec_l02Plus.j1]
    rw [if_neg (by simp)]
theorem plus_loop (a b : List Int) (ha : Dig 16777216 a) (hb : Dig 16777216 b) (hl1 : a.length ≤ 1099511627776) (hl2 : b.length ≤ 1099511627776) (M : Nat) (hM1 : a.length ≤ M) (hM2 : b.length ≤ M) (hM3 : M = a.length ∨ M = b.length) (d : Nat) :
    ∀ (i : Nat) (out : List Int) (c : Int), i + d = M → out.length = i → Dig 16777216 out → 0 ≤ c → c ≤ 1 → val 16777216 out + 16777216 ^ i * c = val 16777216 (a.take i) + val 16777216 (b.take i) →
      ∃ r, Ev (fun k => spec_l02Plus.l0 k a b out c (i : Int)) r ∧ Dig 16777216 r ∧ val 16777216 r = val 16777216 a + val 16777216 b ∧ r.length ≤ M + 1 := by
  induction d with
  | zero =>
    intro i out c hd hlen hdo h0 h1 hinv
    obtain rfl : i = M := by omega
    rw [val_take_ge hM1, val_take_ge hM2] at hinv
    by_cases hc : c = 0
    · subst hc
      exact ⟨out, plus_end a b out i hM1 hM2, hdo, by omega, by omega⟩
    · obtain rfl : c = 1 := by omega
      have ha0 : a.getD i 0 = 0 := getD_ge hM1
      have hb0 : b.getD i 0 = 0 := getD_ge hM2
      refine ⟨out ++ [1], ?_, hdo.append (Dig.cons (by decide) (by decide) Dig.nil), ?_, by simp; omega⟩
      · refine Ev.step (f := fun k => spec_l02Plus.j1 k a b out 1 (i : Int) true) (fun k => ?_) (Ev.step (f := fun k => spec_l02Plus.l0 k a b (out ++ [1]) 0 ((i + 1 : Nat) : Int)) (fun k => ?_) (plus_end a b _ (i + 1) (by omega) (by omega)))
        · simp only [spec_l02Plus.l0]
          rw [if_neg (by omega), if_neg (by omega)]
          rfl
        · rw [plus_round a b out 1 i ha hb hl1 hl2 (by omega) (by decide) (by decide) (by omega) k, ha0, hb0]
          rfl
      · rw [val_snoc, hlen, ← hinv]
        rfl
  | succ d ih =>
    intro i out c hd hlen hdo h0 h1 hinv
    have hai := ha.all0 (by decide) i
    have hbi := hb.all0 (by decide) i
    obtain ⟨r, hr, h2⟩ := ih (i + 1) (out ++ [(c + a.getD i 0 + b.getD i 0) % 16777216]) ((c + a.getD i 0 + b.getD i 0) / 16777216) (by omega) (by simp; omega) (hdo.append (Dig.cons (by omega) (by omega) Dig.nil)) (by omega) (by omega) (by
      have := add_step (a := a.getD i 0) (b := b.getD i 0) (c := c) (x := (c + a.getD i 0 + b.getD i 0) % 16777216) (c' := (c + a.getD i 0 + b.getD i 0) / 16777216) (p := 16777216) hinv (by omega)
      rw [val_snoc, hlen, val_take_succ' a i, val_take_succ' b i, Int.pow_succ]
      exact this)
    refine ⟨r, ?_, h2⟩
    refine Ev.step (f := fun k => spec_l02Plus.j1 k a b out c (i : Int) true) (fun k => ?_) (Ev.step (f := fun k => _) (fun k => plus_round a b out c i ha hb hl1 hl2 (by omega) h0 h1 (by omega) k) hr)
    simp only [spec_l02Plus.l0]
    by_cases hia : i < a.length
    · rw [if_pos (by omega)]
    · rw [if_neg (by omega), if_pos (by omega)]
theorem splus (a b : List Int) (ha : Dig 16777216 a) (hb : Dig 16777216 b) (hl1 : a.length ≤ 1099511627776) (hl2 : b.length ≤ 1099511627776) :
    ∃ r, Ev (fun k => spec_l02Plus.f k a b) r ∧ Dig 16777216 r ∧ val 16777216 r = val 16777216 a + val 16777216 b ∧ r.length ≤ max a.length b.length + 1 := by
  unfold spec_l02Plus.f
  exact plus_loop a b ha hb hl1 hl2 (max a.length b.length) (by omega) (by omega) (by omega) (max a.length b.length) 0 [] 0 (by omega) rfl Dig.nil (by decide) (by decide) (by simp [val])
theorem minus_loop (a b : List Int) (ha : Dig 16777216 a) (hb : Dig 16777216 b) (hab : b.length ≤ a.length) (hl1 : a.length ≤ 1099511627776) (hle : val 16777216 b ≤ val 16777216 a) (d : Nat) :
    ∀ (i : Nat) (out : List Int) (c : Int), i + d = a.length → out.length = i → Dig 16777216 out → 0 ≤ c → c ≤ 1 → val 16777216 out - 16777216 ^ i * c = val 16777216 (a.take i) - val 16777216 (b.take i) →
      ∃ r, Ev (fun k => spec_l02Minus.l0 k a b out c (i : Int)) r ∧ Dig 16777216 r ∧ val 16777216 r = val 16777216 a - val 16777216 b ∧ r.length = a.length := by
  induction d with
  | zero =>
    intro i out c hd hlen hdo h0 h1 hinv
    obtain rfl : i = a.length := by omega
    rw [val_take_ge (Nat.le_refl _), val_take_ge hab] at hinv
    have hlt := val_lt (by decide) hdo
    rw [hlen] at hlt
    have hp : ((16777216 : Nat) : Int) ^ a.length = (16777216 : Int) ^ a.length := rfl
    have hv : val 16777216 out = val 16777216 a - val 16777216 b := by
      rcases (show c = 0 ∨ c = 1 by omega) with rfl | rfl
      · omega
      · exfalso
        rw [Int.mul_one] at hinv
        omega
    refine ⟨out, Ev.step (f := fun _ => some out) (fun k => ?_) (ev_of fun _ => rfl), hdo, hv, hlen⟩
    simp only [spec_l02Minus.l0]
    rw [if_neg (by omega)]
  | succ d ih =>
    intro i out c hd hlen hdo h0 h1 hinv
    have hai := ha.all0 (by decide) i
    have hbi := hb.all0 (by decide) i
    obtain ⟨x, hx⟩ : ∃ x, x = a.getD i 0 - c - b.getD i 0 := ⟨_, rfl⟩
    obtain ⟨y, e, hy0, hy1, he0, he1, hye, hcase⟩ : ∃ y e : Int, 0 ≤ y ∧ y < 16777216 ∧ 0 ≤ e ∧ e ≤ 1 ∧ x = y - 16777216 * e ∧ (x < 0 ∧ y = x + 16777216 ∧ e = 1 ∨ ¬ x < 0 ∧ y = x ∧ e = 0) := by
      by_cases hn : x < 0
      · exact ⟨x + 16777216, 1, by omega, by omega, by omega, by omega, by omega, .inl ⟨hn, rfl, rfl⟩⟩
      · exact ⟨x, 0, by omega, by omega, by omega, by omega, by omega, .inr ⟨hn, rfl, rfl⟩⟩
    obtain ⟨r, hr, h2⟩ := ih (i + 1) (out ++ [y]) e (by omega) (by simp; omega) (hdo.append (Dig.cons hy0 hy1 Dig.nil)) he0 he1 (by
      have := sub_step (a := a.getD i 0) (b := b.getD i 0) (c := c) (x := y) (c' := e) (p := 16777216) hinv (by omega)
      rw [val_snoc, hlen, val_take_succ' a i, val_take_succ' b i, Int.pow_succ]
      exact this)
    refine ⟨r, Ev.step (f := fun k => spec_l02Minus.l0 k a b (out ++ [y]) e ((i + 1 : Nat) : Int)) (fun k => ?_) hr, h2⟩
    simp only [spec_l02Minus.l0]
    rw [if_pos (by omega), if_pos (by omega), rdN, rdN, wrapZ (a.getD i 0 - c) (by omega) (by omega), wrapZ ((i : Int) + 1) (by omega) (by omega)]
    have hol : out.length < 17592186044416 := by omega
    by_cases hib : i < b.length
    · rw [if_pos (by omega), ← hx, wrapZ x (by omega) (by omega)]
      rcases hcase with ⟨hn, rfl, rfl⟩ | ⟨hn, rfl, rfl⟩
      · rw [if_pos hn, if_pos hol, wrapZ _ (by omega) (by omega)]; rfl
      · rw [if_neg hn, if_pos hol]; rfl
    · have hb0 : b.getD i 0 = 0 := getD_ge (by omega)
      rw [if_neg (by omega), show a.getD i 0 - c = x by omega]
      rcases hcase with ⟨hn, rfl, rfl⟩ | ⟨hn, rfl, rfl⟩
      · rw [if_pos hn, if_pos hol, wrapZ _ (by omega) (by omega)]; rfl
      · rw [if_neg hn, if_pos hol]; rfl
theorem sminus (a b : List Int) (ha : Dig 16777216 a) (hb : Dig 16777216 b) (hab : b.length ≤ a.length) (hl1 : a.length ≤ 1099511627776) (hle : val 16777216 b ≤ val 16777216 a) :
    ∃ r, Ev (fun k => spec_l02Minus.f k a b) r ∧ Dig 16777216 r ∧ val 16777216 r = val 16777216 a - val 16777216 b ∧ r.length = a.length := by
  unfold spec_l02Minus.f
  exact minus_loop a b ha hb hab hl1 hle a.length 0 [] 0 (by omega) rfl Dig.nil (by decide) (by decide) (by simp [val])
end Go.Proofs.Ytjddhnjjeomfjaa.Py
end
section
namespace Go.Proofs.Ytjddhnjjeomfjaa.Pz
open Go.RowKit Go.Proofs.YtjddhnjjeomfjaaW.PrintWords Go.Proofs.Ytjddhnjjeomfjaa.PW Go.Proofs.Ytjddhnjjeomfjaa.Pb Go.Proofs.Ytjddhnjjeomfjaa.Pc Go.Proofs.Ytjddhnjjeomfjaa.Pm Go.Proofs.Ytjddhnjjeomfjaa.Pw Go.Proofs.Ytjddhnjjeomfjaa.Px Go.Proofs.Ytjddhnjjeomfjaa.Pt Go.Proofs.Ytjddhnjjeomfjaa.Py Dg
set_option linter.unusedVariables false
set_option linter.unusedSimpArgs false
theorem smk_of {s z : Int} (h : z ≠ 0 → s = sgn z) : smk s z.natAbs = (sgn z, L z.natAbs) := by
  by_cases h0 : z = 0
  · subst h0; simp [smk, sgn, L_zero]
  · rw [h h0]; exact smk_sgn z
theorem sgn_zero {z : Int} : sgn z = 0 ↔ z = 0 := by
  unfold sgn
  split
  · omega
  · split <;> omega
theorem L_le {a b : Nat} (h : a ≤ b) : (L a).length ≤ (L b).length := by
  rcases Nat.lt_or_ge (L b).length (L a).length with h1 | h1
  · have := val_lt_of_length (by decide) (L_dig b) (L_dig a) (L_top a) h1
    rw [L_val, L_val] at this
    omega
  · exact h1
theorem sadd (x y : Int) (hx : bl x.natAbs ≤ 1099511627000) (hy : bl y.natAbs ≤ 1099511627000) : Ev (fun k => spec_l02Add.f k (sgn x) (L x.natAbs) (sgn y) (L y.natAbs)) (sgn (x + y), L (x + y).natAbs) := by
  have lx := L_len x.natAbs
  have ly := L_len y.natAbs
  have mk : ∀ (s : Int) (l : List Int) (z : Int), Dig 16777216 l → l.length ≤ 1099511627777 → val 16777216 l = (z.natAbs : Nat) → (z ≠ 0 → s = sgn z) → l.length ≤ 1099511627776 → Ev (fun k => spec_l02Make.f k s l) (sgn z, L z.natAbs) := by
    intro s l z hd _ hv hs hl
    have := smake s l hd hl
    rw [hv, Int.toNat_natCast, smk_of hs] at this
    exact this
  unfold spec_l02Add.f
  by_cases h0 : x = 0
  · subst h0
    refine ifp rfl (Ev.bind (f := fun k t => _) (mk (sgn y) (L y.natAbs) y (L_dig _) (by omega) (L_val _) (fun _ => rfl) (by omega)) (ev_of fun _ => ?_))
    rw [Int.zero_add]
  refine ifn (fun h => h0 (sgn_zero.1 h)) ?_
  by_cases h1 : y = 0
  · subst h1
    refine ifp rfl (Ev.bind (f := fun k t => _) (mk (sgn x) (L x.natAbs) x (L_dig _) (by omega) (L_val _) (fun _ => rfl) (by omega)) (ev_of fun _ => ?_))
    rw [Int.add_zero]
  refine ifn (fun h => h1 (sgn_zero.1 h)) ?_
  have sx : sgn x = 1 ∧ 0 < x ∨ sgn x = -1 ∧ x < 0 := by
    unfold sgn
    split
    · exact .inr ⟨rfl, by omega⟩
    · exact .inl ⟨rfl, by omega⟩
  have sy : sgn y = 1 ∧ 0 < y ∨ sgn y = -1 ∧ y < 0 := by
    unfold sgn
    split
    · exact .inr ⟨rfl, by omega⟩
    · exact .inl ⟨rfl, by omega⟩
  have sz : ∀ z : Int, (0 < z → sgn z = 1) ∧ (z < 0 → sgn z = -1) := fun z => ⟨fun h => by unfold sgn; rw [if_neg (by omega), if_neg (by omega)], fun h => by unfold sgn; rw [if_pos h]⟩
  by_cases he : sgn x = sgn y
  · refine ifp he ?_
    obtain ⟨r, hr, hd, hv, hl⟩ := splus (L x.natAbs) (L y.natAbs) (L_dig _) (L_dig _) (by omega) (by omega)
    rw [L_val, L_val] at hv
    refine Ev.bind (f := fun k t => _) hr (Ev.bind (f := fun k t => _) (mk (sgn x) r (x + y) hd (by omega) (by omega) (fun _ => ?_) (by omega)) (ev_of fun _ => rfl))
    have h2 := sz (x + y)
    rcases sx with ⟨e1, p1⟩ | ⟨e1, p1⟩ <;> rcases sy with ⟨e2, p2⟩ | ⟨e2, p2⟩
    · rw [e1, h2.1 (by omega)]
    · omega
    · omega
    · rw [e1, h2.2 (by omega)]
  · refine ifn he ?_
    have hc := slimbs (L_dig x.natAbs) (L_dig y.natAbs) (L_top _) (L_top _) (by omega) (by omega)
    rw [L_val, L_val] at hc
    refine Ev.bind (f := fun k t => _) hc ?_
    have h2 := sz (x + y)
    by_cases hle : y.natAbs ≤ x.natAbs
    · refine ifp ?_ ?_
      · unfold sgn; rw [if_neg (by omega)]; split <;> omega
      obtain ⟨r, hr, hd, hv, hl⟩ := sminus (L x.natAbs) (L y.natAbs) (L_dig _) (L_dig _) (L_le hle) (by omega) (by rw [L_val, L_val]; omega)
      rw [L_val, L_val] at hv
      refine Ev.bind (f := fun k t => _) hr (Ev.bind (f := fun k t => _) (mk (sgn x) r (x + y) hd (by omega) ?_ (fun _ => ?_) (by omega)) (ev_of fun _ => rfl))
      · rw [hv]
        rcases sx with ⟨e1, p1⟩ | ⟨e1, p1⟩ <;> rcases sy with ⟨e2, p2⟩ | ⟨e2, p2⟩ <;> omega
      · rcases sx with ⟨e1, p1⟩ | ⟨e1, p1⟩ <;> rcases sy with ⟨e2, p2⟩ | ⟨e2, p2⟩
        · omega
        · rw [e1, h2.1 (by omega)]
        · rw [e1, h2.2 (by omega)]
        · omega
    · refine ifn ?_ ?_
      · unfold sgn; rw [if_pos (by omega)]; omega
      obtain ⟨r, hr, hd, hv, hl⟩ := sminus (L y.natAbs) (L x.natAbs) (L_dig _) (L_dig _) (L_le (by omega)) (by omega) (by rw [L_val, L_val]; omega)
      rw [L_val, L_val] at hv
      refine Ev.bind (f := fun k t => _) hr (Ev.bind (f := fun k t => _) (mk (sgn y) r (x + y) hd (by omega) ?_ (fun _ => ?_) (by omega)) (ev_of fun _ => rfl))
      · rw [hv]
        rcases sx with ⟨e1, p1⟩ | ⟨e1, p1⟩ <;> rcases sy with ⟨e2, p2⟩ | ⟨e2, p2⟩ <;> omega
      · rcases sx with ⟨e1, p1⟩ | ⟨e1, p1⟩ <;> rcases sy with ⟨e2, p2⟩ | ⟨e2, p2⟩
        · omega
        · rw [e2, h2.2 (by omega)]
        · rw [e2, h2.1 (by omega)]
        · omega
end Go.Proofs.Ytjddhnjjeomfjaa.Pz
end
section
namespace Go.Proofs.Ytjddhnjjeomfjaa.Ss
open Go.RowKit Go.Proofs.YtjddhnjjeomfjaaW.PrintWords Go.Proofs.YtjddhnjjeomfjaaW.PrintMore Go.Proofs.Ytjddhnjjeomfjaa.PW Go.Proofs.Ytjddhnjjeomfjaa.Pb Go.Proofs.Ytjddhnjjeomfjaa.Pc Go.Proofs.Ytjddhnjjeomfjaa.Pm Go.Proofs.Ytjddhnjjeomfjaa.Pw Go.Proofs.Ytjddhnjjeomfjaa.Px Go.Proofs.Ytjddhnjjeomfjaa.Pt Go.Proofs.Ytjddhnjjeomfjaa.Pz Dg
set_option linter.unusedVariables false
set_option linter.unusedSimpArgs false
theorem i64_id {x : Int} (h0 : -9223372036854775808 ≤ x) (h1 : x ≤ 9223372036854775807) : IntKind.i64.wrap x = x := by rw [IntKind.wrap_i64]; omega
theorem td24 (n : Nat) (h : n ≤ 4611686018427387904) : wrap64 (Int.tdiv (n : Int) 24) = ((n / 24 : Nat) : Int) := by
  rw [Int.tdiv_eq_ediv_of_nonneg (by omega), wrapZ _ (by omega) (by omega)]; rfl
theorem tm24 (n : Nat) : Int.tmod (n : Int) 24 = ((n % 24 : Nat) : Int) := by
  rw [Int.tmod_eq_emod_of_nonneg (by omega)]; rfl
theorem um24 (n : Nat) : IntKind.u64.wrap (Int.tmod (n : Int) 24) = ((n % 24 : Nat) : Int) := by
  rw [tm24, IntKind.wrap_u64]; omega
theorem and_one (a : Nat) (h : a < 2 ^ 63) : bits .and .i64 (a : Int) 1 = ((a % 2 : Nat) : Int) := by
  have := (bits_nat .i64 63 (by decide) (fun n h0 h1 => i64_id (by omega) (by omega)) a 1 h (by decide)).1
  rw [Nat.and_one_is_mod] at this
  exact this
theorem pow_le24 {r : Nat} (h : r ≤ 24) : 1 ≤ (2 : Int) ^ r ∧ (2 : Int) ^ r ≤ 16777216 := by
  have h1 := Nat.pow_le_pow_right (n := 2) (by decide) h
  have h2 := Nat.two_pow_pos r
  have e : ((2 : Int) ^ r) = ((2 ^ r : Nat) : Int) := by simp
  rw [e]; omega
theorem shl24 {x : Int} {r : Nat} (h0 : 0 ≤ x) (h1 : x < 16777216) (hr : r ≤ 24) : shl .i64 x (r : Int) = x * 2 ^ r ∧ 0 ≤ x * 2 ^ r ∧ x * 2 ^ r ≤ 16777215 * 16777216 := by
  have hp := pow_le24 hr
  have h2 : x * 2 ^ r ≤ 16777215 * 16777216 := Int.mul_le_mul (by omega) hp.2 (by omega) (by omega)
  have h3 : 0 ≤ x * 2 ^ r := Int.mul_nonneg h0 (by omega)
  refine ⟨?_, h3, h2⟩
  unfold shl
  rw [Int.toNat_natCast, Nat.min_eq_left (by show r ≤ 64; omega), i64_id (by omega) (by omega)]
theorem shr24 {x : Int} {r : Nat} (hr : r ≤ 24) : shr .i64 x (r : Int) = x / 2 ^ r := by
  unfold shr
  rw [Int.toNat_natCast, Nat.min_eq_left (by show r ≤ 64; omega)]
theorem left_loop (s : Int) (a : List Int) (ha : Dig 16777216 a) (k : Nat) (hk : k ≤ 1073741824) (hm : a.length ≤ 1073741824) (hs : -1 ≤ s ∧ s ≤ 1) (S : Nat) (hS : val 16777216 a * 2 ^ (k % 24) * 16777216 ^ (k / 24) = S) (d : Nat) :
    ∀ (i : Nat) (ys : List Int) (c : Int), i + d = a.length → ys.length = k / 24 + i → Dig 16777216 ys → 0 ≤ c → c < 2 ^ (k % 24) →
      val 16777216 ys + 16777216 ^ (k / 24 + i) * c = val 16777216 (a.take i) * 2 ^ (k % 24) * 16777216 ^ (k / 24) →
      Ev (fun n => spec_l02Left.l0 n (k : Int) ys c (i : Int) s a) (smk s S) := by
  have hr : k % 24 ≤ 24 := by omega
  have hq : k / 24 ≤ 1073741824 := by omega
  have um := um24 k
  generalize k % 24 = r at *
  generalize k / 24 = q at *
  have hp := pow_le24 hr
  induction d with
  | zero =>
    intro i ys c hd hy hdy hc0 hc1 hinv
    have hi : i = a.length := by omega
    subst hi
    rw [List.take_length, hS] at hinv
    have hmk := smake s (ys ++ [c]) (hdy.append (Dig.cons hc0 (by omega) Dig.nil)) (by simp; omega)
    rw [val_snoc, hy] at hmk
    have e : ((16777216 : Nat) : Int) = 16777216 := rfl
    rw [e, hinv, Int.toNat_natCast] at hmk
    refine Ev.step (f := fun n => (spec_l02Make.f n s (ys ++ [c])).bind fun bt => (some (bt.1, bt.2))) (fun n => ?_) (Ev.bind (f := fun k t => _) hmk (ev_of fun _ => rfl))
    simp only [spec_l02Left.l0]
    rw [if_neg (by omega), if_pos (by omega)]
  | succ d ih =>
    intro i ys c hd hy hdy hc0 hc1 hinv
    have hai := ha.all0 (by decide) i
    obtain ⟨hs1, hs2, hs3⟩ := shl24 hai.1 hai.2 hr
    obtain ⟨x, hx⟩ : ∃ x, x = c + a.getD i 0 * 2 ^ r := ⟨_, rfl⟩
    have hxlt : x / 16777216 < 2 ^ r := by
      apply Int.ediv_lt_of_lt_mul (by decide)
      have : (a.getD i 0 + 1) * 2 ^ r ≤ 16777216 * 2 ^ r := Int.mul_le_mul_of_nonneg_right (by omega) (by omega)
      rw [Int.add_mul] at this
      rw [hx, Int.mul_comm (2 ^ r)]
      omega
    refine Ev.step (f := fun n => spec_l02Left.l0 n (k : Int) (ys ++ [x % 16777216]) (x / 16777216) ((i + 1 : Nat) : Int) s a) (fun n => ?_)
      (ih (i + 1) _ _ (by omega) (by simp; omega) (hdy.append (Dig.cons (by omega) (by omega) Dig.nil)) (by omega) hxlt ?_)
    · simp only [spec_l02Left.l0]
      rw [if_pos (by omega), if_pos (by omega), um, if_pos (by omega), if_pos (by omega), rdN, hs1, ← hx, wrapZ x (by omega) (by omega), Int.tmod_eq_emod_of_nonneg (by omega), Int.tdiv_eq_ediv_of_nonneg (by omega), wrapZ (x / 16777216) (by omega) (by omega), wrapZ ((i : Int) + 1) (by omega) (by omega)]
      rfl
    · rw [val_snoc, hy, val_take_succ' a i, show q + (i + 1) = q + i + 1 by omega, Int.pow_succ]
      have h1 : x = x % 16777216 + 16777216 * (x / 16777216) := by omega
      have e : ((16777216 : Nat) : Int) = 16777216 := rfl
      rw [e]
      rw [Int.pow_add] at hinv ⊢
      generalize (16777216 : Int) ^ i = P at *
      generalize (16777216 : Int) ^ q = Q at *
      generalize x % 16777216 = lo at *
      generalize x / 16777216 = hi' at *
      generalize a.getD i 0 = ai at *
      generalize (2 : Int) ^ r = R at *
      generalize val 16777216 ys = Vy at *
      generalize val 16777216 (a.take i) = Va at *
      clear ih hs1 hs2 hs3 um
      grind
theorem pow_split24 (k : Nat) : (2 : Int) ^ (k % 24) * 16777216 ^ (k / 24) = 2 ^ k := by
  rw [show (16777216 : Int) = 2 ^ 24 from rfl, ← Int.pow_mul, ← Int.pow_add]
  congr 1
  omega
theorem sgn_pow (x : Int) (k : Nat) : sgn (x * 2 ^ k) = sgn x := by
  have hp : (0 : Int) < 2 ^ k := Int.pow_pos (by decide)
  unfold sgn
  rcases Int.lt_trichotomy x 0 with h | h | h
  · rw [if_pos h, if_pos (Int.mul_neg_of_neg_of_pos h hp)]
  · subst h; simp
  · have := Int.mul_pos h hp
    rw [if_neg (by omega), if_neg (by omega), if_neg (by omega), if_neg (by omega)]
theorem sleft (x : Int) (k : Nat) (hx : bl x.natAbs ≤ 1073741824) (hk : k ≤ 1073741824) : Ev (fun n => spec_l02Left.f n (sgn x) (L x.natAbs) (k : Int)) (sgn (x * 2 ^ k), L (x * 2 ^ k).natAbs) := by
  have lx := L_len x.natAbs
  unfold spec_l02Left.f
  rw [td24 k (by omega)]
  refine ifp (by omega) (ifp (by omega) ?_)
  have := left_loop (sgn x) (L x.natAbs) (L_dig _) k hk (by omega) (sgn_range x) (x * 2 ^ k).natAbs (by
    rw [L_val, Int.mul_assoc, pow_split24, Int.natAbs_mul, Int.natCast_mul]
    have hp : (0 : Int) < 2 ^ k := Int.pow_pos (by decide)
    rw [Int.natAbs_of_nonneg (Int.le_of_lt hp)]) (L x.natAbs).length 0 (List.replicate ((k / 24 : Nat) : Int).toNat 0) 0 (by omega) (by rw [List.length_replicate, Int.toNat_natCast]; rfl) (dig_replicate (by decide) _) (by decide) (Int.pow_pos (by decide)) (by rw [List.take_zero, val_nil, val_zeros]; simp)
  rw [← sgn_pow x k, smk_sgn] at this
  rw [← sgn_pow x k]
  exact this
theorem sbit (s : Int) (n k : Nat) (hn : bl n ≤ 1073741824) (hk : k ≤ 1073741824) : spec_l02Bit.f s (L n) (k : Int) = some ((n / 2 ^ k % 2 : Nat) : Int) := by
  have ln := L_len n
  have hpow : (2 : Nat) ^ k = 16777216 ^ (k / 24) * 2 ^ (k % 24) := by
    rw [show (16777216 : Nat) = 2 ^ 24 from rfl, ← Nat.pow_mul, ← Nat.pow_add]
    congr 1
    omega
  unfold spec_l02Bit.f
  rw [td24 k (by omega), um24]
  by_cases h : (L n).length ≤ k / 24
  · rw [if_pos (by omega)]
    have h1 : n < 16777216 ^ (L n).length := lt_of_dg_length _
    have h2 := Nat.pow_le_pow_right (n := 16777216) (by decide) h
    rw [hpow, ← Nat.div_div_eq_div_mul, Nat.div_eq_of_lt (Nat.lt_of_lt_of_le h1 h2), Nat.zero_div]
    rfl
  · rw [if_neg (by omega), if_pos (by omega), if_pos (by omega), if_pos (by omega), rdN, L_getD, shr24 (by omega)]
    congr 1
    have hpw : ((2 : Int) ^ (k % 24)) = ((2 ^ (k % 24) : Nat) : Int) := by simp
    rw [hpw]
    have hb := and_one (n / 16777216 ^ (k / 24) % 16777216 / 2 ^ (k % 24)) (Nat.lt_of_le_of_lt (Nat.div_le_self _ _) (Nat.lt_of_lt_of_le (Nat.mod_lt _ (by decide)) (by decide)))
    rw [show (((n / 16777216 ^ (k / 24) % 16777216 : Nat) : Int) / ((2 ^ (k % 24) : Nat) : Int)) = ((n / 16777216 ^ (k / 24) % 16777216 / 2 ^ (k % 24) : Nat) : Int) from rfl, hb, bit_limb _ _ (by omega), Nat.div_div_eq_div_mul, ← hpow]
theorem stwos_loop (s : Int) (n : Nat) (hn : bl n ≤ 1073741824) (h0 : n ≠ 0) (d : Nat) : ∀ k : Nat, k + d = tz n → Ev (fun m => spec_l02Twos.l0 m (k : Int) s (L n)) ((tz n : Nat) : Int) := by
  have hb := tz_lt h0
  induction d with
  | zero =>
    intro k hk
    obtain rfl : k = tz n := by omega
    refine Ev.step (f := fun _ => some ((tz n : Nat) : Int)) (fun m => ?_) (ev_of fun _ => rfl)
    simp only [spec_l02Twos.l0]
    rw [sbit s n (tz n) hn (by omega), Option.bind_some, if_neg (by have := tz_odd h0; omega)]
  | succ d ih =>
    intro k hk
    refine Ev.step (f := fun m => spec_l02Twos.l0 m ((k + 1 : Nat) : Int) s (L n)) (fun m => ?_) (ih (k + 1) (by omega))
    simp only [spec_l02Twos.l0]
    rw [sbit s n k hn (by omega), Option.bind_some, if_pos (by have := tz_even (n := n) (k := k) (by omega); omega), wrapZ ((k : Int) + 1) (by omega) (by omega)]
    rfl
theorem stwos (s : Int) (n : Nat) (hn : bl n ≤ 1073741824) (h0 : n ≠ 0) : Ev (fun m => spec_l02Twos.f m s (L n)) ((tz n : Nat) : Int) := by
  unfold spec_l02Twos.f
  exact stwos_loop s n hn h0 (tz n) 0 (by omega)
theorem cut_loop (s : Int) (n k : Nat) (hk : k ≤ 1073741824) (hn : bl n ≤ 1073741824) (d : Nat) :
    ∀ (j : Nat) (ys : List Int), k / 24 + j + d = (L n).length → ys.length = j → (∀ i, i < j → ys.getD i 0 = ((n / 2 ^ k / 16777216 ^ i % 16777216 : Nat) : Int)) →
      Ev (fun m => spec_l02Cut.l0 m (k : Int) ys ((k / 24 + j : Nat) : Int) s (L n)) (smk s (n / 2 ^ k)) := by
  have ln := L_len n
  have hr : k % 24 < 24 := by omega
  have um := um24 k
  have tm := tm24 k
  have hlt : n < 16777216 ^ (L n).length := lt_of_dg_length _
  have hpow : (2 : Nat) ^ k = 16777216 ^ (k / 24) * 2 ^ (k % 24) := by
    rw [show (16777216 : Nat) = 2 ^ 24 from rfl, ← Nat.pow_mul, ← Nat.pow_add]
    congr 1
    omega
  have hpw : ∀ r : Nat, ((2 : Int) ^ r) = ((2 ^ r : Nat) : Int) := fun r => by simp
  generalize hrr : k % 24 = r at *
  generalize hqq : k / 24 = q at *
  induction d with
  | zero =>
    intro j ys hd hy hdig
    have hv := val_digits (by decide) ys (n / 2 ^ k) (fun i hi => hdig i (by omega))
    have hlt2 : n / 2 ^ k < 16777216 ^ ys.length := by
      rw [hpow, ← Nat.div_div_eq_div_mul]
      refine Nat.lt_of_le_of_lt (Nat.div_le_self _ _) ?_
      apply Nat.div_lt_of_lt_mul
      rw [← Nat.pow_add, hy, show q + j = (L n).length by omega]
      exact hlt
    rw [Nat.mod_eq_of_lt hlt2] at hv
    have hdy : Dig 16777216 ys := dig_of_getD fun i hi => by
      rw [hdig i (by omega)]
      have := Nat.mod_lt (n / 2 ^ k / 16777216 ^ i) (show 0 < 16777216 by decide)
      omega
    have hmk := smake s ys hdy (by omega)
    rw [hv, Int.toNat_natCast] at hmk
    refine Ev.step (f := fun m => (spec_l02Make.f m s ys).bind fun bt => (some (bt.1, bt.2))) (fun m => ?_) (Ev.bind (f := fun k t => _) hmk (ev_of fun _ => rfl))
    simp only [spec_l02Cut.l0]
    rw [if_neg (by omega)]
  | succ d ih =>
    intro j ys hd hy hdig
    have hai : (L n).getD (q + j) 0 = ((n / 16777216 ^ (q + j) % 16777216 : Nat) : Int) := L_getD n (q + j)
    have haj : (L n).getD (q + j + 1) 0 = ((n / 16777216 ^ (q + j) / 16777216 % 16777216 : Nat) : Int) := by rw [L_getD, Nat.pow_succ, Nat.div_div_eq_div_mul]
    obtain ⟨X, hX⟩ : ∃ X, X = n / 16777216 ^ (q + j) := ⟨_, rfl⟩
    rw [← hX] at hai haj
    have hX3 : n / 2 ^ k / 16777216 ^ j = X / 2 ^ r := by
      rw [hX, hpow, Nat.div_div_eq_div_mul, Nat.div_div_eq_div_mul, Nat.pow_add]
      congr 1
      rw [Nat.mul_assoc, Nat.mul_comm (2 ^ r), Nat.mul_assoc]
    have hcd := cut_digit X r (by omega)
    have hXm := Nat.mod_lt X (show 0 < 16777216 by decide)
    have hXn := Nat.mod_lt (X / 16777216) (show 0 < 16777216 by decide)
    obtain ⟨v, hv⟩ : ∃ v : Nat, v = X / 2 ^ r % 16777216 := ⟨_, rfl⟩
    rw [← hv] at hcd
    refine Ev.step (f := fun m => spec_l02Cut.l0 m (k : Int) (ys ++ [(v : Int)]) ((q + (j + 1) : Nat) : Int) s (L n)) (fun m => ?_) (ih (j + 1) _ (by omega) (by simp; omega) (fun i hi => ?_))
    · simp only [spec_l02Cut.l0]
      rw [if_pos (by omega), if_pos (by omega), um, if_pos (by omega), wrapZ (((q + j : Nat) : Int) + 1) (by omega) (by omega), rdN, hai, shr24 (by omega), hpw]
      have hsm : ((X % 16777216 : Nat) : Int) / ((2 ^ r : Nat) : Int) = ((X % 16777216 / 2 ^ r : Nat) : Int) := rfl
      have hle := Nat.div_le_self (X % 16777216) (2 ^ r)
      rw [hsm]
      by_cases hj : q + j + 1 < (L n).length
      · have e24 : IntKind.u64.wrap (wrap64 (24 - Int.tmod (k : Int) 24)) = ((24 - r : Nat) : Int) := by rw [tm, wrapZ _ (by omega) (by omega), IntKind.wrap_u64]; omega
        obtain ⟨h1, h2, h3⟩ := shl24 (x := ((X / 16777216 % 16777216 : Nat) : Int)) (r := 24 - r) (by omega) (by omega) (by omega)
        rw [if_pos (by omega), if_pos (by omega), e24, if_pos (by omega), if_pos (by omega), show ((q + j : Nat) : Int) + 1 = ((q + j + 1 : Nat) : Int) by omega, rdN, haj, h1]
        have hw : (X % 16777216 / 2 ^ r : Nat) ≤ 16777215 := by omega
        have e : (((X % 16777216 / 2 ^ r : Nat) : Int) + ((X / 16777216 % 16777216 : Nat) : Int) * 2 ^ (24 - r)) % 16777216 = (v : Int) := by
          rw [hpw, ← hcd]; rfl
        have hs0 : 0 ≤ ((X % 16777216 / 2 ^ r : Nat) : Int) + ((X / 16777216 % 16777216 : Nat) : Int) * 2 ^ (24 - r) := Int.add_nonneg (Int.natCast_nonneg _) h2
        have hs1 : ((X % 16777216 / 2 ^ r : Nat) : Int) + ((X / 16777216 % 16777216 : Nat) : Int) * 2 ^ (24 - r) ≤ 16777215 + 16777215 * 16777216 := Int.add_le_add (Int.ofNat_le.2 hw) h3
        rw [wrapZ _ (Int.le_trans (by decide) hs0) (Int.le_trans hs1 (by decide)), Int.tmod_eq_emod_of_nonneg hs0, e]
        rfl
      · have h0 : (L n).getD (q + j + 1) 0 = 0 := getD_ge (by omega)
        rw [haj] at h0
        have h1 : X / 16777216 % 16777216 = 0 := by omega
        rw [h1, Nat.zero_mul, Nat.add_zero, Nat.mod_eq_of_lt (by omega)] at hcd
        rw [if_neg (by omega), if_pos (by omega), hcd]
        rfl
    · by_cases hij : i < j
      · rw [getD_lt (by simp; omega), List.getElem_append_left (by omega), ← getD_lt]
        exact hdig i hij
      · obtain rfl : i = j := by omega
        rw [hX3, ← hv, getD_lt (by simp; omega)]
        simp [hy]
theorem scut (s : Int) (n k : Nat) (hn : bl n ≤ 1073741824) (hk : k ≤ 1073741824) : Ev (fun m => spec_l02Cut.f m s (L n) (k : Int)) (smk s (n / 2 ^ k)) := by
  have ln := L_len n
  unfold spec_l02Cut.f
  rw [td24 k (by omega)]
  by_cases h : k / 24 ≤ (L n).length
  · exact cut_loop s n k hk hn ((L n).length - k / 24) 0 [] (by omega) rfl (fun i hi => by omega)
  · have h1 : n < 16777216 ^ (L n).length := lt_of_dg_length _
    have h2 := Nat.pow_le_pow_right (n := 16777216) (by decide) (show (L n).length ≤ k / 24 by omega)
    have hpow : (2 : Nat) ^ k = 16777216 ^ (k / 24) * 2 ^ (k % 24) := by
      rw [show (16777216 : Nat) = 2 ^ 24 from rfl, ← Nat.pow_mul, ← Nat.pow_add]
      congr 1
      omega
    have h3 : n / 2 ^ k = 0 := by rw [hpow, ← Nat.div_div_eq_div_mul, Nat.div_eq_of_lt (Nat.lt_of_lt_of_le h1 h2), Nat.zero_div]
    have hmk := smake s [] Dig.nil (by simp)
    rw [val_nil] at hmk
    rw [h3]
    refine Ev.step (f := fun m => (spec_l02Make.f m s []).bind fun bt => (some (bt.1, bt.2))) (fun m => ?_) (Ev.bind (f := fun k t => _) hmk (ev_of fun _ => rfl))
    simp only [spec_l02Cut.l0]
    rw [if_neg (by omega)]
end Go.Proofs.Ytjddhnjjeomfjaa.Ss
end
section
namespace Go.Proofs.Ytjddhnjjeomfjaa.PW
open Go.RowKit Go.Proofs.YtjddhnjjeomfjaaW.PrintWords Go.Proofs.YtjddhnjjeomfjaaW.PrintLast Go.Proofs.YtjddhnjjeomfjaaW.PrintMore
attribute [local go_sem] max2_int min2_int max_two min_two max_three min_three max_four min_four   -- for this text's walks alone
set_option linter.unusedVariables false
set_option linter.unusedSimpArgs false
mutual
def spec_l02Of.j0 : Nat → Int → Int → List Int → Option (Int × List Int)
  | 0, _, _, _ => none
  | k + 1, x0, x3, x4 => spec_l02Of.l0 k x0 x3 x4
def spec_l02Of.l0 : Nat → Int → Int → List Int → Option (Int × List Int)
  | 0, _, _, _ => none
  | k + 1, x0, x3, x4 => if x0 = 0 then ((spec_l02Make.f k x3 x4).bind fun bt139 => (some (bt139.1, bt139.2))) else (if (Int.tmod x0 16777216) < 0 then (if x4.length < 17592186044416 then (spec_l02Of.l0 k (wrap64 (Int.tdiv x0 16777216)) x3 (x4 ++ [wrap64 (-(Int.tmod x0 16777216))])) else (none)) else (if x4.length < 17592186044416 then (spec_l02Of.l0 k (wrap64 (Int.tdiv x0 16777216)) x3 (x4 ++ [Int.tmod x0 16777216])) else (none)))
end
def spec_l02Of.f (k : Nat) (a0 : Int) : Option (Int × List Int) := (some (([] : List Int) : List Int)).bind fun y136 => (if a0 < 0 then (spec_l02Of.j0 k a0 (-1) y136) else (spec_l02Of.j0 k a0 1 y136))
theorem spec_l02Of.mono_l : ∀ k, (∀ y0 y1 y2, LeO (spec_l02Of.j0 k y0 y1 y2) (spec_l02Of.j0 (k + 1) y0 y1 y2)) ∧ (∀ y0 y1 y2, LeO (spec_l02Of.l0 k y0 y1 y2) (spec_l02Of.l0 (k + 1) y0 y1 y2))
  | 0 => ⟨fun _ _ _ r h => by simp [spec_l02Of.j0] at h, fun _ _ _ r h => by simp [spec_l02Of.l0] at h⟩
  | k + 1 => by
    obtain ⟨ih0, ih1⟩ := spec_l02Of.mono_l k
    refine ⟨?_, ?_⟩
    · intro y0 y1 y2
      unfold spec_l02Of.j0
      repeat' first
      | (with_reducible exact ih0 _ _ _)
      | (with_reducible exact ih1 _ _ _)
      | (with_reducible exact spec_l02Make.mono _ _ _)
      | (with_reducible exact LeO.refl _)
      | (with_reducible exact LeO.none _)
      | (with_reducible refine LeO.ite ?_ ?_)
      | (with_reducible refine LeO.bind ?_ (fun _ => ?_))
      | exact ih0 _ _ _
      | exact ih1 _ _ _
      | exact spec_l02Make.mono _ _ _
      | exact LeO.none _
      | refine LeO.ite ?_ ?_
      | refine LeO.bind ?_ (fun _ => ?_)
    · intro y0 y1 y2
      unfold spec_l02Of.l0
      repeat' first
      | (with_reducible exact ih0 _ _ _)
      | (with_reducible exact ih1 _ _ _)
      | (with_reducible exact spec_l02Make.mono _ _ _)
      | (with_reducible exact LeO.refl _)
      | (with_reducible exact LeO.none _)
      | (with_reducible refine LeO.ite ?_ ?_)
      | (with_reducible refine LeO.bind ?_ (fun _ => ?_))
      | exact ih0 _ _ _
      | exact ih1 _ _ _
      | exact spec_l02Make.mono _ _ _
      | exact LeO.none _
      | refine LeO.ite ?_ ?_
      | refine LeO.bind ?_ (fun _ => ?_)
theorem spec_l02Of.mono : ∀ a0 k, LeO (spec_l02Of.f k a0) (spec_l02Of.f (k + 1) a0) := by
  intro a0 k
  obtain ⟨ih0, ih1⟩ := spec_l02Of.mono_l k
  unfold spec_l02Of.f
  repeat' first
      | (with_reducible exact ih0 _ _ _)
      | (with_reducible exact ih1 _ _ _)
      | (with_reducible exact spec_l02Make.mono _ _ _)
      | (with_reducible exact LeO.refl _)
      | (with_reducible exact LeO.none _)
      | (with_reducible refine LeO.ite ?_ ?_)
      | (with_reducible refine LeO.bind ?_ (fun _ => ?_))
      | exact ih0 _ _ _
      | exact ih1 _ _ _
      | exact spec_l02Make.mono _ _ _
      | exact LeO.none _
      | refine LeO.ite ?_ ?_
      | refine LeO.bind ?_ (fun _ => ?_)
set_option maxHeartbeats 8000000 in
set_option maxRecDepth 100000 in
theorem spec_l02Of.calls (k : Nat) (a0 : Int) (r1 : Int) (r2 : List Int) (w : World) (h : spec_l02Of.f k a0 = some (r1, r2)) :
    Calls Try.prog 92 #[.int .i64 a0] w fun e w' => ∃ v1_ : Value, e = .returned (.agg #[.int .i64 r1, v1_]) ∧ Kd.R (Kd.int .i64) 2 w' w.heap.size (fun _ => True) v1_ r2 ∧ Below w.heap.size w w' := by
  have hu31 := Try.underlying31
  have HB := Aside0.mk (Below.refl w.heap.size w)
  have H : ((some (([] : List Int) : List Int)).bind fun y136 => (if a0 < 0 then (spec_l02Of.j0 k a0 (-1) y136) else (spec_l02Of.j0 k a0 1 y136))) = some (r1, r2) := h
  clear h
  obtain ⟨y136, hy136⟩ : ∃ y_ : List Int, y_ = (([] : List Int)) := ⟨_, rfl⟩
  replace H : (if a0 < 0 then (spec_l02Of.j0 k a0 (-1) y136) else (spec_l02Of.j0 k a0 1 y136)) = some (r1, r2) := by first | (rw [hy136]; with_reducible exact H) | (have H2_ := (Option.bind_some _ _).symm.trans H; rw [hy136]; with_reducible exact H2_) | (have H2_ := (Option.bind_some _ _).symm.trans H; with_reducible exact H2_) | with_reducible exact H | (rw [hy136]; exact H) | exact H
  have Ny136 := Aside0.mk hy136
  clear hy136
  have HC2 := Aside0.mk H
  clear H
  go_enter Try.func92, Try.ntmps92
  go_upto_if 8 with (first | ((with_reducible refine gate_dst (N := 2) rfl ?_); refine box_event ?hg (N := 2) ?hd (cs := #[.int .i64 0, .slice none 0 0]) (t := 31) ?hr ?_; (case hd => rfl); (case hg => rfl); (case hr => first | (go_simp; done) | (go_simp; rfl)); intro gb135 hg w3 hbox hb; have n0_ := Aside0.mk (below_step (by repeat (first | (with_reducible first | exact HB.out | apply below_alloc | apply pw_below_drewN | apply below_drew1) | exact HB.out)) hb); have n1_ := Aside0.mk (hbox); have n2_ := Aside0.mk ((by rw [hg]; exact (below_size (by repeat (first | (with_reducible first | exact HB.out | apply below_alloc | apply pw_below_drewN | apply below_drew1) | exact HB.out))) : w.heap.size ≤ gb135)); have n3_ := Aside0.mk ((by rw [hg]; exact (below_size (by repeat (first | (with_reducible first | exact HB.out | apply below_alloc | apply pw_below_drewN | apply below_drew1) | exact HB.out))) : w.heap.size ≤ gb135)); clear HB; have HB := n0_; have BK135 := n1_; have GW135 := n2_; have GE135 := n3_; clear n0_ n1_ n2_ n3_; clear hb hbox hg) | ((with_reducible refine gate_dst (N := 6) rfl ?_); refine Kd.R_lit (Kd.int .i64) _ 2 ?hg (N := 6) ?hd (xs := ([] : List Int)) (inner := []) (ok := fun _ => True) (okp := fun _ => True) ?hr ?hp (fun _ hk => hk) trivial (Below.refl _ _) (Nat.le_refl _) (by simp) ?_; (case hd => rfl); (case hg => rfl); (case hr => first | (go_simp; done) | (go_simp; rfl)); (case hp => exact (Reps.none _ _)); intro v137 w4 ho5 hb hg_ hnew_; clear hg_ hnew_; (first | rw [← Ny136.out] at ho5 | (simp only [Int.reduceToNat] at ho5; rw [← Ny136.out] at ho5)); have n0_ := Aside0.mk (Kd.R_lower ho5 (below_size (by repeat (first | (with_reducible first | exact HB.out | apply below_alloc | apply pw_below_drewN | apply below_drew1 | refine below_set ?_ GE135.out) | exact HB.out)))); have n1_ := Aside0.mk (blk_below (g := gb135) (o := .cells #[.int .i64 0, .slice none 0 0] 31 (0, 0)) (by (with_reducible repeat (first | refine blk_drewN ?_ _ | refine blk_drew ?_ | refine blk_alloc ?_ _)); exact BK135.out) hb); have n2_ := Aside0.mk (below_step (by repeat (first | (with_reducible first | exact HB.out | apply below_alloc | apply pw_below_drewN | apply below_drew1 | refine below_set ?_ GE135.out) | exact HB.out)) hb); clear BK135; clear HB; have HO138 := n0_; have BK135 := n1_; have HB := n2_; clear n0_ n1_ n2_; clear hb ho5))
  (try simp only [Act.put, List.setIfInBounds_toArray, List.set_cons_zero, List.set_cons_succ])
  go_cut [3] (fun v3 wc => ∃ (kq : Nat) (x3_1 : Int), v3 = .int .i64 x3_1 ∧ Aside0 (spec_l02Of.j0 kq a0 x3_1 y136 = some (r1, r2)) ∧ Aside0 (kq ≤ k) ∧ Aside0 (Kd.R (Kd.int .i64) 2 wc w.heap.size (fun _ => True) v137 y136) ∧ Aside0 (wc.heap[gb135]? = some (.cells #[.int .i64 0, (.slice none 0 0)] 31 (0, 0))) ∧ Aside0 (Below w.heap.size w wc))
  case first =>
    have H := HC2.out
    clear HC2
    by_cases c6 : a0 < 0
    · rw [if_pos c6] at H
      have c6b0 : decide (a0 < 0) = true := decide_eq_true c6
      clear c6
      (first | rw [c6b0] | (simp only [i64_w, i32_w]; rw [c6b0]) | skip)
      have H' := Aside0.mk H
      clear H
      go_wp2
      go_meet
      case rel => exact ⟨_, ((-1)), (by first | rfl | (simp; done) | (simp [*]; done)), H', ⟨by first | omega | exact Nat.le_refl _⟩, ⟨by (with_reducible repeat (first | apply Kd.R_alloc | apply Kd.R_drewN | apply Kd.R_drew)); exact HO138.out⟩, ⟨by (with_reducible repeat (first | refine blk_drewN ?_ _ | refine blk_drew ?_ | refine blk_alloc ?_ _)); exact BK135.out⟩, ⟨by repeat (first | (with_reducible first | exact HB.out | apply below_alloc | apply pw_below_drewN | apply below_drew1 | refine below_set ?_ GE135.out) | exact HB.out)⟩⟩
    · rw [if_neg c6] at H
      have c6b0 : decide (a0 < 0) = false := decide_eq_false c6
      clear c6
      (first | rw [c6b0] | (simp only [i64_w, i32_w]; rw [c6b0]) | skip)
      have H' := Aside0.mk H
      clear H
      go_wp2
      go_meet
      case rel => exact ⟨_, (1), (by first | rfl | (simp; done) | (simp [*]; done)), H', ⟨by first | omega | exact Nat.le_refl _⟩, ⟨by (with_reducible repeat (first | apply Kd.R_alloc | apply Kd.R_drewN | apply Kd.R_drew)); exact HO138.out⟩, ⟨by (with_reducible repeat (first | refine blk_drewN ?_ _ | refine blk_drew ?_ | refine blk_alloc ?_ _)); exact BK135.out⟩, ⟨by repeat (first | (with_reducible first | exact HB.out | apply below_alloc | apply pw_below_drewN | apply below_drew1 | refine below_set ?_ GE135.out) | exact HB.out)⟩⟩
  case rest =>
    clear HC2
    try clear p2
    try clear c6
    try clear c6b0
    obtain ⟨kq, x3_1, rfl, HA, HJ1, HO_4, BK135, HB⟩ := hcut
    cases kq with
    | zero => exact absurd HA.out (by simp [spec_l02Of.j0])
    | succ kj1 =>
      have H := HA.out
      clear HA
      simp only [spec_l02Of.j0] at H
      have H' := Aside0.mk H
      clear H
      go_wp2
      go_loopg [0, 4] kj1 (fun kq v0 v4 w' => ∃ (x0_2 : Int) (x4_2 : List Int), v0 = .int .i64 x0_2 ∧ Aside0 (spec_l02Of.l0 kq x0_2 x3_1 x4_2 = some (r1, r2)) ∧ Aside0 (kq ≤ kj1) ∧ Aside0 (Kd.R (Kd.int .i64) 2 w' w.heap.size (fun _ => True) v4 x4_2) ∧ Aside0 (w'.heap[gb135]? = some (.cells #[.int .i64 0, (.slice none 0 0)] 31 (0, 0))) ∧ Aside0 (Below w.heap.size w w'))
      case atStart => exact ⟨(a0), (y136), (by first | rfl | (simp; done) | (simp [*]; done)), H', ⟨Nat.le_refl _⟩, ⟨by (with_reducible repeat (first | apply Kd.R_alloc | apply Kd.R_drewN | apply Kd.R_drew)); exact HO_4.out⟩, ⟨by (with_reducible repeat (first | refine blk_drewN ?_ _ | refine blk_drew ?_ | refine blk_alloc ?_ _)); exact BK135.out⟩, ⟨by repeat (first | (with_reducible first | exact HB.out | apply below_alloc | apply pw_below_drewN | apply below_drew1 | refine below_set ?_ GE135.out) | exact HB.out)⟩⟩
      case round =>
        clear H'
        try clear p2
        try clear c6
        try clear c6b0
        try clear p2
        obtain ⟨x0_2, x4_2, rfl, HA, HK2, HO_4, BK135, HB⟩ := hrel
        cases gk with
        | zero => exact absurd HA.out (by simp [spec_l02Of.l0])
        | succ k2 =>
          have H := HA.out
          clear HA
          simp only [spec_l02Of.l0] at H
          by_cases c7 : x0_2 = 0
          · rw [if_pos c7] at H
            have c7b0 : (x0_2 == 0) = true := beq_iff_eq.mpr c7
            have c7b1 : (x0_2 != 0) = false := bne_eq_false_iff_eq.mpr c7
            clear c7
            replace H := Option.bind_eq_some_iff.mp H
            obtain ⟨⟨t139, t140⟩, A80, H⟩ := H
            replace H : (some (t139, t140)) = some (r1, r2) := H
            have A8 := Aside0.mk A80
            clear A80
            simp only [Option.some.injEq, Prod.mk.injEq] at H
            obtain ⟨rfl, rfl⟩ := H
            obtain ⟨Ao9, co9, eo9⟩ := Kd.R_slice HO_4.out
            subst eo9
            go_wp2_with (first | ((with_reducible refine gate_callee (f := 130) rfl ?_); refine goesL_ (some 25) rfl rfl Try.func130 (by kernel_rfl) rfl #[.int .i64 x3_1, .slice Ao9 x4_2.length co9] rfl (by (try simp only [List.map_toArray, List.map_cons, List.map_nil]); first | done | rfl | (simp only [List.length_drop, List.length_take]; rfl)) ?_; (with_reducible refine (spec_l02Make.calls k2 x3_1 _ _ x4_2 t139 t140 _ ?side1 ?side2 A8.out).mono ?_); (case side1 => repeat (first | exact (Kd.R_reads' HO_4.out).2.2 | (with_reducible refine Kd.C_alloc ?_ _) | (with_reducible refine Kd.C_drewN ?_ _) | (with_reducible refine Kd.C_drew ?_))); (case side2 => exact (Kd.R_reads' HO_4.out).2.1); rintro e w10 ⟨v141, rfl, ho0, hb⟩; refine ⟨_, rfl, ?_⟩; have n0_ := Aside0.mk (Kd.R_elder' (by (with_reducible repeat (first | apply Kd.R_alloc | apply Kd.R_drewN | apply Kd.R_drew)); exact HO_4.out) (Kd.R_base ho0) hb); have n1_ := Aside0.mk (Kd.R_lower (Kd.R_new' ho0 (Kd.R_lt (by (with_reducible repeat (first | apply Kd.R_alloc | apply Kd.R_drewN | apply Kd.R_drew)); exact HO_4.out))) (below_size (by repeat (first | (with_reducible first | exact HB.out | apply below_alloc | apply pw_below_drewN | apply below_drew1 | refine below_set ?_ GE135.out) | exact HB.out)))); have n2_ := Aside0.mk (blk_below (g := gb135) (o := .cells #[.int .i64 0, .slice none 0 0] 31 (0, 0)) (by (with_reducible repeat (first | refine blk_drewN ?_ _ | refine blk_drew ?_ | refine blk_alloc ?_ _)); exact BK135.out) hb); have n3_ := Aside0.mk (below_step (by repeat (first | (with_reducible first | exact HB.out | apply below_alloc | apply pw_below_drewN | apply below_drew1 | refine below_set ?_ GE135.out) | exact HB.out)) hb); clear HO_4; clear BK135; clear HB; have HO_4 := n0_; have HO142 := n1_; have BK135 := n2_; have HB := n3_; clear n0_ n1_ n2_ n3_; (try clear hb); (try clear hb2); (try clear hk); (try clear hi); (try clear ho0); have hcz11_0 : w10.cell? ⟨gb135, 0, none⟩ = some (.int .i64 0) := (blk_cell BK135.out 0).trans rfl; have hcz11_1 : w10.cell? ⟨gb135, 1, none⟩ = some (.slice none 0 0) := (blk_cell BK135.out 1).trans rfl; have hfz11_0 := blk_frozen BK135.out 0; have hfz11_1 := blk_frozen BK135.out 1; obtain ⟨Ao12, co12, eo12⟩ := Kd.R_slice HO142.out; subst eo12))
            refine bodyPost_ret (results_cell_row rfl _ _ gb135 31 #[.int .i64 t139, .slice Ao12 t140.length co12] (0, 0) _ rfl (by (with_reducible repeat (first | refine blk_drewN ?_ _ | refine blk_drew ?_ | refine blk_alloc ?_ _)); refine blk_put (cs := #[.int .i64 t139, .slice none 0 0]) ?_ 1 _ rfl; (with_reducible repeat (first | refine blk_drewN ?_ _ | refine blk_drew ?_ | refine blk_alloc ?_ _)); refine blk_put (cs := #[.int .i64 0, .slice none 0 0]) ?_ 0 _ rfl; (with_reducible repeat (first | refine blk_drewN ?_ _ | refine blk_drew ?_ | refine blk_alloc ?_ _)); exact BK135.out) Try.underlying31 rfl (by kernel_rfl)) rfl ?_
            exact ⟨_, by first | rfl | (simp [errW_none, errW_some] <;> rfl) | (simp [*, errW_none, errW_some] <;> rfl), by (with_reducible repeat (first | apply Kd.R_alloc | apply Kd.R_drewN | apply Kd.R_drew)); exact Kd.R_mono (Kd.R_far (p := ⟨gb135, 1, none⟩) (Kd.R_far (p := ⟨gb135, 0, none⟩) (Kd.R_types HO142.out BK135.out (by decide)) (fun _ hk => hk.2) (.int .i64 t139)) (fun _ hk => hk.2) (.slice Ao12 t140.length co12)) (fun _ hk => trivial), by repeat (first | (with_reducible first | exact HB.out | apply below_alloc | apply pw_below_drewN | apply below_drew1 | refine below_set ?_ GE135.out) | exact HB.out)⟩
          · rw [if_neg c7] at H
            have c7b0 : (x0_2 == 0) = false := beq_eq_false_iff_ne.mpr c7
            have c7b1 : (x0_2 != 0) = true := bne_iff_ne.mpr c7
            by_cases c13 : (Int.tmod x0_2 16777216) < 0
            · rw [if_pos c13] at H
              have c13b0 : decide ((Int.tmod x0_2 16777216) < 0) = true := decide_eq_true c13
              clear c13
              by_cases c14 : x4_2.length < 17592186044416
              · rw [if_pos c14] at H
                have LMc14 := Aside0.mk c14
                clear c14
                obtain ⟨y143, hy143⟩ : ∃ y_ : List Int, y_ = (x4_2 ++ [wrap64 (-(Int.tmod x0_2 16777216))]) := ⟨_, rfl⟩
                replace H : (spec_l02Of.l0 k2 (wrap64 (Int.tdiv x0_2 16777216)) x3_1 y143) = some (r1, r2) := by first | (rw [hy143]; with_reducible exact H) | (have H2_ := (Option.bind_some _ _).symm.trans H; rw [hy143]; with_reducible exact H2_) | (have H2_ := (Option.bind_some _ _).symm.trans H; with_reducible exact H2_) | with_reducible exact H | (rw [hy143]; exact H) | exact H
                have Ny143 := Aside0.mk hy143
                clear hy143
                have H' := Aside0.mk H
                clear H
                go_wp2_with (first | ((with_reducible refine gate_builtin (b := .append) (xs := #[.tmp 17, .tmp 19]) rfl ?_); at_builtin; refine Kd.R_append (Kd.int .i64) (w0 := w) w.heap.size rfl (.tmp 17) (.tmp 19) 22 2 (.int .i64 0) 8 rfl Try.underlying22 info2 rfl (by decide) (by omega) u4 x4_2 (wrap64 (-(Int.tmod x0_2 16777216))) [.int .i64 (wrap64 (-(Int.tmod x0_2 16777216)))] (fun _ => True) (fun _ => False) rfl rfl ?aP (fun _ hk => hk.elim) ?aF ?aO ?aB ?aS ?aL ?_; (case aP => exact rfl); (case aB => exact (by repeat (first | (with_reducible first | exact HB.out | apply below_alloc | apply pw_below_drewN | apply below_drew1 | refine below_set ?_ GE135.out) | exact HB.out))); (case aF => exact (fun _ _ => trivial)); (case aO => exact (by (with_reducible repeat (first | apply Kd.R_alloc | apply Kd.R_drewN | apply Kd.R_drew)); exact HO_4.out)); (case aS => exact (below_size (by repeat (first | (with_reducible first | exact HB.out | apply below_alloc | apply pw_below_drewN | apply below_drew1 | refine below_set ?_ GE135.out) | exact HB.out)))); (case aL => have := LMc14.out; omega); intro v144 w15 ho hb hg hat; rw [← Ny143.out] at ho; have n0_ := Aside0.mk (blk_grown (g := gb135) (o := .cells #[.int .i64 0, .slice none 0 0] 31 (0, 0)) (by (with_reducible repeat (first | refine blk_drewN ?_ _ | refine blk_drew ?_ | refine blk_alloc ?_ _)); exact BK135.out) hg (Kd.R_ne HO_4.out BK135.out (by decide))); have n1_ := Aside0.mk (hb); have n2_ := Aside0.mk (ho); clear BK135; clear HB; clear HO_4; have BK135 := n0_; have HB := n1_; have HO145 := n2_; clear n0_ n1_ n2_; clear ho hb hg hat))
                go_roundg k2
                case measure => have := HJ1.out; have := HK2.out; omega
                case rel => exact ⟨(wrap64 (Int.tdiv x0_2 16777216)), (y143), (by first | rfl | (simp; done) | (simp [*]; done)), H', ⟨by have := HJ1.out; have := HK2.out; omega⟩, ⟨by (with_reducible repeat (first | apply Kd.R_alloc | apply Kd.R_drewN | apply Kd.R_drew)); exact HO145.out⟩, ⟨by (with_reducible repeat (first | refine blk_drewN ?_ _ | refine blk_drew ?_ | refine blk_alloc ?_ _)); exact BK135.out⟩, ⟨by repeat (first | (with_reducible first | exact HB.out | apply below_alloc | apply pw_below_drewN | apply below_drew1 | refine below_set ?_ GE135.out) | exact HB.out)⟩⟩
              · rw [if_neg c14] at H
                exact absurd H (by simp)
            · rw [if_neg c13] at H
              have c13b0 : decide ((Int.tmod x0_2 16777216) < 0) = false := decide_eq_false c13
              clear c13
              by_cases c16 : x4_2.length < 17592186044416
              · rw [if_pos c16] at H
                have LMc16 := Aside0.mk c16
                clear c16
                obtain ⟨y146, hy146⟩ : ∃ y_ : List Int, y_ = (x4_2 ++ [Int.tmod x0_2 16777216]) := ⟨_, rfl⟩
                replace H : (spec_l02Of.l0 k2 (wrap64 (Int.tdiv x0_2 16777216)) x3_1 y146) = some (r1, r2) := by first | (rw [hy146]; with_reducible exact H) | (have H2_ := (Option.bind_some _ _).symm.trans H; rw [hy146]; with_reducible exact H2_) | (have H2_ := (Option.bind_some _ _).symm.trans H; with_reducible exact H2_) | with_reducible exact H | (rw [hy146]; exact H) | exact H
                have Ny146 := Aside0.mk hy146
                clear hy146
                have H' := Aside0.mk H
                clear H
                go_wp2_with (first | ((with_reducible refine gate_builtin (b := .append) (xs := #[.tmp 17, .tmp 19]) rfl ?_); at_builtin; refine Kd.R_append (Kd.int .i64) (w0 := w) w.heap.size rfl (.tmp 17) (.tmp 19) 22 2 (.int .i64 0) 8 rfl Try.underlying22 info2 rfl (by decide) (by omega) u4 x4_2 (Int.tmod x0_2 16777216) [.int .i64 (Int.tmod x0_2 16777216)] (fun _ => True) (fun _ => False) rfl rfl ?aP (fun _ hk => hk.elim) ?aF ?aO ?aB ?aS ?aL ?_; (case aP => exact rfl); (case aB => exact (by repeat (first | (with_reducible first | exact HB.out | apply below_alloc | apply pw_below_drewN | apply below_drew1 | refine below_set ?_ GE135.out) | exact HB.out))); (case aF => exact (fun _ _ => trivial)); (case aO => exact (by (with_reducible repeat (first | apply Kd.R_alloc | apply Kd.R_drewN | apply Kd.R_drew)); exact HO_4.out)); (case aS => exact (below_size (by repeat (first | (with_reducible first | exact HB.out | apply below_alloc | apply pw_below_drewN | apply below_drew1 | refine below_set ?_ GE135.out) | exact HB.out)))); (case aL => have := LMc16.out; omega); intro v147 w17 ho hb hg hat; rw [← Ny146.out] at ho; have n0_ := Aside0.mk (blk_grown (g := gb135) (o := .cells #[.int .i64 0, .slice none 0 0] 31 (0, 0)) (by (with_reducible repeat (first | refine blk_drewN ?_ _ | refine blk_drew ?_ | refine blk_alloc ?_ _)); exact BK135.out) hg (Kd.R_ne HO_4.out BK135.out (by decide))); have n1_ := Aside0.mk (hb); have n2_ := Aside0.mk (ho); clear BK135; clear HB; clear HO_4; have BK135 := n0_; have HB := n1_; have HO148 := n2_; clear n0_ n1_ n2_; clear ho hb hg hat))
                go_roundg k2
                case measure => have := HJ1.out; have := HK2.out; omega
                case rel => exact ⟨(wrap64 (Int.tdiv x0_2 16777216)), (y146), (by first | rfl | (simp; done) | (simp [*]; done)), H', ⟨by have := HJ1.out; have := HK2.out; omega⟩, ⟨by (with_reducible repeat (first | apply Kd.R_alloc | apply Kd.R_drewN | apply Kd.R_drew)); exact HO148.out⟩, ⟨by (with_reducible repeat (first | refine blk_drewN ?_ _ | refine blk_drew ?_ | refine blk_alloc ?_ _)); exact BK135.out⟩, ⟨by repeat (first | (with_reducible first | exact HB.out | apply below_alloc | apply pw_below_drewN | apply below_drew1 | refine below_set ?_ GE135.out) | exact HB.out)⟩⟩
              · rw [if_neg c16] at H
                exact absurd H (by simp)
end Go.Proofs.Ytjddhnjjeomfjaa.PW
end
section
namespace Go.Proofs.Ytjddhnjjeomfjaa.Pv
open Go.RowKit Go.Proofs.YtjddhnjjeomfjaaW.PrintWords Go.Proofs.Ytjddhnjjeomfjaa.PW Go.Proofs.Ytjddhnjjeomfjaa.Pb Go.Proofs.Ytjddhnjjeomfjaa.Pc Go.Proofs.Ytjddhnjjeomfjaa.Pm Go.Proofs.Ytjddhnjjeomfjaa.Pw Go.Proofs.Ytjddhnjjeomfjaa.Px Dg
set_option linter.unusedVariables false
set_option linter.unusedSimpArgs false
theorem tdm (x : Int) : ((Int.tmod x 16777216 < 0 ∧ -(Int.tmod x 16777216) = ((x.natAbs % 16777216 : Nat) : Int)) ∨ (¬ Int.tmod x 16777216 < 0 ∧ Int.tmod x 16777216 = ((x.natAbs % 16777216 : Nat) : Int))) ∧ (Int.tdiv x 16777216).natAbs = x.natAbs / 16777216 ∧ (Int.tdiv x 16777216 = ((x.natAbs / 16777216 : Nat) : Int) ∨ Int.tdiv x 16777216 = -((x.natAbs / 16777216 : Nat) : Int)) := by
  by_cases h : 0 ≤ x
  · obtain ⟨m, rfl⟩ := Int.eq_ofNat_of_zero_le h
    rw [Int.tmod_eq_emod_of_nonneg (by omega), Int.tdiv_eq_ediv_of_nonneg (by omega)]
    omega
  · obtain ⟨m, hm⟩ := Int.eq_ofNat_of_zero_le (show 0 ≤ -x by omega)
    obtain rfl : x = -(m : Int) := by omega
    rw [Int.neg_tmod, Int.neg_tdiv, Int.tmod_eq_emod_of_nonneg (by omega), Int.tdiv_eq_ediv_of_nonneg (by omega)]
    omega
theorem sof_loop (n : Nat) (s : Int) (hn : (L n).length ≤ 1099511627776) : ∀ (m : Nat) (x : Int), x.natAbs = m → -9223372036854775808 ≤ x → x ≤ 9223372036854775807 → ∀ y : List Int, y ++ L m = L n → Ev (fun k => spec_l02Of.l0 k x s y) (smk s n) := by
  intro m
  induction m using Nat.strongRecOn with
  | ind m ih =>
    intro x hx h1 h2 y hy
    have hyl : y.length ≤ 1099511627776 := by have := congrArg List.length hy; rw [List.length_append] at this; omega
    by_cases h0 : x = 0
    · subst h0
      have : m = 0 := by omega
      subst this
      rw [L_zero, List.append_nil] at hy
      subst hy
      have hm := smake s (L n) (L_dig n) hn
      rw [L_val, Int.toNat_natCast] at hm
      refine Ev.step (f := fun k => (spec_l02Make.f k s (L n)).bind fun t => some (t.1, t.2)) (fun k => ?_) (Ev.bind (f := fun k t => _) hm (ev_of fun _ => rfl))
      simp only [spec_l02Of.l0]
      rw [if_pos trivial]
    · have hm0 : m ≠ 0 := by omega
      obtain ⟨hd, hq, hq2⟩ := tdm x
      rw [hx] at hd hq hq2
      have hL : L m = ((m % 16777216 : Nat) : Int) :: L (m / 16777216) := dg_pos _ hm0
      rw [hL] at hy
      have hq3 : wrap64 (Int.tdiv x 16777216) = Int.tdiv x 16777216 := wrapZ _ (by omega) (by omega)
      refine Ev.step (f := fun k => spec_l02Of.l0 k (Int.tdiv x 16777216) s (y ++ [((m % 16777216 : Nat) : Int)])) (fun k => ?_) (ih (m / 16777216) (Nat.div_lt_self (by omega) (by decide)) _ hq (by omega) (by omega) _ (by rw [List.append_assoc]; exact hy))
      simp only [spec_l02Of.l0]
      rw [if_neg h0]
      rcases hd with ⟨ha, hb⟩ | ⟨ha, hb⟩
      · rw [if_pos ha, if_pos (by omega), hq3, hb, wrapZ _ (by omega) (by omega)]
      · rw [if_neg ha, if_pos (by omega), hq3, hb]
theorem sof (n : Int) (h1 : -9223372036854775808 ≤ n) (h2 : n ≤ 9223372036854775807) : Ev (fun k => spec_l02Of.f k n) (sgn n, L n.natAbs) := by
  have hl : (L n.natAbs).length ≤ 1099511627776 := by
    have h3 := L_len n.natAbs
    have h4 : bl n.natAbs ≤ 64 := bl_le (k := 64) (by omega)
    omega
  unfold spec_l02Of.f
  simp only [Option.bind_some]
  by_cases h : n < 0
  · refine ifp h (Ev.step (f := fun k => spec_l02Of.l0 k n (-1) []) (fun k => rfl) ?_)
    rw [← smk_one n (-1) (by rw [if_pos h])]
    exact sof_loop n.natAbs (-1) hl n.natAbs n rfl h1 h2 [] rfl
  · refine ifn h (Ev.step (f := fun k => spec_l02Of.l0 k n 1 []) (fun k => rfl) ?_)
    rw [← smk_one n 1 (by rw [if_neg h])]
    exact sof_loop n.natAbs 1 hl n.natAbs n rfl h1 h2 [] rfl
end Go.Proofs.Ytjddhnjjeomfjaa.Pv
end
section
namespace Go.Proofs.Ytjddhnjjeomfjaa.Pzs
end Go.Proofs.Ytjddhnjjeomfjaa.Pzs
end
section
namespace Go.Proofs.Ytjddhnjjeomfjaa.St
end Go.Proofs.Ytjddhnjjeomfjaa.St
end
section
namespace Go.Proofs.Ytjddhnjjeomfjaa.Qa
open Go.RowKit Go.Proofs.YtjddhnjjeomfjaaW.PrintWords Go.Proofs.Ytjddhnjjeomfjaa.PW Go.Proofs.Ytjddhnjjeomfjaa.Pb Go.Proofs.Ytjddhnjjeomfjaa.Pc Go.Proofs.Ytjddhnjjeomfjaa.Pm Go.Proofs.Ytjddhnjjeomfjaa.Pw Go.Proofs.Ytjddhnjjeomfjaa.Px Go.Proofs.Ytjddhnjjeomfjaa.Pt Go.Proofs.Ytjddhnjjeomfjaa.Pz Go.Proofs.Ytjddhnjjeomfjaa.Ss Go.Proofs.Ytjddhnjjeomfjaa.St Dg
set_option linter.unusedVariables false
set_option linter.unusedSimpArgs false
theorem in_true {a b c : Int} (h1 : b ≤ a) (h2 : a ≤ c) : spec_l01In.f a b c = some true := by
  unfold spec_l01In.f
  rw [if_pos h1]
  congr 1
  exact decide_eq_true h2
theorem in_false {a b c : Int} (h : a < b ∨ c < a) : spec_l01In.f a b c = some false := by
  unfold spec_l01In.f
  by_cases h1 : a < b
  · rw [if_neg (by omega)]
  · rw [if_pos (by omega)]
    congr 1
    exact decide_eq_false (by omega)
def dy (z e : Int) : Int × List Int × Int := if z = 0 then (0, [], 0) else (sgn z, L (z.natAbs / 2 ^ tz z.natAbs), e + (tz z.natAbs : Nat))
theorem smakeD (z e : Int) (hz : bl z.natAbs ≤ 1073741824) (h1 : -1099511627776 ≤ e) (h2 : e ≤ 1099511627776) : Ev (fun k => spec_l03Make.f k (sgn z) (L z.natAbs) e) (dy z e) := by
  unfold spec_l03Make.f dy
  by_cases h0 : z = 0
  · rw [if_pos h0]
    exact ifp (sgn_zero.2 h0) (ev_of fun _ => rfl)
  · rw [if_neg h0]
    have hn : z.natAbs ≠ 0 := by omega
    have ht := tz_lt hn
    have ho := tz_odd hn
    refine ifn (fun h => h0 (sgn_zero.1 h)) ?_
    have hc := scut (sgn z) z.natAbs (tz z.natAbs) hz (by omega)
    unfold smk at hc
    rw [if_neg (by intro h; rw [h] at ho; simp at ho)] at hc
    refine Ev.bind (f := fun k t => _) (stwos (sgn z) z.natAbs hz hn) (Ev.bind (f := fun k t => _) hc (ev_of fun _ => ?_))
    rw [wrapZ _ (by omega) (by omega)]
end Go.Proofs.Ytjddhnjjeomfjaa.Qa
end
section
namespace Go.Proofs.Ytjddhnjjeomfjaa.Sm
open Go.RowKit Go.Proofs.YtjddhnjjeomfjaaW.PrintWords Go.Proofs.Ytjddhnjjeomfjaa.PW Go.Proofs.Ytjddhnjjeomfjaa.Pb Go.Proofs.Ytjddhnjjeomfjaa.Pc Go.Proofs.Ytjddhnjjeomfjaa.Pm Go.Proofs.Ytjddhnjjeomfjaa.Pw Go.Proofs.Ytjddhnjjeomfjaa.Px Go.Proofs.Ytjddhnjjeomfjaa.Pt Go.Proofs.Ytjddhnjjeomfjaa.Pz Dg
set_option linter.unusedVariables false
set_option linter.unusedSimpArgs false
section
variable (s0 s1 : Int) (a b : List Int) (ha : Dig 16777216 a) (hb : Dig 16777216 b) (hm : a.length + b.length ≤ 1073741824)
include ha hb hm
theorem mul_inner (i : Nat) (hi : i < a.length) (R : Int × List Int) (V0 : Int)
    (next : ∀ ys : List Int, ys.length = a.length + b.length + 1 → Dig 16777216 ys → (∀ j, i + 1 + b.length ≤ j → ys.getD j 0 = 0) → val 16777216 ys = V0 + 16777216 ^ i * (a.getD i 0 * val 16777216 b) →
      Ev (fun k => spec_l02Mul.l0 k ys ((i + 1 : Nat) : Int) s0 a s1 b) R) (d : Nat) :
    ∀ (k : Nat) (ys : List Int) (c : Int), k + d = b.length → ys.length = a.length + b.length + 1 → Dig 16777216 ys → 0 ≤ c → c < 16777216 → (∀ j, i + b.length ≤ j → ys.getD j 0 = 0) →
      val 16777216 ys + 16777216 ^ (i + k) * c = V0 + 16777216 ^ i * (a.getD i 0 * val 16777216 (b.take k)) →
      Ev (fun n => spec_l02Mul.l1 n ys (i : Int) c (k : Int) s0 a s1 b) R := by
  induction d with
  | zero =>
    intro k ys c hd hy hdy hc0 hc1 hz hinv
    have hk : k = b.length := by omega
    subst hk
    have hz1 := hz (i + b.length) (by omega)
    refine Ev.step (f := fun n => spec_l02Mul.l0 n (ys.set (i + b.length) c) ((i + 1 : Nat) : Int) s0 a s1 b) (fun n => ?_) (next _ (by simpa using hy) (hdy.set _ hc0 (by omega)) (fun j hj => ?_) ?_)
    · simp only [spec_l02Mul.l1]
      rw [if_neg (by omega), wrapZ ((i : Int) + (b.length : Int)) (by omega) (by omega), if_pos (by omega), if_pos (by omega), wrapZ _ (by omega) (by omega), show ((i : Int) + (b.length : Int)).toNat = i + b.length by omega]
      rfl
    · rw [Dg.getD_set_ne (by omega)]; exact hz j (by omega)
    · rw [val_set (by omega), hz1, Int.sub_zero]
      rw [List.take_length] at hinv
      exact hinv
  | succ d ih =>
    intro k ys c hd hy hdy hc0 hc1 hz hinv
    have hai := ha.all0 (by decide) i
    have hbk := hb.all0 (by decide) k
    have hyk := hdy.all0 (by decide) (i + k)
    have hp0 : 0 ≤ a.getD i 0 * b.getD k 0 := Int.mul_nonneg hai.1 hbk.1
    have hp1 : a.getD i 0 * b.getD k 0 ≤ 16777215 * 16777215 := Int.mul_le_mul (by omega) (by omega) hbk.1 (by omega)
    obtain ⟨x, hx⟩ : ∃ x, x = c + ys.getD (i + k) 0 + a.getD i 0 * b.getD k 0 := ⟨_, rfl⟩
    refine Ev.step (f := fun n => spec_l02Mul.l1 n (ys.set (i + k) (x % 16777216)) (i : Int) (x / 16777216) ((k + 1 : Nat) : Int) s0 a s1 b) (fun n => ?_)
      (ih (k + 1) _ _ (by omega) (by simpa using hy) (hdy.set _ (by omega) (by omega)) (by omega) (by omega) (fun j hj => ?_) ?_)
    · simp only [spec_l02Mul.l1]
      rw [if_pos (by omega), wrapZ ((i : Int) + (k : Int)) (by omega) (by omega), if_pos (by omega), if_pos (by omega), if_pos (by omega), if_pos (by omega), if_pos (by omega), rdN, rdN, show (i : Int) + (k : Int) = ((i + k : Nat) : Int) by omega, rdN,
        wrapZ (c + _) (by omega) (by omega), wrapZ (a.getD i 0 * b.getD k 0) (by omega) (by omega), ← hx, wrapZ x (by omega) (by omega), Int.tmod_eq_emod_of_nonneg (by omega), Int.tdiv_eq_ediv_of_nonneg (by omega), wrapZ (x / 16777216) (by omega) (by omega), wrapZ ((k : Int) + 1) (by omega) (by omega), Int.toNat_natCast]
      rfl
    · rw [Dg.getD_set_ne (by omega)]; exact hz j hj
    · rw [val_set (by omega), val_take_succ' b k, show i + (k + 1) = (i + k) + 1 by omega, Int.pow_succ]
      rw [Int.pow_add] at hinv
      have h1 : x = x % 16777216 + 16777216 * (x / 16777216) := by omega
      have e : ((16777216 : Nat) : Int) = 16777216 := rfl
      rw [e, Int.pow_add]
      generalize (16777216 : Int) ^ i = P at *
      generalize (16777216 : Int) ^ k = Q at *
      generalize x % 16777216 = lo at *
      generalize x / 16777216 = hi' at *
      generalize ys.getD (i + k) 0 = yk at *
      generalize a.getD i 0 = ai at *
      generalize b.getD k 0 = bk at *
      generalize val 16777216 ys = Vy at *
      generalize val 16777216 (b.take k) = Vb at *
      clear ih next hp1 hp0
      grind
theorem mul_loop (hs0 : -1 ≤ s0 ∧ s0 ≤ 1) (hs1 : -1 ≤ s1 ∧ s1 ≤ 1) (s : Nat) (hs : val 16777216 a * val 16777216 b = s) (d : Nat) :
    ∀ (i : Nat) (ys : List Int), i + d = a.length → ys.length = a.length + b.length + 1 → Dig 16777216 ys → (∀ j, i + b.length ≤ j → ys.getD j 0 = 0) →
      val 16777216 ys = val 16777216 (a.take i) * val 16777216 b →
      Ev (fun k => spec_l02Mul.l0 k ys (i : Int) s0 a s1 b) (smk (s0 * s1) s) := by
  induction d with
  | zero =>
    intro i ys hd hy hdy hz hinv
    have hi : i = a.length := by omega
    subst hi
    rw [List.take_length, hs] at hinv
    have hss : -1 ≤ s0 * s1 ∧ s0 * s1 ≤ 1 := by
      rcases (show s0 = -1 ∨ s0 = 0 ∨ s0 = 1 by omega) with rfl | rfl | rfl <;> omega
    have hmk := smake (s0 * s1) ys hdy (by omega)
    rw [hinv, Int.toNat_natCast] at hmk
    refine Ev.step (f := fun k => (spec_l02Make.f k (wrap64 (s0 * s1)) ys).bind fun bt => (some (bt.1, bt.2))) (fun k => ?_) ?_
    · simp only [spec_l02Mul.l0]
      rw [if_neg (by omega)]
    · rw [wrapZ _ (by omega) (by omega)]
      exact Ev.bind (f := fun k t => _) hmk (ev_of fun _ => rfl)
  | succ d ih =>
    intro i ys hd hy hdy hz hinv
    have h1 := mul_inner s0 s1 a b ha hb hm i (by omega) (smk (s0 * s1) s) (val 16777216 (a.take i) * val 16777216 b) (fun ys' h1 h2 h3 h4 => ih (i + 1) ys' (by omega) h1 h2 h3 (by
      rw [h4, val_take_succ' a i]
      have e : ((16777216 : Nat) : Int) = 16777216 := rfl
      rw [e]
      generalize (16777216 : Int) ^ i = P
      grind)) b.length 0 ys 0 (by omega) hy hdy (by omega) (by omega) hz (by rw [hinv, List.take_zero, val_nil]; simp)
    refine Ev.step (f := fun n => spec_l02Mul.l1 n ys (i : Int) 0 0 s0 a s1 b) (fun n => ?_) h1
    simp only [spec_l02Mul.l0]
    rw [if_pos (by omega)]
end
end Go.Proofs.Ytjddhnjjeomfjaa.Sm
end
section
namespace Go.Proofs.Ytjddhnjjeomfjaa.Qb
open Go.RowKit Go.Proofs.YtjddhnjjeomfjaaW.PrintWords Go.Proofs.Ytjddhnjjeomfjaa.PW Go.Proofs.Ytjddhnjjeomfjaa.Pb Go.Proofs.Ytjddhnjjeomfjaa.Pc Go.Proofs.Ytjddhnjjeomfjaa.Pm Go.Proofs.Ytjddhnjjeomfjaa.Pw Go.Proofs.Ytjddhnjjeomfjaa.Px Go.Proofs.Ytjddhnjjeomfjaa.Pt Go.Proofs.Ytjddhnjjeomfjaa.Pz Go.Proofs.Ytjddhnjjeomfjaa.Pzs Go.Proofs.Ytjddhnjjeomfjaa.Ss Go.Proofs.Ytjddhnjjeomfjaa.St Go.Proofs.Ytjddhnjjeomfjaa.Sm Go.Proofs.Ytjddhnjjeomfjaa.Qa Dg
set_option linter.unusedVariables false
set_option linter.unusedSimpArgs false
theorem tz_mul {n : Nat} (h : n ≠ 0) (m : Nat) : tz (n * 2 ^ m) = tz n + m := by
  induction m with
  | zero => simp
  | succ m ih =>
    have hp := Nat.two_pow_pos m
    have h1 : n * 2 ^ m ≠ 0 := Nat.mul_ne_zero h (by omega)
    rw [Nat.pow_succ, ← Nat.mul_assoc, tz_half (by omega) (by omega), Nat.mul_div_cancel _ (by decide), ih]
    rfl
theorem dy_shift (z x : Int) (m : Nat) : dy (z * 2 ^ m) x = dy z (x + m) := by
  unfold dy
  have hp : (0 : Int) < 2 ^ m := Int.pow_pos (by decide)
  by_cases h0 : z = 0
  · subst h0; simp
  · have h1 : z * 2 ^ m ≠ 0 := Int.mul_ne_zero h0 (by omega)
    have ha : (z * 2 ^ m).natAbs = z.natAbs * 2 ^ m := by rw [Int.natAbs_mul, show ((2 : Int) ^ m).natAbs = 2 ^ m by rw [Int.natAbs_pow]; rfl]
    rw [if_neg h1, if_neg h0, ha, tz_mul (by omega), sgn_pow, Nat.pow_add, Nat.mul_comm z.natAbs, Nat.mul_comm (2 ^ tz z.natAbs), Nat.mul_div_mul_left _ _ (Nat.two_pow_pos m)]
    congr 2
    all_goals omega
end Go.Proofs.Ytjddhnjjeomfjaa.Qb
end
section
namespace Go.Proofs.Ytjddhnjjeomfjaa.PW
open Go.RowKit Go.Proofs.YtjddhnjjeomfjaaW.PrintWords Go.Proofs.YtjddhnjjeomfjaaW.PrintLast Go.Proofs.YtjddhnjjeomfjaaW.PrintMore
attribute [local go_sem] max2_int min2_int max_two min_two max_three min_three max_four min_four   -- for this text's walks alone
set_option linter.unusedVariables false
set_option linter.unusedSimpArgs false
def spec_l02Length.l0 : Nat → Int → Int → Option (Int)
  | 0, _, _ => none
  | k + 1, x4, x5 => if x5 > 0 then (spec_l02Length.l0 k (wrap64 (x4 + 1)) (wrap64 (Int.tdiv x5 2))) else (some x4)
def spec_l02Length.f (k : Nat) (a0_0 : Int) (l0_1 : List Int) : Option (Int) := if (l0_1.length : Int) = 0 then (some 0) else (if 0 ≤ (wrap64 ((l0_1.length : Int) - 1)) then (if (wrap64 ((l0_1.length : Int) - 1)) < (l0_1.length : Int) then (spec_l02Length.l0 k (wrap64 ((wrap64 ((l0_1.length : Int) - 1)) * 24)) (rd l0_1 (wrap64 ((l0_1.length : Int) - 1)))) else (none)) else (none))
theorem spec_l02Length.mono_l : ∀ k, (∀ y0 y1, LeO (spec_l02Length.l0 k y0 y1) (spec_l02Length.l0 (k + 1) y0 y1))
  | 0 => fun _ _ r h => by simp [spec_l02Length.l0] at h
  | k + 1 => by
    have ih0 := spec_l02Length.mono_l k
    · intro y0 y1
      unfold spec_l02Length.l0
      repeat' first
      | (with_reducible exact ih0 _ _)
      | (with_reducible exact LeO.refl _)
      | (with_reducible exact LeO.none _)
      | (with_reducible refine LeO.ite ?_ ?_)
      | (with_reducible refine LeO.bind ?_ (fun _ => ?_))
      | exact ih0 _ _
      | exact LeO.none _
      | refine LeO.ite ?_ ?_
      | refine LeO.bind ?_ (fun _ => ?_)
theorem spec_l02Length.mono : ∀ a0 a1 k, LeO (spec_l02Length.f k a0 a1) (spec_l02Length.f (k + 1) a0 a1) := by
  intro a0 a1 k
  have ih0 := spec_l02Length.mono_l k
  unfold spec_l02Length.f
  repeat' first
      | (with_reducible exact ih0 _ _)
      | (with_reducible exact LeO.refl _)
      | (with_reducible exact LeO.none _)
      | (with_reducible refine LeO.ite ?_ ?_)
      | (with_reducible refine LeO.bind ?_ (fun _ => ?_))
      | exact ih0 _ _
      | exact LeO.none _
      | refine LeO.ite ?_ ?_
      | refine LeO.bind ?_ (fun _ => ?_)
set_option maxHeartbeats 8000000 in
set_option maxRecDepth 100000 in
theorem spec_l02Length.calls (k : Nat) (a0_0 : Int) (A0_1 : Option Addr) (c0_1 : Nat) (l0_1 : List Int) (r : Int) (w : World) (hr0_1 : Kd.C (Kd.int .i64) w A0_1 l0_1.length l0_1) (hc0_1 : l0_1.length ≤ c0_1) (h : spec_l02Length.f k a0_0 l0_1 = some r) :
    Calls Try.prog 57 #[.agg #[.int .i64 a0_0, .slice A0_1 l0_1.length c0_1]] w fun e w' => e = .returned (.int .i64 r) ∧ Below w.heap.size w w' := by
  have hu31 := Try.underlying31
  have HR0_1 := Aside0.mk hr0_1
  have HC0_1 := Aside0.mk hc0_1
  clear hr0_1 hc0_1
  have HB := Aside0.mk (Below.refl w.heap.size w)
  have H : (if (l0_1.length : Int) = 0 then (some 0) else (if 0 ≤ (wrap64 ((l0_1.length : Int) - 1)) then (if (wrap64 ((l0_1.length : Int) - 1)) < (l0_1.length : Int) then (spec_l02Length.l0 k (wrap64 ((wrap64 ((l0_1.length : Int) - 1)) * 24)) (rd l0_1 (wrap64 ((l0_1.length : Int) - 1)))) else (none)) else (none))) = some r := h
  clear h
  by_cases c2 : (l0_1.length : Int) = 0
  · rw [if_pos c2] at H
    have c2b0 : ((l0_1.length : Int) == 0) = true := beq_iff_eq.mpr c2
    have c2b1 : ((l0_1.length : Int) != 0) = false := bne_eq_false_iff_eq.mpr c2
    clear c2
    obtain rfl := Option.some.inj H
    go_enter Try.func57, Try.ntmps57
    go_wp2_with (first | ((with_reducible refine gate_dst (N := 1) rfl ?_); refine box_event ?hg (N := 1) ?hd (cs := #[.int .i64 a0_0, .slice A0_1 l0_1.length c0_1]) (t := 31) ?hr ?_; (case hd => rfl); (case hg => rfl); (case hr => first | (go_simp; done) | (go_simp; rfl)); intro gb117 hg w3 hbox hb; have n0_ := Aside0.mk (below_step (by repeat (first | (with_reducible first | exact HB.out | apply below_alloc | apply pw_below_drewN | apply below_drew1) | exact HB.out)) hb); have n1_ := Aside0.mk (hbox); have n2_ := Aside0.mk ((by rw [hg]; exact (below_size (by repeat (first | (with_reducible first | exact HB.out | apply below_alloc | apply pw_below_drewN | apply below_drew1) | exact HB.out))) : w.heap.size ≤ gb117)); have n3_ := Aside0.mk ((by rw [hg]; exact (below_size (by repeat (first | (with_reducible first | exact HB.out | apply below_alloc | apply pw_below_drewN | apply below_drew1) | exact HB.out))) : w.heap.size ≤ gb117)); clear HB; have HB := n0_; have BK117 := n1_; have GW117 := n2_; have GE117 := n3_; clear n0_ n1_ n2_ n3_; clear hb hbox hg; have hcz4_0 : w3.cell? ⟨gb117, 0, none⟩ = some (.int .i64 a0_0) := (blk_cell BK117.out 0).trans rfl; have hcz4_1 : w3.cell? ⟨gb117, 1, none⟩ = some (.slice A0_1 l0_1.length c0_1) := (blk_cell BK117.out 1).trans rfl; have hfz4_0 := blk_frozen BK117.out 0; have hfz4_1 := blk_frozen BK117.out 1))
    go_ret
    exact ⟨by first | rfl | (simp [errW_none, errW_some] <;> rfl) | (simp [*, errW_none, errW_some] <;> rfl), by repeat (first | (with_reducible first | exact HB.out | apply below_alloc | apply pw_below_drewN | apply below_drew1 | refine below_set ?_ GE117.out) | exact HB.out)⟩
  · rw [if_neg c2] at H
    have c2b0 : ((l0_1.length : Int) == 0) = false := beq_eq_false_iff_ne.mpr c2
    have c2b1 : ((l0_1.length : Int) != 0) = true := bne_iff_ne.mpr c2
    have c2b2 : ¬ (l0_1 = []) := fun h_ => c2 (by rw [h_]; rfl)
    obtain ⟨ji5, hji5⟩ : ∃ j_ : Int, (wrap64 ((l0_1.length : Int) - 1)) = j_ := ⟨_, rfl⟩
    replace H : (if 0 ≤ (ji5) then (if (ji5) < (l0_1.length : Int) then (spec_l02Length.l0 k (wrap64 ((ji5) * 24)) (rd l0_1 (ji5))) else (none)) else (none)) = some r := by first | (rw [hji5] at H; exact H) | (simp only [hji5] at H ⊢; exact H)
    have hji5w : (IntKind.i64.wrap ((l0_1.length : Int) - 1)) = ji5 := (i64_w _).trans hji5
    by_cases c6 : 0 ≤ (ji5)
    · rw [if_pos c6] at H
      have c6b0 : decide (0 ≤ (ji5)) = true := decide_eq_true c6
      clear c6
      by_cases c7 : (ji5) < (l0_1.length : Int)
      · rw [if_pos c7] at H
        have c7b0 : decide ((ji5) < (l0_1.length : Int)) = true := decide_eq_true c7
        clear c7
        have H' := Aside0.mk H
        clear H
        go_enter Try.func57, Try.ntmps57
        go_wp2_with (first | ((with_reducible refine gate_dst (N := 1) rfl ?_); refine box_event ?hg (N := 1) ?hd (cs := #[.int .i64 a0_0, .slice A0_1 l0_1.length c0_1]) (t := 31) ?hr ?_; (case hd => rfl); (case hg => rfl); (case hr => first | (go_simp; done) | (go_simp; rfl)); intro gb117 hg w8 hbox hb; have n0_ := Aside0.mk (below_step (by repeat (first | (with_reducible first | exact HB.out | apply below_alloc | apply pw_below_drewN | apply below_drew1) | exact HB.out)) hb); have n1_ := Aside0.mk (hbox); have n2_ := Aside0.mk ((by rw [hg]; exact (below_size (by repeat (first | (with_reducible first | exact HB.out | apply below_alloc | apply pw_below_drewN | apply below_drew1) | exact HB.out))) : w.heap.size ≤ gb117)); have n3_ := Aside0.mk ((by rw [hg]; exact (below_size (by repeat (first | (with_reducible first | exact HB.out | apply below_alloc | apply pw_below_drewN | apply below_drew1) | exact HB.out))) : w.heap.size ≤ gb117)); clear HB; have HB := n0_; have BK117 := n1_; have GW117 := n2_; have GE117 := n3_; clear n0_ n1_ n2_ n3_; clear hb hbox hg; have hcz9_0 : w8.cell? ⟨gb117, 0, none⟩ = some (.int .i64 a0_0) := (blk_cell BK117.out 0).trans rfl; have hcz9_1 : w8.cell? ⟨gb117, 1, none⟩ = some (.slice A0_1 l0_1.length c0_1) := (blk_cell BK117.out 1).trans rfl; have hfz9_0 := blk_frozen BK117.out 0; have hfz9_1 := blk_frozen BK117.out 1; have p118 : 0 ≤ ((ji5) : Int) := of_decide_eq_true (by first | (with_reducible assumption) | assumption); have q118 : (ji5) < (l0_1.length : Int) := of_decide_eq_true (by first | (with_reducible assumption) | assumption); obtain ⟨ad118, e118, hx118_0⟩ := Kd.at_int HR0_1.out (ji5) p118 q118; cases e118; replace hx118_0 := (HB.out.cell (World.block_lt_of_cell? w _ hx118_0)).trans hx118_0; replace p118 := eq_true p118; replace q118 := eq_true q118))
        go_loopg [4, 5] k (fun kq v4 v5 w' => ∃ (x4_1 : Int) (x5_1 : Int), v4 = .int .i64 x4_1 ∧ v5 = .int .i64 x5_1 ∧ Aside0 (spec_l02Length.l0 kq x4_1 x5_1 = some r) ∧ Aside0 (kq ≤ k) ∧ Aside0 (w'.heap[gb117]? = some (.cells #[.int .i64 a0_0, (.slice (some ad118) l0_1.length c0_1)] 31 (0, 0))) ∧ Aside0 (Below w.heap.size w w'))
        case atStart => exact ⟨(wrap64 ((ji5) * 24)), (rd l0_1 (ji5)), (by first | rfl | (simp; done) | (simp only [← hji5] <;> (first | rfl | simp)) | (simp [*]; done)), (by first | rfl | (simp; done) | (simp only [← hji5] <;> (first | rfl | simp)) | (simp [*]; done)), H', ⟨Nat.le_refl _⟩, ⟨by (with_reducible repeat (first | refine blk_drewN ?_ _ | refine blk_drew ?_ | refine blk_alloc ?_ _)); exact BK117.out⟩, ⟨by repeat (first | (with_reducible first | exact HB.out | apply below_alloc | apply pw_below_drewN | apply below_drew1 | refine below_set ?_ GE117.out) | exact HB.out)⟩⟩
        case round =>
          clear H'
          try clear p1
          try clear q1
          try clear hx1
          try clear c2
          try clear c2b0
          try clear c2b1
          try clear c2b2
          try clear p2
          try clear c5
          try clear c6
          try clear c6b0
          try clear p6
          try clear c7
          try clear c7b0
          try clear hcz4_0
          try clear hcz4_1
          try clear hcz9_0
          try clear hcz9_1
          try clear hfz4_0
          try clear hfz4_1
          try clear hfz9_0
          try clear hfz9_1
          try clear hx118_0
          try clear p118
          try clear q118
          obtain ⟨x4_1, x5_1, rfl, rfl, HA, HK1, BK117, HB⟩ := hrel
          cases gk with
          | zero => exact absurd HA.out (by simp [spec_l02Length.l0])
          | succ k1 =>
            have H := HA.out
            clear HA
            simp only [spec_l02Length.l0] at H
            by_cases c10 : x5_1 > 0
            · rw [if_pos c10] at H
              have c10b0 : decide (0 < x5_1) = true := decide_eq_true c10
              clear c10
              have H' := Aside0.mk H
              clear H
              go_wp2
              go_roundg k1
              case measure => have := HK1.out; omega
              case rel => exact ⟨(wrap64 (x4_1 + 1)), (wrap64 (Int.tdiv x5_1 2)), (by first | rfl | (simp; done) | (simp [*]; done)), (by first | rfl | (simp; done) | (simp [*]; done)), H', ⟨by have := HK1.out; omega⟩, ⟨by (with_reducible repeat (first | refine blk_drewN ?_ _ | refine blk_drew ?_ | refine blk_alloc ?_ _)); exact BK117.out⟩, ⟨by repeat (first | (with_reducible first | exact HB.out | apply below_alloc | apply pw_below_drewN | apply below_drew1 | refine below_set ?_ GE117.out) | exact HB.out)⟩⟩
            · rw [if_neg c10] at H
              have c10b0 : decide (0 < x5_1) = false := decide_eq_false c10
              clear c10
              obtain rfl := Option.some.inj H
              go_wp2
              go_ret
              exact ⟨by first | rfl | (simp [errW_none, errW_some] <;> rfl) | (simp only [← hji5]; first | rfl | (simp [errW_none, errW_some] <;> rfl)) | (simp [*, errW_none, errW_some] <;> rfl), by repeat (first | (with_reducible first | exact HB.out | apply below_alloc | apply pw_below_drewN | apply below_drew1 | refine below_set ?_ GE117.out) | exact HB.out)⟩
      · rw [if_neg c7] at H
        exact absurd H (by simp)
    · rw [if_neg c6] at H
      exact absurd H (by simp)
end Go.Proofs.Ytjddhnjjeomfjaa.PW
end
section
namespace Go.Proofs.Ytjddhnjjeomfjaa.PW
open Go.RowKit Go.Proofs.YtjddhnjjeomfjaaW.PrintWords Go.Proofs.YtjddhnjjeomfjaaW.PrintLast Go.Proofs.YtjddhnjjeomfjaaW.PrintMore
attribute [local go_sem] max2_int min2_int max_two min_two max_three min_three max_four min_four   -- for this text's walks alone
set_option linter.unusedVariables false
set_option linter.unusedSimpArgs false
def spec_l02Abs.f (k : Nat) (a0_0 : Int) (l0_1 : List Int) : Option (Int × List Int) := (spec_l02Make.f k (wrap64 (a0_0 * a0_0)) l0_1).bind fun bt151 => (some (bt151.1, bt151.2))
theorem spec_l02Abs.mono : ∀ a0 a1 k, LeO (spec_l02Abs.f k a0 a1) (spec_l02Abs.f (k + 1) a0 a1) := by
  intro a0 a1 k
  unfold spec_l02Abs.f
  repeat' first
      | (with_reducible exact spec_l02Make.mono _ _ _)
      | (with_reducible exact LeO.refl _)
      | (with_reducible exact LeO.none _)
      | (with_reducible refine LeO.ite ?_ ?_)
      | (with_reducible refine LeO.bind ?_ (fun _ => ?_))
      | exact spec_l02Make.mono _ _ _
      | exact LeO.none _
      | refine LeO.ite ?_ ?_
      | refine LeO.bind ?_ (fun _ => ?_)
set_option maxHeartbeats 8000000 in
set_option maxRecDepth 100000 in
theorem spec_l02Abs.calls (k : Nat) (a0_0 : Int) (A0_1 : Option Addr) (c0_1 : Nat) (l0_1 : List Int) (r1 : Int) (r2 : List Int) (w : World) (hr0_1 : Kd.C (Kd.int .i64) w A0_1 l0_1.length l0_1) (hc0_1 : l0_1.length ≤ c0_1) (h : spec_l02Abs.f k a0_0 l0_1 = some (r1, r2)) :
    Calls Try.prog 101 #[.agg #[.int .i64 a0_0, .slice A0_1 l0_1.length c0_1]] w fun e w' => ∃ v1_ : Value, e = .returned (.agg #[.int .i64 r1, v1_]) ∧ Kd.R (Kd.int .i64) 2 w' w.heap.size (fun _ => True) v1_ r2 ∧ Below w.heap.size w w' := by
  have hu31 := Try.underlying31
  have HR0_1 := Aside0.mk hr0_1
  have HC0_1 := Aside0.mk hc0_1
  clear hr0_1 hc0_1
  have HB := Aside0.mk (Below.refl w.heap.size w)
  have H : ((spec_l02Make.f k (wrap64 (a0_0 * a0_0)) l0_1).bind fun bt151 => (some (bt151.1, bt151.2))) = some (r1, r2) := h
  clear h
  replace H := Option.bind_eq_some_iff.mp H
  obtain ⟨⟨t151, t152⟩, A20, H⟩ := H
  replace H : (some (t151, t152)) = some (r1, r2) := H
  have A2 := Aside0.mk A20
  clear A20
  simp only [Option.some.injEq, Prod.mk.injEq] at H
  obtain ⟨rfl, rfl⟩ := H
  go_enter Try.func101, Try.ntmps101
  go_wp2_with (first | ((with_reducible refine gate_dst (N := 1) rfl ?_); refine box_event ?hg (N := 1) ?hd (cs := #[.int .i64 a0_0, .slice A0_1 l0_1.length c0_1]) (t := 31) ?hr ?_; (case hd => rfl); (case hg => rfl); (case hr => first | (go_simp; done) | (go_simp; rfl)); intro gb149 hg w3 hbox hb; have n0_ := Aside0.mk (below_step (by repeat (first | (with_reducible first | exact HB.out | apply below_alloc | apply pw_below_drewN | apply below_drew1) | exact HB.out)) hb); have n1_ := Aside0.mk (hbox); have n2_ := Aside0.mk ((by rw [hg]; exact (below_size (by repeat (first | (with_reducible first | exact HB.out | apply below_alloc | apply pw_below_drewN | apply below_drew1) | exact HB.out))) : w.heap.size ≤ gb149)); have n3_ := Aside0.mk ((by rw [hg]; exact (below_size (by repeat (first | (with_reducible first | exact HB.out | apply below_alloc | apply pw_below_drewN | apply below_drew1) | exact HB.out))) : w.heap.size ≤ gb149)); clear HB; have HB := n0_; have BK149 := n1_; have GW149 := n2_; have GE149 := n3_; clear n0_ n1_ n2_ n3_; clear hb hbox hg) | ((with_reducible refine gate_dst (N := 2) rfl ?_); refine box_event ?hg (N := 2) ?hd (cs := #[.int .i64 0, .slice none 0 0]) (t := 31) ?hr ?_; (case hd => rfl); (case hg => rfl); (case hr => first | (go_simp; done) | (go_simp; rfl)); intro gb150 hg w4 hbox hb; have n0_ := Aside0.mk (blk_below (g := gb149) (o := .cells #[.int .i64 a0_0, .slice A0_1 l0_1.length c0_1] 31 (0, 0)) (by (with_reducible repeat (first | refine blk_drewN ?_ _ | refine blk_drew ?_ | refine blk_alloc ?_ _)); exact BK149.out) hb); have n1_ := Aside0.mk (below_step (by repeat (first | (with_reducible first | exact HB.out | apply below_alloc | apply pw_below_drewN | apply below_drew1 | refine below_set ?_ GE149.out) | exact HB.out)) hb); have n2_ := Aside0.mk (hbox); have n3_ := Aside0.mk ((by rw [hg]; exact (below_size (by repeat (first | (with_reducible first | exact HB.out | apply below_alloc | apply pw_below_drewN | apply below_drew1 | refine below_set ?_ GE149.out) | exact HB.out))) : w.heap.size ≤ gb150)); have n4_ := Aside0.mk ((by rw [hg]; exact (below_size (by repeat (first | (with_reducible first | exact HB.out | apply below_alloc | apply pw_below_drewN | apply below_drew1 | refine below_set ?_ GE149.out) | exact HB.out))) : w.heap.size ≤ gb150)); have n5_ := Aside0.mk ((by rw [hg]; exact Nat.ne_of_lt (blk_lt (g := gb149) (o := .cells #[.int .i64 a0_0, .slice A0_1 l0_1.length c0_1] 31 (0, 0)) (by (with_reducible repeat (first | refine blk_drewN ?_ _ | refine blk_drew ?_ | refine blk_alloc ?_ _)); exact BK149.out)) : gb149 ≠ gb150)); have n6_ := Aside0.mk ((by rw [hg]; exact Nat.ne_of_gt (blk_lt (g := gb149) (o := .cells #[.int .i64 a0_0, .slice A0_1 l0_1.length c0_1] 31 (0, 0)) (by (with_reducible repeat (first | refine blk_drewN ?_ _ | refine blk_drew ?_ | refine blk_alloc ?_ _)); exact BK149.out)) : gb150 ≠ gb149)); clear BK149; clear HB; have BK149 := n0_; have HB := n1_; have BK150 := n2_; have GW150 := n3_; have GE150 := n4_; have NB149_150 := n5_; have NB150_149 := n6_; clear n0_ n1_ n2_ n3_ n4_ n5_ n6_; clear hb hbox hg; have hnb5 := NB149_150.out; have hnc5 := NB150_149.out; have hcz6_0 : w4.cell? ⟨gb149, 0, none⟩ = some (.int .i64 a0_0) := (blk_cell BK149.out 0).trans rfl; have hcz6_1 : w4.cell? ⟨gb149, 1, none⟩ = some (.slice A0_1 l0_1.length c0_1) := (blk_cell BK149.out 1).trans rfl; have hfz6_0 := blk_frozen BK149.out 0; have hfz6_1 := blk_frozen BK149.out 1) | ((with_reducible refine gate_callee (f := 130) rfl ?_); refine goesL_ (some 10) rfl rfl Try.func130 (by kernel_rfl) rfl #[.int .i64 (wrap64 (a0_0 * a0_0)), .slice A0_1 l0_1.length c0_1] rfl (by (try simp only [List.map_toArray, List.map_cons, List.map_nil]); first | done | rfl | (simp only [List.length_drop, List.length_take]; rfl)) ?_; (with_reducible refine (spec_l02Make.calls k (wrap64 (a0_0 * a0_0)) _ _ l0_1 t151 t152 _ ?side1 ?side2 A2.out).mono ?_); (case side1 => repeat (first | exact (Kd.C_below HR0_1.out HB.out) | (with_reducible refine Kd.C_alloc ?_ _) | (with_reducible refine Kd.C_drewN ?_ _) | (with_reducible refine Kd.C_drew ?_))); (case side2 => exact HC0_1.out); rintro e w7 ⟨v153, rfl, ho0, hb⟩; refine ⟨_, rfl, ?_⟩; have n0_ := Aside0.mk (Kd.R_lower ho0 (below_size (by repeat (first | (with_reducible first | exact HB.out | apply below_alloc | apply pw_below_drewN | apply below_drew1 | refine below_set ?_ GE149.out | refine below_set ?_ GE150.out) | exact HB.out)))); have n1_ := Aside0.mk (blk_below (g := gb149) (o := .cells #[.int .i64 a0_0, .slice A0_1 l0_1.length c0_1] 31 (0, 0)) (by (with_reducible repeat (first | refine blk_drewN ?_ _ | refine blk_drew ?_ | refine blk_alloc ?_ _)); exact BK149.out) hb); have n2_ := Aside0.mk (blk_below (g := gb150) (o := .cells #[.int .i64 0, .slice none 0 0] 31 (0, 0)) (by (with_reducible repeat (first | refine blk_drewN ?_ _ | refine blk_drew ?_ | refine blk_alloc ?_ _)); exact BK150.out) hb); have n3_ := Aside0.mk (below_step (by repeat (first | (with_reducible first | exact HB.out | apply below_alloc | apply pw_below_drewN | apply below_drew1 | refine below_set ?_ GE149.out | refine below_set ?_ GE150.out) | exact HB.out)) hb); clear BK149; clear BK150; clear HB; have HO154 := n0_; have BK149 := n1_; have BK150 := n2_; have HB := n3_; clear n0_ n1_ n2_ n3_; (try clear hb); (try clear hb2); (try clear hk); (try clear hi); (try clear ho0); have hcz8_0 : w7.cell? ⟨gb150, 0, none⟩ = some (.int .i64 0) := (blk_cell BK150.out 0).trans rfl; have hcz8_1 : w7.cell? ⟨gb150, 1, none⟩ = some (.slice none 0 0) := (blk_cell BK150.out 1).trans rfl; have hfz8_0 := blk_frozen BK150.out 0; have hfz8_1 := blk_frozen BK150.out 1; obtain ⟨Ao9, co9, eo9⟩ := Kd.R_slice HO154.out; subst eo9))
  refine bodyPost_ret (results_cell_row rfl _ _ gb150 31 #[.int .i64 t151, .slice Ao9 t152.length co9] (0, 0) _ rfl (by (with_reducible repeat (first | refine blk_drewN ?_ _ | refine blk_drew ?_ | refine blk_alloc ?_ _)); refine blk_put (cs := #[.int .i64 t151, .slice none 0 0]) ?_ 1 _ rfl; (with_reducible repeat (first | refine blk_drewN ?_ _ | refine blk_drew ?_ | refine blk_alloc ?_ _)); refine blk_put (cs := #[.int .i64 0, .slice none 0 0]) ?_ 0 _ rfl; (with_reducible repeat (first | refine blk_drewN ?_ _ | refine blk_drew ?_ | refine blk_alloc ?_ _)); exact BK150.out) Try.underlying31 rfl (by kernel_rfl)) rfl ?_
  exact ⟨_, by first | rfl | (simp [errW_none, errW_some] <;> rfl) | (simp [*, errW_none, errW_some] <;> rfl), by (with_reducible repeat (first | apply Kd.R_alloc | apply Kd.R_drewN | apply Kd.R_drew)); exact Kd.R_mono (Kd.R_far (p := ⟨gb150, 1, none⟩) (Kd.R_far (p := ⟨gb150, 0, none⟩) (Kd.R_types HO154.out BK150.out (by decide)) (fun _ hk => hk.2) (.int .i64 t151)) (fun _ hk => hk.2) (.slice Ao9 t152.length co9)) (fun _ hk => trivial), by repeat (first | (with_reducible first | exact HB.out | apply below_alloc | apply pw_below_drewN | apply below_drew1 | refine below_set ?_ GE149.out | refine below_set ?_ GE150.out) | exact HB.out)⟩
end Go.Proofs.Ytjddhnjjeomfjaa.PW
end
section
namespace Go.Proofs.Ytjddhnjjeomfjaa.PW
open Go.RowKit Go.Proofs.YtjddhnjjeomfjaaW.PrintWords Go.Proofs.YtjddhnjjeomfjaaW.PrintLast Go.Proofs.YtjddhnjjeomfjaaW.PrintMore
attribute [local go_sem] max2_int min2_int max_two min_two max_three min_three max_four min_four   -- for this text's walks alone
set_option linter.unusedVariables false
set_option linter.unusedSimpArgs false
def spec_l03Multiple.j0 : Nat → Int → Bool → Int → List Int → Option (Int × List Int × Int × Bool)
  | 0, _, _, _, _ => none
  | k + 1, x8, x11, x279000, x279001 => if x11 = true then ((spec_l02Of.f k 1).bind fun bt281 => ((spec_l02Add.f k x279000 x279001 bt281.1 bt281.2).bind fun bt285 => (some (bt285.1, bt285.2, x8, false)))) else (some (x279000, x279001, x8, false))
def spec_l03Multiple.f (k : Nat) (a0_0 : Int) (l0_1 : List Int) (a0_2 : Int) (a1 : Int) : Option (Int × List Int × Int × Bool) := (spec_l02Abs.f k a0_0 l0_1).bind fun bt264 => ((spec_l02Length.f k bt264.1 bt264.2).bind fun t269 => (if (wrap64 ((mx (wrap64 ((wrap64 (t269 + a0_2)) - 24)) (-149)) - a0_2)) ≤ 0 then ((spec_l02Left.f k bt264.1 bt264.2 (wrap64 (-(wrap64 ((mx (wrap64 ((wrap64 (t269 + a0_2)) - 24)) (-149)) - a0_2))))).bind fun bt270 => (some (bt270.1, bt270.2, mx (wrap64 ((wrap64 (t269 + a0_2)) - 24)) (-149), true))) else ((spec_l02Cut.f k bt264.1 bt264.2 (wrap64 ((mx (wrap64 ((wrap64 (t269 + a0_2)) - 24)) (-149)) - a0_2))).bind fun bt274 => (if a1 = 0 then ((spec_l02Bit.f bt264.1 bt264.2 (wrap64 ((wrap64 ((mx (wrap64 ((wrap64 (t269 + a0_2)) - 24)) (-149)) - a0_2)) - 1))).bind fun t279 => (if t279 = 1 then (if (wrap64 ((mx (wrap64 ((wrap64 (t269 + a0_2)) - 24)) (-149)) - a0_2)) > 1 then (spec_l03Multiple.j0 k (mx (wrap64 ((wrap64 (t269 + a0_2)) - 24)) (-149)) true bt274.1 bt274.2) else ((spec_l02Bit.f bt274.1 bt274.2 0).bind fun t280 => (spec_l03Multiple.j0 k (mx (wrap64 ((wrap64 (t269 + a0_2)) - 24)) (-149)) (t280 == 1) bt274.1 bt274.2))) else (spec_l03Multiple.j0 k (mx (wrap64 ((wrap64 (t269 + a0_2)) - 24)) (-149)) false bt274.1 bt274.2))) else (if a1 = 1 then (spec_l03Multiple.j0 k (mx (wrap64 ((wrap64 (t269 + a0_2)) - 24)) (-149)) (decide (a0_0 < 0)) bt274.1 bt274.2) else (if a1 = 2 then (spec_l03Multiple.j0 k (mx (wrap64 ((wrap64 (t269 + a0_2)) - 24)) (-149)) (decide (a0_0 > 0)) bt274.1 bt274.2) else (if a1 = 4 then (spec_l03Multiple.j0 k (mx (wrap64 ((wrap64 (t269 + a0_2)) - 24)) (-149)) true bt274.1 bt274.2) else (spec_l03Multiple.j0 k (mx (wrap64 ((wrap64 (t269 + a0_2)) - 24)) (-149)) false bt274.1 bt274.2))))))))
theorem spec_l03Multiple.mono_l : ∀ k, (∀ y0 y1 y2 y3, LeO (spec_l03Multiple.j0 k y0 y1 y2 y3) (spec_l03Multiple.j0 (k + 1) y0 y1 y2 y3))
  | 0 => fun _ _ _ _ r h => by simp [spec_l03Multiple.j0] at h
  | k + 1 => by
    have ih0 := spec_l03Multiple.mono_l k
    · intro y0 y1 y2 y3
      unfold spec_l03Multiple.j0
      repeat' first
      | (with_reducible exact ih0 _ _ _ _)
      | (with_reducible exact spec_l02Abs.mono _ _ _)
      | (with_reducible exact spec_l02Add.mono _ _ _ _ _)
      | (with_reducible exact spec_l02Cut.mono _ _ _ _)
      | (with_reducible exact spec_l02Left.mono _ _ _ _)
      | (with_reducible exact spec_l02Length.mono _ _ _)
      | (with_reducible exact spec_l02Of.mono _ _)
      | (with_reducible exact LeO.refl _)
      | (with_reducible exact LeO.none _)
      | (with_reducible refine LeO.ite ?_ ?_)
      | (with_reducible refine LeO.bind ?_ (fun _ => ?_))
      | exact ih0 _ _ _ _
      | exact spec_l02Abs.mono _ _ _
      | exact spec_l02Add.mono _ _ _ _ _
      | exact spec_l02Cut.mono _ _ _ _
      | exact spec_l02Left.mono _ _ _ _
      | exact spec_l02Length.mono _ _ _
      | exact spec_l02Of.mono _ _
      | exact LeO.none _
      | refine LeO.ite ?_ ?_
      | refine LeO.bind ?_ (fun _ => ?_)
theorem spec_l03Multiple.mono : ∀ a0 a1 a2 a3 k, LeO (spec_l03Multiple.f k a0 a1 a2 a3) (spec_l03Multiple.f (k + 1) a0 a1 a2 a3) := by
  intro a0 a1 a2 a3 k
  have ih0 := spec_l03Multiple.mono_l k
  unfold spec_l03Multiple.f
  repeat' first
      | (with_reducible exact ih0 _ _ _ _)
      | (with_reducible exact spec_l02Abs.mono _ _ _)
      | (with_reducible exact spec_l02Add.mono _ _ _ _ _)
      | (with_reducible exact spec_l02Cut.mono _ _ _ _)
      | (with_reducible exact spec_l02Left.mono _ _ _ _)
      | (with_reducible exact spec_l02Length.mono _ _ _)
      | (with_reducible exact spec_l02Of.mono _ _)
      | (with_reducible exact LeO.refl _)
      | (with_reducible exact LeO.none _)
      | (with_reducible refine LeO.ite ?_ ?_)
      | (with_reducible refine LeO.bind ?_ (fun _ => ?_))
      | exact ih0 _ _ _ _
      | exact spec_l02Abs.mono _ _ _
      | exact spec_l02Add.mono _ _ _ _ _
      | exact spec_l02Cut.mono _ _ _ _
      | exact spec_l02Left.mono _ _ _ _
      | exact spec_l02Length.mono _ _ _
      | exact spec_l02Of.mono _ _
      | exact LeO.none _
      | refine LeO.ite ?_ ?_
      | refine LeO.bind ?_ (fun _ => ?_)
def spec_l03Multiple.T2 : Bool × List (List Nat × List Nat) := (true, [([], []), ([0], [0]), ([], []), ([2], [2]), ([1, 3], [1, 3]), ([4], [4]), ([5], [5]), ([6, 1, 0, 1, 2, 3, 4, 5, 6], [6])])
def spec_l03Multiple.B2 : List Nat := [0, 1, 0, 4, 15, 31, 63, 127]
theorem spec_l03Multiple.tab2 : rtab .any (opsOf Try.f56 2) = spec_l03Multiple.T2 := by kernel_rfl
theorem spec_l03Multiple.bits2 : waitsOk spec_l03Multiple.T2.2 spec_l03Multiple.B2 = true := by kernel_rfl
set_option maxHeartbeats 8000000 in
set_option maxRecDepth 100000 in
theorem spec_l03Multiple.calls (k : Nat) (a0_0 : Int) (A0_1 : Option Addr) (c0_1 : Nat) (l0_1 : List Int) (a0_2 : Int) (a1 : Int) (r1 : Int) (r2 : List Int) (r3 : Int) (r4 : Bool) (w : World) (hr0_1 : Kd.C (Kd.int .i64) w A0_1 l0_1.length l0_1) (hc0_1 : l0_1.length ≤ c0_1) (h : spec_l03Multiple.f k a0_0 l0_1 a0_2 a1 = some (r1, r2, r3, r4)) :
    Calls Try.prog 56 #[.agg #[.int .i64 a0_0, .slice A0_1 l0_1.length c0_1, .int .i64 a0_2], .int .i64 a1] w fun e w' => ∃ v1_ : Value, e = .returned (.tuple #[.agg #[.int .i64 r1, v1_], .int .i64 r3, .bool r4]) ∧ Kd.R (Kd.int .i64) 2 w' w.heap.size (fun _ => True) v1_ r2 ∧ Below w.heap.size w w' := by
  have hu33 := Try.underlying33
  have hu31 := Try.underlying31
  have HR0_1 := Aside0.mk hr0_1
  have HC0_1 := Aside0.mk hc0_1
  clear hr0_1 hc0_1
  have HB := Aside0.mk (Below.refl w.heap.size w)
  have H : ((spec_l02Abs.f k a0_0 l0_1).bind fun bt264 => ((spec_l02Length.f k bt264.1 bt264.2).bind fun t269 => (if (wrap64 ((mx (wrap64 ((wrap64 (t269 + a0_2)) - 24)) (-149)) - a0_2)) ≤ 0 then ((spec_l02Left.f k bt264.1 bt264.2 (wrap64 (-(wrap64 ((mx (wrap64 ((wrap64 (t269 + a0_2)) - 24)) (-149)) - a0_2))))).bind fun bt270 => (some (bt270.1, bt270.2, mx (wrap64 ((wrap64 (t269 + a0_2)) - 24)) (-149), true))) else ((spec_l02Cut.f k bt264.1 bt264.2 (wrap64 ((mx (wrap64 ((wrap64 (t269 + a0_2)) - 24)) (-149)) - a0_2))).bind fun bt274 => (if a1 = 0 then ((spec_l02Bit.f bt264.1 bt264.2 (wrap64 ((wrap64 ((mx (wrap64 ((wrap64 (t269 + a0_2)) - 24)) (-149)) - a0_2)) - 1))).bind fun t279 => (if t279 = 1 then (if (wrap64 ((mx (wrap64 ((wrap64 (t269 + a0_2)) - 24)) (-149)) - a0_2)) > 1 then (spec_l03Multiple.j0 k (mx (wrap64 ((wrap64 (t269 + a0_2)) - 24)) (-149)) true bt274.1 bt274.2) else ((spec_l02Bit.f bt274.1 bt274.2 0).bind fun t280 => (spec_l03Multiple.j0 k (mx (wrap64 ((wrap64 (t269 + a0_2)) - 24)) (-149)) (t280 == 1) bt274.1 bt274.2))) else (spec_l03Multiple.j0 k (mx (wrap64 ((wrap64 (t269 + a0_2)) - 24)) (-149)) false bt274.1 bt274.2))) else (if a1 = 1 then (spec_l03Multiple.j0 k (mx (wrap64 ((wrap64 (t269 + a0_2)) - 24)) (-149)) (decide (a0_0 < 0)) bt274.1 bt274.2) else (if a1 = 2 then (spec_l03Multiple.j0 k (mx (wrap64 ((wrap64 (t269 + a0_2)) - 24)) (-149)) (decide (a0_0 > 0)) bt274.1 bt274.2) else (if a1 = 4 then (spec_l03Multiple.j0 k (mx (wrap64 ((wrap64 (t269 + a0_2)) - 24)) (-149)) true bt274.1 bt274.2) else (spec_l03Multiple.j0 k (mx (wrap64 ((wrap64 (t269 + a0_2)) - 24)) (-149)) false bt274.1 bt274.2))))))))) = some (r1, r2, r3, r4) := h
  clear h
  replace H := Option.bind_eq_some_iff.mp H
  obtain ⟨⟨t264, t265⟩, A30, H⟩ := H
  replace H : ((spec_l02Length.f k t264 t265).bind fun t269 => (if (wrap64 ((mx (wrap64 ((wrap64 (t269 + a0_2)) - 24)) (-149)) - a0_2)) ≤ 0 then ((spec_l02Left.f k t264 t265 (wrap64 (-(wrap64 ((mx (wrap64 ((wrap64 (t269 + a0_2)) - 24)) (-149)) - a0_2))))).bind fun bt270 => (some (bt270.1, bt270.2, mx (wrap64 ((wrap64 (t269 + a0_2)) - 24)) (-149), true))) else ((spec_l02Cut.f k t264 t265 (wrap64 ((mx (wrap64 ((wrap64 (t269 + a0_2)) - 24)) (-149)) - a0_2))).bind fun bt274 => (if a1 = 0 then ((spec_l02Bit.f t264 t265 (wrap64 ((wrap64 ((mx (wrap64 ((wrap64 (t269 + a0_2)) - 24)) (-149)) - a0_2)) - 1))).bind fun t279 => (if t279 = 1 then (if (wrap64 ((mx (wrap64 ((wrap64 (t269 + a0_2)) - 24)) (-149)) - a0_2)) > 1 then (spec_l03Multiple.j0 k (mx (wrap64 ((wrap64 (t269 + a0_2)) - 24)) (-149)) true bt274.1 bt274.2) else ((spec_l02Bit.f bt274.1 bt274.2 0).bind fun t280 => (spec_l03Multiple.j0 k (mx (wrap64 ((wrap64 (t269 + a0_2)) - 24)) (-149)) (t280 == 1) bt274.1 bt274.2))) else (spec_l03Multiple.j0 k (mx (wrap64 ((wrap64 (t269 + a0_2)) - 24)) (-149)) false bt274.1 bt274.2))) else (if a1 = 1 then (spec_l03Multiple.j0 k (mx (wrap64 ((wrap64 (t269 + a0_2)) - 24)) (-149)) (decide (a0_0 < 0)) bt274.1 bt274.2) else (if a1 = 2 then (spec_l03Multiple.j0 k (mx (wrap64 ((wrap64 (t269 + a0_2)) - 24)) (-149)) (decide (a0_0 > 0)) bt274.1 bt274.2) else (if a1 = 4 then (spec_l03Multiple.j0 k (mx (wrap64 ((wrap64 (t269 + a0_2)) - 24)) (-149)) true bt274.1 bt274.2) else (spec_l03Multiple.j0 k (mx (wrap64 ((wrap64 (t269 + a0_2)) - 24)) (-149)) false bt274.1 bt274.2)))))))) = some (r1, r2, r3, r4) := H
  have A3 := Aside0.mk A30
  clear A30
  replace H := Option.bind_eq_some_iff.mp H
  obtain ⟨t269, A40, H⟩ := H
  replace H : (if (wrap64 ((mx (wrap64 ((wrap64 (t269 + a0_2)) - 24)) (-149)) - a0_2)) ≤ 0 then ((spec_l02Left.f k t264 t265 (wrap64 (-(wrap64 ((mx (wrap64 ((wrap64 (t269 + a0_2)) - 24)) (-149)) - a0_2))))).bind fun bt270 => (some (bt270.1, bt270.2, mx (wrap64 ((wrap64 (t269 + a0_2)) - 24)) (-149), true))) else ((spec_l02Cut.f k t264 t265 (wrap64 ((mx (wrap64 ((wrap64 (t269 + a0_2)) - 24)) (-149)) - a0_2))).bind fun bt274 => (if a1 = 0 then ((spec_l02Bit.f t264 t265 (wrap64 ((wrap64 ((mx (wrap64 ((wrap64 (t269 + a0_2)) - 24)) (-149)) - a0_2)) - 1))).bind fun t279 => (if t279 = 1 then (if (wrap64 ((mx (wrap64 ((wrap64 (t269 + a0_2)) - 24)) (-149)) - a0_2)) > 1 then (spec_l03Multiple.j0 k (mx (wrap64 ((wrap64 (t269 + a0_2)) - 24)) (-149)) true bt274.1 bt274.2) else ((spec_l02Bit.f bt274.1 bt274.2 0).bind fun t280 => (spec_l03Multiple.j0 k (mx (wrap64 ((wrap64 (t269 + a0_2)) - 24)) (-149)) (t280 == 1) bt274.1 bt274.2))) else (spec_l03Multiple.j0 k (mx (wrap64 ((wrap64 (t269 + a0_2)) - 24)) (-149)) false bt274.1 bt274.2))) else (if a1 = 1 then (spec_l03Multiple.j0 k (mx (wrap64 ((wrap64 (t269 + a0_2)) - 24)) (-149)) (decide (a0_0 < 0)) bt274.1 bt274.2) else (if a1 = 2 then (spec_l03Multiple.j0 k (mx (wrap64 ((wrap64 (t269 + a0_2)) - 24)) (-149)) (decide (a0_0 > 0)) bt274.1 bt274.2) else (if a1 = 4 then (spec_l03Multiple.j0 k (mx (wrap64 ((wrap64 (t269 + a0_2)) - 24)) (-149)) true bt274.1 bt274.2) else (spec_l03Multiple.j0 k (mx (wrap64 ((wrap64 (t269 + a0_2)) - 24)) (-149)) false bt274.1 bt274.2))))))) = some (r1, r2, r3, r4) := H
  have A4 := Aside0.mk A40
  clear A40
  obtain ⟨ji5, hji5⟩ : ∃ j_ : Int, (mx (wrap64 ((wrap64 (t269 + a0_2)) - 24)) (-149)) = j_ := ⟨_, rfl⟩
  replace H : (if (wrap64 ((ji5) - a0_2)) ≤ 0 then ((spec_l02Left.f k t264 t265 (wrap64 (-(wrap64 ((ji5) - a0_2))))).bind fun bt270 => (some (bt270.1, bt270.2, ji5, true))) else ((spec_l02Cut.f k t264 t265 (wrap64 ((ji5) - a0_2))).bind fun bt274 => (if a1 = 0 then ((spec_l02Bit.f t264 t265 (wrap64 ((wrap64 ((ji5) - a0_2)) - 1))).bind fun t279 => (if t279 = 1 then (if (wrap64 ((ji5) - a0_2)) > 1 then (spec_l03Multiple.j0 k ji5 true bt274.1 bt274.2) else ((spec_l02Bit.f bt274.1 bt274.2 0).bind fun t280 => (spec_l03Multiple.j0 k ji5 (t280 == 1) bt274.1 bt274.2))) else (spec_l03Multiple.j0 k ji5 false bt274.1 bt274.2))) else (if a1 = 1 then (spec_l03Multiple.j0 k ji5 (decide (a0_0 < 0)) bt274.1 bt274.2) else (if a1 = 2 then (spec_l03Multiple.j0 k ji5 (decide (a0_0 > 0)) bt274.1 bt274.2) else (if a1 = 4 then (spec_l03Multiple.j0 k ji5 true bt274.1 bt274.2) else (spec_l03Multiple.j0 k ji5 false bt274.1 bt274.2))))))) = some (r1, r2, r3, r4) := by first | (rw [hji5] at H; exact H) | (simp only [hji5] at H ⊢; exact H)
  (try rw [hji5] at A3)
  (try rw [hji5] at A4)
  have hji5_ : (if (wrap64 ((wrap64 (t269 + a0_2)) - 24)) < (-149) then (-149) else (wrap64 ((wrap64 (t269 + a0_2)) - 24))) = ji5 := hji5
  by_cases c6 : (wrap64 ((ji5) - a0_2)) ≤ 0
  · rw [if_pos c6] at H
    have c6b0 : decide ((wrap64 ((ji5) - a0_2)) ≤ 0) = true := decide_eq_true c6
    clear c6
    replace H := Option.bind_eq_some_iff.mp H
    obtain ⟨⟨t270, t271⟩, A70, H⟩ := H
    replace H : (some (t270, t271, ji5, true)) = some (r1, r2, r3, r4) := H
    have A7 := Aside0.mk A70
    clear A70
    simp only [Option.some.injEq, Prod.mk.injEq] at H
    obtain ⟨rfl, rfl, rfl, rfl⟩ := H
    go_enter Try.func56, Try.ntmps56
    try go_wp2_with (first | ((with_reducible refine gate_dst (N := 2) rfl ?_); refine box_event ?hg (N := 2) ?hd (cs := #[.int .i64 a0_0, .slice A0_1 l0_1.length c0_1, .int .i64 a0_2]) (t := 33) ?hr ?_; (case hd => rfl); (case hg => rfl); (case hr => first | (go_simp; done) | (go_simp; rfl)); intro gb262 hg w8 hbox hb; have n0_ := Aside0.mk (below_step (by repeat (first | (with_reducible first | exact HB.out | apply below_alloc | apply pw_below_drewN | apply below_drew1) | exact HB.out)) hb); have n1_ := Aside0.mk (hbox); have n2_ := Aside0.mk ((by rw [hg]; exact (below_size (by repeat (first | (with_reducible first | exact HB.out | apply below_alloc | apply pw_below_drewN | apply below_drew1) | exact HB.out))) : w.heap.size ≤ gb262)); have n3_ := Aside0.mk ((by rw [hg]; exact (below_size (by repeat (first | (with_reducible first | exact HB.out | apply below_alloc | apply pw_below_drewN | apply below_drew1) | exact HB.out))) : w.heap.size ≤ gb262)); clear HB; have HB := n0_; have BK262 := n1_; have GW262 := n2_; have GE262 := n3_; clear n0_ n1_ n2_ n3_; clear hb hbox hg) | ((with_reducible refine gate_dst (N := 4) rfl ?_); refine box_event ?hg (N := 4) ?hd (cs := #[.int .i64 0, .slice none 0 0]) (t := 31) ?hr ?_; (case hd => rfl); (case hg => rfl); (case hr => first | (go_simp; done) | (go_simp; rfl)); intro gb263 hg w9 hbox hb; have n0_ := Aside0.mk (blk_below (g := gb262) (o := .cells #[.int .i64 a0_0, .slice A0_1 l0_1.length c0_1, .int .i64 a0_2] 33 (0, 0)) (by (with_reducible repeat (first | refine blk_drewN ?_ _ | refine blk_drew ?_ | refine blk_alloc ?_ _)); exact BK262.out) hb); have n1_ := Aside0.mk (below_step (by repeat (first | (with_reducible first | exact HB.out | apply below_alloc | apply pw_below_drewN | apply below_drew1 | refine below_set ?_ GE262.out) | exact HB.out)) hb); have n2_ := Aside0.mk (hbox); have n3_ := Aside0.mk ((by rw [hg]; exact (below_size (by repeat (first | (with_reducible first | exact HB.out | apply below_alloc | apply pw_below_drewN | apply below_drew1 | refine below_set ?_ GE262.out) | exact HB.out))) : w.heap.size ≤ gb263)); have n4_ := Aside0.mk ((by rw [hg]; exact (below_size (by repeat (first | (with_reducible first | exact HB.out | apply below_alloc | apply pw_below_drewN | apply below_drew1 | refine below_set ?_ GE262.out) | exact HB.out))) : w.heap.size ≤ gb263)); have n5_ := Aside0.mk ((by rw [hg]; exact Nat.ne_of_lt (blk_lt (g := gb262) (o := .cells #[.int .i64 a0_0, .slice A0_1 l0_1.length c0_1, .int .i64 a0_2] 33 (0, 0)) (by (with_reducible repeat (first | refine blk_drewN ?_ _ | refine blk_drew ?_ | refine blk_alloc ?_ _)); exact BK262.out)) : gb262 ≠ gb263)); have n6_ := Aside0.mk ((by rw [hg]; exact Nat.ne_of_gt (blk_lt (g := gb262) (o := .cells #[.int .i64 a0_0, .slice A0_1 l0_1.length c0_1, .int .i64 a0_2] 33 (0, 0)) (by (with_reducible repeat (first | refine blk_drewN ?_ _ | refine blk_drew ?_ | refine blk_alloc ?_ _)); exact BK262.out)) : gb263 ≠ gb262)); clear BK262; clear HB; have BK262 := n0_; have HB := n1_; have BK263 := n2_; have GW263 := n3_; have GE263 := n4_; have NB262_263 := n5_; have NB263_262 := n6_; clear n0_ n1_ n2_ n3_ n4_ n5_ n6_; clear hb hbox hg; have hnb10 := NB262_263.out; have hnc10 := NB263_262.out; have hcz11_0 : w9.cell? ⟨gb262, 0, none⟩ = some (.int .i64 a0_0) := (blk_cell BK262.out 0).trans rfl; have hcz11_1 : w9.cell? ⟨gb262, 1, none⟩ = some (.slice A0_1 l0_1.length c0_1) := (blk_cell BK262.out 1).trans rfl; have hcz11_2 : w9.cell? ⟨gb262, 2, none⟩ = some (.int .i64 a0_2) := (blk_cell BK262.out 2).trans rfl; have hfz11_0 := blk_frozen BK262.out 0; have hfz11_1 := blk_frozen BK262.out 1; have hfz11_2 := blk_frozen BK262.out 2) | ((with_reducible refine gate_callee (f := 101) rfl ?_); refine goesL_ (some 14) rfl rfl Try.func101 (by kernel_rfl) rfl #[.agg #[.int .i64 a0_0, .slice A0_1 l0_1.length c0_1]] rfl (by (try simp only [List.map_toArray, List.map_cons, List.map_nil]); first | done | rfl | (simp only [List.length_drop, List.length_take]; rfl)) ?_; (with_reducible refine (spec_l02Abs.calls k a0_0 _ _ l0_1 t264 t265 _ ?side1 ?side2 A3.out).mono ?_); (case side1 => repeat (first | exact (Kd.C_below HR0_1.out HB.out) | (with_reducible refine Kd.C_alloc ?_ _) | (with_reducible refine Kd.C_drewN ?_ _) | (with_reducible refine Kd.C_drew ?_))); (case side2 => exact HC0_1.out); rintro e w12 ⟨v266, rfl, ho0, hb⟩; refine ⟨_, rfl, ?_⟩; have n0_ := Aside0.mk (Kd.R_lower ho0 (below_size (by repeat (first | (with_reducible first | exact HB.out | apply below_alloc | apply pw_below_drewN | apply below_drew1 | refine below_set ?_ GE262.out | refine below_set ?_ GE263.out) | exact HB.out)))); have n1_ := Aside0.mk (blk_below (g := gb262) (o := .cells #[.int .i64 a0_0, .slice A0_1 l0_1.length c0_1, .int .i64 a0_2] 33 (0, 0)) (by (with_reducible repeat (first | refine blk_drewN ?_ _ | refine blk_drew ?_ | refine blk_alloc ?_ _)); exact BK262.out) hb); have n2_ := Aside0.mk (blk_below (g := gb263) (o := .cells #[.int .i64 0, .slice none 0 0] 31 (0, 0)) (by (with_reducible repeat (first | refine blk_drewN ?_ _ | refine blk_drew ?_ | refine blk_alloc ?_ _)); exact BK263.out) hb); have n3_ := Aside0.mk (below_step (by repeat (first | (with_reducible first | exact HB.out | apply below_alloc | apply pw_below_drewN | apply below_drew1 | refine below_set ?_ GE262.out | refine below_set ?_ GE263.out) | exact HB.out)) hb); clear BK262; clear BK263; clear HB; have HO267 := n0_; have BK262 := n1_; have BK263 := n2_; have HB := n3_; clear n0_ n1_ n2_ n3_; (try clear hb); (try clear hb2); (try clear hk); (try clear hi); (try clear ho0)) | ((with_reducible refine gate_dst (N := 7) rfl ?_); refine box_event ?hg (N := 7) ?hd (cs := #[.int .i64 0, .slice none 0 0]) (t := 31) ?hr ?_; (case hd => rfl); (case hg => rfl); (case hr => first | (go_simp; done) | (go_simp; rfl)); intro gb268 hg w13 hbox hb; have n0_ := Aside0.mk (Kd.R_below (by (with_reducible repeat (first | apply Kd.R_alloc | apply Kd.R_drewN | apply Kd.R_drew)); exact HO267.out) hb); have n1_ := Aside0.mk (blk_below (g := gb262) (o := .cells #[.int .i64 a0_0, .slice A0_1 l0_1.length c0_1, .int .i64 a0_2] 33 (0, 0)) (by (with_reducible repeat (first | refine blk_drewN ?_ _ | refine blk_drew ?_ | refine blk_alloc ?_ _)); exact BK262.out) hb); have n2_ := Aside0.mk (blk_below (g := gb263) (o := .cells #[.int .i64 0, .slice none 0 0] 31 (0, 0)) (by (with_reducible repeat (first | refine blk_drewN ?_ _ | refine blk_drew ?_ | refine blk_alloc ?_ _)); exact BK263.out) hb); have n3_ := Aside0.mk (below_step (by repeat (first | (with_reducible first | exact HB.out | apply below_alloc | apply pw_below_drewN | apply below_drew1 | refine below_set ?_ GE262.out | refine below_set ?_ GE263.out) | exact HB.out)) hb); have n4_ := Aside0.mk (hbox); have n5_ := Aside0.mk ((by rw [hg]; exact (below_size (by repeat (first | (with_reducible first | exact HB.out | apply below_alloc | apply pw_below_drewN | apply below_drew1 | refine below_set ?_ GE262.out | refine below_set ?_ GE263.out) | exact HB.out))) : w.heap.size ≤ gb268)); have n6_ := Aside0.mk ((by rw [hg]; exact (below_size (by repeat (first | (with_reducible first | exact HB.out | apply below_alloc | apply pw_below_drewN | apply below_drew1 | refine below_set ?_ GE262.out | refine below_set ?_ GE263.out) | exact HB.out))) : w.heap.size ≤ gb268)); have n7_ := Aside0.mk ((by rw [hg]; exact Nat.ne_of_lt (blk_lt (g := gb262) (o := .cells #[.int .i64 a0_0, .slice A0_1 l0_1.length c0_1, .int .i64 a0_2] 33 (0, 0)) (by (with_reducible repeat (first | refine blk_drewN ?_ _ | refine blk_drew ?_ | refine blk_alloc ?_ _)); exact BK262.out)) : gb262 ≠ gb268)); have n8_ := Aside0.mk ((by rw [hg]; exact Nat.ne_of_gt (blk_lt (g := gb262) (o := .cells #[.int .i64 a0_0, .slice A0_1 l0_1.length c0_1, .int .i64 a0_2] 33 (0, 0)) (by (with_reducible repeat (first | refine blk_drewN ?_ _ | refine blk_drew ?_ | refine blk_alloc ?_ _)); exact BK262.out)) : gb268 ≠ gb262)); have n9_ := Aside0.mk ((by rw [hg]; exact Nat.ne_of_lt (blk_lt (g := gb263) (o := .cells #[.int .i64 0, .slice none 0 0] 31 (0, 0)) (by (with_reducible repeat (first | refine blk_drewN ?_ _ | refine blk_drew ?_ | refine blk_alloc ?_ _)); exact BK263.out)) : gb263 ≠ gb268)); have n10_ := Aside0.mk ((by rw [hg]; exact Nat.ne_of_gt (blk_lt (g := gb263) (o := .cells #[.int .i64 0, .slice none 0 0] 31 (0, 0)) (by (with_reducible repeat (first | refine blk_drewN ?_ _ | refine blk_drew ?_ | refine blk_alloc ?_ _)); exact BK263.out)) : gb268 ≠ gb263)); clear HO267; clear BK262; clear BK263; clear HB; have HO267 := n0_; have BK262 := n1_; have BK263 := n2_; have HB := n3_; have BK268 := n4_; have GW268 := n5_; have GE268 := n6_; have NB262_268 := n7_; have NB268_262 := n8_; have NB263_268 := n9_; have NB268_263 := n10_; clear n0_ n1_ n2_ n3_ n4_ n5_ n6_ n7_ n8_ n9_ n10_; clear hb hbox hg; have hnb14 := NB268_262.out; have hnc14 := NB262_268.out; have hnb15 := NB268_263.out; have hnc15 := NB263_268.out; have hcz16_0 : w13.cell? ⟨gb268, 0, none⟩ = some (.int .i64 0) := (blk_cell BK268.out 0).trans rfl; have hcz16_1 : w13.cell? ⟨gb268, 1, none⟩ = some (.slice none 0 0) := (blk_cell BK268.out 1).trans rfl; have hfz16_0 := blk_frozen BK268.out 0; have hfz16_1 := blk_frozen BK268.out 1; obtain ⟨Ao17, co17, eo17⟩ := Kd.R_slice HO267.out; subst eo17))
    have n0_ : Aside0 (Kd.R (Kd.int .i64) 2 ((w13.setCell ⟨gb268, 0, none⟩ (.int .i64 t264)).setCell ⟨gb268, 1, none⟩ (.slice Ao17 t265.length co17)) w.heap.size (fun _ => True) (.slice Ao17 t265.length co17) t265) := ⟨by (with_reducible repeat (first | apply Kd.R_alloc | apply Kd.R_drewN | apply Kd.R_drew)); exact Kd.R_mono (Kd.R_far (p := ⟨gb268, 1, none⟩) (Kd.R_far (p := ⟨gb268, 0, none⟩) (Kd.R_types HO267.out BK268.out (by decide)) (fun _ hk => hk.2) (.int .i64 t264)) (fun _ hk => hk.2) (.slice Ao17 t265.length co17)) (fun _ hk => trivial)⟩
    have n1_ : Aside0 (((w13.setCell ⟨gb268, 0, none⟩ (.int .i64 t264)).setCell ⟨gb268, 1, none⟩ (.slice Ao17 t265.length co17)).heap[gb262]? = some (.cells #[.int .i64 a0_0, .slice A0_1 l0_1.length c0_1, .int .i64 a0_2] 33 (0, 0))) := ⟨by (with_reducible repeat (first | refine blk_drewN ?_ _ | refine blk_drew ?_ | refine blk_alloc ?_ _)); refine blk_far ?_ NB262_268.out _; (with_reducible repeat (first | refine blk_drewN ?_ _ | refine blk_drew ?_ | refine blk_alloc ?_ _)); refine blk_far ?_ NB262_268.out _; (with_reducible repeat (first | refine blk_drewN ?_ _ | refine blk_drew ?_ | refine blk_alloc ?_ _)); exact BK262.out⟩
    have n2_ : Aside0 (((w13.setCell ⟨gb268, 0, none⟩ (.int .i64 t264)).setCell ⟨gb268, 1, none⟩ (.slice Ao17 t265.length co17)).heap[gb263]? = some (.cells #[.int .i64 0, .slice none 0 0] 31 (0, 0))) := ⟨by (with_reducible repeat (first | refine blk_drewN ?_ _ | refine blk_drew ?_ | refine blk_alloc ?_ _)); refine blk_far ?_ NB263_268.out _; (with_reducible repeat (first | refine blk_drewN ?_ _ | refine blk_drew ?_ | refine blk_alloc ?_ _)); refine blk_far ?_ NB263_268.out _; (with_reducible repeat (first | refine blk_drewN ?_ _ | refine blk_drew ?_ | refine blk_alloc ?_ _)); exact BK263.out⟩
    have n3_ : Aside0 (((w13.setCell ⟨gb268, 0, none⟩ (.int .i64 t264)).setCell ⟨gb268, 1, none⟩ (.slice Ao17 t265.length co17)).heap[gb268]? = some (.cells #[.int .i64 t264, .slice Ao17 t265.length co17] 31 (0, 0))) := ⟨by (with_reducible repeat (first | refine blk_drewN ?_ _ | refine blk_drew ?_ | refine blk_alloc ?_ _)); refine blk_put (cs := #[.int .i64 t264, .slice none 0 0]) ?_ 1 _ rfl; (with_reducible repeat (first | refine blk_drewN ?_ _ | refine blk_drew ?_ | refine blk_alloc ?_ _)); refine blk_put (cs := #[.int .i64 0, .slice none 0 0]) ?_ 0 _ rfl; (with_reducible repeat (first | refine blk_drewN ?_ _ | refine blk_drew ?_ | refine blk_alloc ?_ _)); exact BK268.out⟩
    have n4_ : Aside0 (Below w.heap.size w ((w13.setCell ⟨gb268, 0, none⟩ (.int .i64 t264)).setCell ⟨gb268, 1, none⟩ (.slice Ao17 t265.length co17))) := ⟨by repeat (first | (with_reducible first | exact HB.out | apply below_alloc | apply pw_below_drewN | apply below_drew1 | refine below_set ?_ GE262.out | refine below_set ?_ GE263.out | refine below_set ?_ GE268.out) | exact HB.out)⟩
    (try clear HO267)
    (try clear BK262)
    (try clear BK263)
    (try clear BK268)
    (try clear HB)
    generalize ((w13.setCell ⟨gb268, 0, none⟩ (.int .i64 t264)).setCell ⟨gb268, 1, none⟩ (.slice Ao17 t265.length co17)) = w18 at n0_ n1_ n2_ n3_ n4_ ⊢
    have HO267 := n0_
    have BK262 := n1_
    have BK263 := n2_
    have BK268 := n3_
    have HB := n4_
    clear n0_ n1_ n2_ n3_ n4_
    have n0_ := Aside0.mk (Kd.R_drew HO267.out)
    have n1_ := Aside0.mk (blk_drew BK262.out)
    have n2_ := Aside0.mk (blk_drew BK263.out)
    have n3_ := Aside0.mk (blk_drew BK268.out)
    have n4_ := Aside0.mk (below_drew1 HB.out)
    clear HO267
    clear BK262
    clear BK263
    clear BK268
    clear HB
    have HO267 := n0_
    have BK262 := n1_
    have BK263 := n2_
    have BK268 := n3_
    have HB := n4_
    clear n0_ n1_ n2_ n3_ n4_
    refine start_ (n := 8) (S := fun w' => w'.cell? ⟨gb268, 0, none⟩ = some (.int .i64 t264) ∧ w'.cell? ⟨gb268, 1, none⟩ = some (.slice Ao17 t265.length co17) ∧ w'.cell? ⟨gb262, 0, none⟩ = some (.int .i64 a0_0) ∧ w'.cell? ⟨gb262, 1, none⟩ = some (.slice A0_1 l0_1.length c0_1) ∧ w'.cell? ⟨gb262, 2, none⟩ = some (.int .i64 a0_2)) (ds := []) #[false, false, false, false, false, false, false, false] (by kernel_rfl) rfl rfl ⟨(blk_cell BK268.out 0).trans rfl, (blk_cell BK268.out 1).trans rfl, (blk_cell BK262.out 0).trans rfl, (blk_cell BK262.out 1).trans rfl, (blk_cell BK262.out 2).trans rfl⟩ (fun hHeld => ?_); refine with_tabW spec_l03Multiple.tab2 spec_l03Multiple.bits2 (fun HT_ HW_ => ?_)
    generalize w18.drew = w19 at HO267 BK262 BK263 BK268 HB hHeld ⊢
    refine pure_ (i := 2) (N := some 17) (v := ?_) (a' := ?_) #[false, false, true, false, false, false, false, false] rfl rfl (any_of HT_.out (by kernel_rfl)) (fun _ _ _ h => h) (Or.inl ⟨by rfl, ?_⟩) ?_ ?_
    rotate_left
    · intro w'
      go_simp
      with_reducible rfl
    rotate_left
    · simp only [Act.put, List.setIfInBounds_toArray, List.set_cons_zero, List.set_cons_succ, i64_w, i32_w]
      rfl
    refine take_ (i := 0) (N := some 15) (v := ?_) (a' := ?_) #[true, false, true, false, false, false, false, false] rfl rfl (take_ofW HT_.out HW_.out (by kernel_rfl)) (fun _ _ _ h => h) (Or.inl ⟨by rfl, ?_⟩) hHeld ?_ ?_
    rotate_left
    · rintro w' ⟨s0, s1, s2, s3, s4⟩
      go_simp
      with_reducible rfl
    rotate_left
    · simp only [Act.put, List.setIfInBounds_toArray, List.set_cons_zero, List.set_cons_succ, i64_w, i32_w]
      rfl
    refine take_ (i := 3) (N := some 18) (v := ?_) (a' := ?_) #[true, false, true, true, false, false, false, false] rfl rfl (take_ofW HT_.out HW_.out (by kernel_rfl)) (fun _ _ _ h => h) (Or.inl ⟨by rfl, ?_⟩) hHeld ?_ ?_
    rotate_left
    · rintro w' ⟨s0, s1, s2, s3, s4⟩
      go_simp
      with_reducible rfl
    rotate_left
    · simp only [Act.put, List.setIfInBounds_toArray, List.set_cons_zero, List.set_cons_succ, i64_w, i32_w]
      rfl
    refine one_ (i := 1) (N := some 16) #[true, true, true, true, false, false, false, false] rfl rfl (one_of HT_.out (by kernel_rfl)) (by decide) (fun K hK => ?_)
    refine goes_ Try.func57 (by kernel_rfl) rfl #[.agg #[.int .i64 t264, .slice Ao17 t265.length co17]] (by rfl) rfl rfl (by (try simp only [List.map_toArray, List.map_cons, List.map_nil]); first | done | rfl | (simp only [List.length_drop, List.length_take]; rfl)) ?_
    with_reducible refine (spec_l02Length.calls k t264 _ _ t265 t269 _ ?side1 ?side2 A4.out).mono ?_
    (case side1 => repeat (first | exact (Kd.R_reads' HO267.out).2.2 | (with_reducible refine Kd.C_alloc ?_ _) | (with_reducible refine Kd.C_drewN ?_ _) | (with_reducible refine Kd.C_drew ?_)))
    (case side2 => exact (Kd.R_reads' HO267.out).2.1)
    rintro e w20 ⟨rfl, hb⟩
    refine ⟨_, rfl, ?_⟩
    have n0_ := Aside0.mk (Kd.R_below (by (with_reducible repeat (first | apply Kd.R_alloc | apply Kd.R_drewN | apply Kd.R_drew)); exact HO267.out) hb)
    have n1_ := Aside0.mk (blk_below (g := gb262) (o := .cells #[.int .i64 a0_0, .slice A0_1 l0_1.length c0_1, .int .i64 a0_2] 33 (0, 0)) (by (with_reducible repeat (first | refine blk_drewN ?_ _ | refine blk_drew ?_ | refine blk_alloc ?_ _)); exact BK262.out) hb)
    have n2_ := Aside0.mk (blk_below (g := gb263) (o := .cells #[.int .i64 0, .slice none 0 0] 31 (0, 0)) (by (with_reducible repeat (first | refine blk_drewN ?_ _ | refine blk_drew ?_ | refine blk_alloc ?_ _)); exact BK263.out) hb)
    have n3_ := Aside0.mk (blk_below (g := gb268) (o := .cells #[.int .i64 t264, .slice Ao17 t265.length co17] 31 (0, 0)) (by (with_reducible repeat (first | refine blk_drewN ?_ _ | refine blk_drew ?_ | refine blk_alloc ?_ _)); exact BK268.out) hb)
    have n4_ := Aside0.mk (below_step (by repeat (first | (with_reducible first | exact HB.out | apply below_alloc | apply pw_below_drewN | apply below_drew1 | refine below_set ?_ GE262.out | refine below_set ?_ GE263.out | refine below_set ?_ GE268.out) | exact HB.out)) hb)
    clear HO267
    clear BK262
    clear BK263
    clear BK268
    clear HB
    have HO267 := n0_
    have BK262 := n1_
    have BK263 := n2_
    have BK268 := n3_
    have HB := n4_
    clear n0_ n1_ n2_ n3_ n4_
    (try clear hb)
    (try clear hb2)
    (try clear hk)
    (try clear hi)
    refine hK.out _ _ ⟨(blk_cell BK268.out 0).trans rfl, (blk_cell BK268.out 1).trans rfl, (blk_cell BK262.out 0).trans rfl, (blk_cell BK262.out 1).trans rfl, (blk_cell BK262.out 2).trans rfl⟩ (fun hHeld => ?_)
    clear hK K
    refine norm_ (a' := ?_) ?_ ?_
    rotate_left
    · show Act.put _ (some 16) _ = _
      simp only [Act.put, List.setIfInBounds_toArray, List.set_cons_zero, List.set_cons_succ, i64_w, i32_w]
      rfl
    refine pure_ (i := 4) (N := some 19) (v := ?_) (a' := ?_) #[true, true, true, true, true, false, false, false] rfl rfl (any_of HT_.out (by kernel_rfl)) (fun _ _ _ h => h) (Or.inl ⟨by rfl, ?_⟩) ?_ ?_
    rotate_left
    · intro w'
      go_simp
      with_reducible rfl
    rotate_left
    · simp only [Act.put, List.setIfInBounds_toArray, List.set_cons_zero, List.set_cons_succ, i64_w, i32_w]
      rfl
    refine pure_ (i := 5) (N := some 20) (v := ?_) (a' := ?_) #[true, true, true, true, true, true, false, false] rfl rfl (any_of HT_.out (by kernel_rfl)) (fun _ _ _ h => h) (Or.inl ⟨by rfl, ?_⟩) ?_ ?_
    rotate_left
    · intro w'
      go_simp
      with_reducible rfl
    rotate_left
    · simp only [Act.put, List.setIfInBounds_toArray, List.set_cons_zero, List.set_cons_succ, i64_w, i32_w]
      rfl
    refine pure_ (i := 6) (N := some 21) (v := ?_) (a' := ?_) #[true, true, true, true, true, true, true, false] rfl rfl (any_of HT_.out (by kernel_rfl)) (fun _ _ _ h => h) (Or.inl ⟨by rfl, ?_⟩) ?_ ?_
    rotate_left
    · intro w'
      go_simp
      with_reducible rfl
    rotate_left
    · simp only [Act.put, List.setIfInBounds_toArray, List.set_cons_zero, List.set_cons_succ, i64_w, i32_w]
      rfl
    refine pure_ (i := 7) (N := some 8) (v := ?_) (a' := ?_) #[true, true, true, true, true, true, true, true] rfl rfl (any_of HT_.out (by kernel_rfl)) (fun _ _ _ h => h) (Or.inl ⟨by rfl, ?_⟩) ?_ ?_
    rotate_left
    · intro w'
      go_simp
      with_reducible rfl
    rotate_left
    · simp only [Act.put, List.setIfInBounds_toArray, List.set_cons_zero, List.set_cons_succ, i64_w, i32_w]
      rfl
    refine done_ (done_of HT_.out (by kernel_rfl)) ?_
    have hcz21_0 : w20.cell? ⟨gb262, 0, none⟩ = some (.int .i64 a0_0) := (blk_cell BK262.out 0).trans rfl
    have hcz21_1 : w20.cell? ⟨gb262, 1, none⟩ = some (.slice A0_1 l0_1.length c0_1) := (blk_cell BK262.out 1).trans rfl
    have hcz21_2 : w20.cell? ⟨gb262, 2, none⟩ = some (.int .i64 a0_2) := (blk_cell BK262.out 2).trans rfl
    have hfz21_0 := blk_frozen BK262.out 0
    have hfz21_1 := blk_frozen BK262.out 1
    have hfz21_2 := blk_frozen BK262.out 2
    have hcz22_0 : w20.cell? ⟨gb268, 0, none⟩ = some (.int .i64 t264) := (blk_cell BK268.out 0).trans rfl
    have hcz22_1 : w20.cell? ⟨gb268, 1, none⟩ = some (.slice Ao17 t265.length co17) := (blk_cell BK268.out 1).trans rfl
    have hfz22_0 := blk_frozen BK268.out 0
    have hfz22_1 := blk_frozen BK268.out 1
    try go_wp2_with (first | ((with_reducible refine gate_callee (f := 102) rfl ?_); refine goesL_ (some 31) rfl rfl Try.func102 (by kernel_rfl) rfl #[.agg #[.int .i64 t264, .slice Ao17 t265.length co17], .int .i64 (wrap64 (-(wrap64 ((ji5) - a0_2))))] rfl (by (try simp only [List.map_toArray, List.map_cons, List.map_nil]); first | done | (simp only [hji5]; rfl) | rfl | (simp only [List.length_drop, List.length_take]; rfl)) ?_; (with_reducible refine (spec_l02Left.calls k t264 _ _ t265 (wrap64 (-(wrap64 ((ji5) - a0_2)))) t270 t271 _ ?side1 ?side2 A7.out).mono ?_); (case side1 => repeat (first | exact (Kd.R_reads' HO267.out).2.2 | (with_reducible refine Kd.C_alloc ?_ _) | (with_reducible refine Kd.C_drewN ?_ _) | (with_reducible refine Kd.C_drew ?_))); (case side2 => exact (Kd.R_reads' HO267.out).2.1); rintro e w23 ⟨v272, rfl, ho0, hb⟩; refine ⟨_, rfl, ?_⟩; have n0_ := Aside0.mk (Kd.R_elder' (by (with_reducible repeat (first | apply Kd.R_alloc | apply Kd.R_drewN | apply Kd.R_drew)); exact HO267.out) (Kd.R_base ho0) hb); have n1_ := Aside0.mk (Kd.R_lower (Kd.R_new' ho0 (Kd.R_lt (by (with_reducible repeat (first | apply Kd.R_alloc | apply Kd.R_drewN | apply Kd.R_drew)); exact HO267.out))) (below_size (by repeat (first | (with_reducible first | exact HB.out | apply below_alloc | apply pw_below_drewN | apply below_drew1 | refine below_set ?_ GE262.out | refine below_set ?_ GE263.out | refine below_set ?_ GE268.out) | exact HB.out)))); have n2_ := Aside0.mk (blk_below (g := gb262) (o := .cells #[.int .i64 a0_0, .slice A0_1 l0_1.length c0_1, .int .i64 a0_2] 33 (0, 0)) (by (with_reducible repeat (first | refine blk_drewN ?_ _ | refine blk_drew ?_ | refine blk_alloc ?_ _)); exact BK262.out) hb); have n3_ := Aside0.mk (blk_below (g := gb263) (o := .cells #[.int .i64 0, .slice none 0 0] 31 (0, 0)) (by (with_reducible repeat (first | refine blk_drewN ?_ _ | refine blk_drew ?_ | refine blk_alloc ?_ _)); exact BK263.out) hb); have n4_ := Aside0.mk (blk_below (g := gb268) (o := .cells #[.int .i64 t264, .slice Ao17 t265.length co17] 31 (0, 0)) (by (with_reducible repeat (first | refine blk_drewN ?_ _ | refine blk_drew ?_ | refine blk_alloc ?_ _)); exact BK268.out) hb); have n5_ := Aside0.mk (below_step (by repeat (first | (with_reducible first | exact HB.out | apply below_alloc | apply pw_below_drewN | apply below_drew1 | refine below_set ?_ GE262.out | refine below_set ?_ GE263.out | refine below_set ?_ GE268.out) | exact HB.out)) hb); clear HO267; clear BK262; clear BK263; clear BK268; clear HB; have HO267 := n0_; have HO273 := n1_; have BK262 := n2_; have BK263 := n3_; have BK268 := n4_; have HB := n5_; clear n0_ n1_ n2_ n3_ n4_ n5_; (try clear hb); (try clear hb2); (try clear hk); (try clear hi); (try clear ho0); have hcz24_0 : w23.cell? ⟨gb263, 0, none⟩ = some (.int .i64 0) := (blk_cell BK263.out 0).trans rfl; have hcz24_1 : w23.cell? ⟨gb263, 1, none⟩ = some (.slice none 0 0) := (blk_cell BK263.out 1).trans rfl; have hfz24_0 := blk_frozen BK263.out 0; have hfz24_1 := blk_frozen BK263.out 1; obtain ⟨Ao25, co25, eo25⟩ := Kd.R_slice HO273.out; subst eo25))
    refine bodyPost_ret (results_ctt rfl _ _ gb263 31 #[.int .i64 t270, .slice Ao25 t271.length co25] (0, 0) _ rfl (by (with_reducible repeat (first | refine blk_drewN ?_ _ | refine blk_drew ?_ | refine blk_alloc ?_ _)); refine blk_put (cs := #[.int .i64 t270, .slice none 0 0]) ?_ 1 _ rfl; (with_reducible repeat (first | refine blk_drewN ?_ _ | refine blk_drew ?_ | refine blk_alloc ?_ _)); refine blk_put (cs := #[.int .i64 0, .slice none 0 0]) ?_ 0 _ rfl; (with_reducible repeat (first | refine blk_drewN ?_ _ | refine blk_drew ?_ | refine blk_alloc ?_ _)); exact BK263.out) Try.underlying31 rfl (by kernel_rfl)) rfl ?_
    exact ⟨_, by first | rfl | (simp [errW_none, errW_some] <;> rfl) | (simp only [← hji5]; first | rfl | (simp [errW_none, errW_some] <;> rfl)) | (simp [*, errW_none, errW_some] <;> rfl), by (with_reducible repeat (first | apply Kd.R_alloc | apply Kd.R_drewN | apply Kd.R_drew)); exact Kd.R_mono (Kd.R_far (p := ⟨gb263, 1, none⟩) (Kd.R_far (p := ⟨gb263, 0, none⟩) (Kd.R_types HO273.out BK263.out (by decide)) (fun _ hk => hk.2) (.int .i64 t270)) (fun _ hk => hk.2) (.slice Ao25 t271.length co25)) (fun _ hk => trivial), by repeat (first | (with_reducible first | exact HB.out | apply below_alloc | apply pw_below_drewN | apply below_drew1 | refine below_set ?_ GE262.out | refine below_set ?_ GE263.out | refine below_set ?_ GE268.out) | exact HB.out)⟩
  · rw [if_neg c6] at H
    have c6b0 : decide ((wrap64 ((ji5) - a0_2)) ≤ 0) = false := decide_eq_false c6
    clear c6
    replace H := Option.bind_eq_some_iff.mp H
    obtain ⟨⟨t274, t275⟩, A260, H⟩ := H
    replace H : (if a1 = 0 then ((spec_l02Bit.f t264 t265 (wrap64 ((wrap64 ((ji5) - a0_2)) - 1))).bind fun t279 => (if t279 = 1 then (if (wrap64 ((ji5) - a0_2)) > 1 then (spec_l03Multiple.j0 k ji5 true t274 t275) else ((spec_l02Bit.f t274 t275 0).bind fun t280 => (spec_l03Multiple.j0 k ji5 (t280 == 1) t274 t275))) else (spec_l03Multiple.j0 k ji5 false t274 t275))) else (if a1 = 1 then (spec_l03Multiple.j0 k ji5 (decide (a0_0 < 0)) t274 t275) else (if a1 = 2 then (spec_l03Multiple.j0 k ji5 (decide (a0_0 > 0)) t274 t275) else (if a1 = 4 then (spec_l03Multiple.j0 k ji5 true t274 t275) else (spec_l03Multiple.j0 k ji5 false t274 t275))))) = some (r1, r2, r3, r4) := H
    have A26 := Aside0.mk A260
    clear A260
    have HC27 := Aside0.mk H
    clear H
    go_enter Try.func56, Try.ntmps56
    try go_wp2_with (first | ((with_reducible refine gate_dst (N := 2) rfl ?_); refine box_event ?hg (N := 2) ?hd (cs := #[.int .i64 a0_0, .slice A0_1 l0_1.length c0_1, .int .i64 a0_2]) (t := 33) ?hr ?_; (case hd => rfl); (case hg => rfl); (case hr => first | (go_simp; done) | (go_simp; rfl)); intro gb262 hg w28 hbox hb; have n0_ := Aside0.mk (below_step (by repeat (first | (with_reducible first | exact HB.out | apply below_alloc | apply pw_below_drewN | apply below_drew1) | exact HB.out)) hb); have n1_ := Aside0.mk (hbox); have n2_ := Aside0.mk ((by rw [hg]; exact (below_size (by repeat (first | (with_reducible first | exact HB.out | apply below_alloc | apply pw_below_drewN | apply below_drew1) | exact HB.out))) : w.heap.size ≤ gb262)); have n3_ := Aside0.mk ((by rw [hg]; exact (below_size (by repeat (first | (with_reducible first | exact HB.out | apply below_alloc | apply pw_below_drewN | apply below_drew1) | exact HB.out))) : w.heap.size ≤ gb262)); clear HB; have HB := n0_; have BK262 := n1_; have GW262 := n2_; have GE262 := n3_; clear n0_ n1_ n2_ n3_; clear hb hbox hg) | ((with_reducible refine gate_dst (N := 4) rfl ?_); refine box_event ?hg (N := 4) ?hd (cs := #[.int .i64 0, .slice none 0 0]) (t := 31) ?hr ?_; (case hd => rfl); (case hg => rfl); (case hr => first | (go_simp; done) | (go_simp; rfl)); intro gb263 hg w29 hbox hb; have n0_ := Aside0.mk (blk_below (g := gb262) (o := .cells #[.int .i64 a0_0, .slice A0_1 l0_1.length c0_1, .int .i64 a0_2] 33 (0, 0)) (by (with_reducible repeat (first | refine blk_drewN ?_ _ | refine blk_drew ?_ | refine blk_alloc ?_ _)); exact BK262.out) hb); have n1_ := Aside0.mk (below_step (by repeat (first | (with_reducible first | exact HB.out | apply below_alloc | apply pw_below_drewN | apply below_drew1 | refine below_set ?_ GE262.out) | exact HB.out)) hb); have n2_ := Aside0.mk (hbox); have n3_ := Aside0.mk ((by rw [hg]; exact (below_size (by repeat (first | (with_reducible first | exact HB.out | apply below_alloc | apply pw_below_drewN | apply below_drew1 | refine below_set ?_ GE262.out) | exact HB.out))) : w.heap.size ≤ gb263)); have n4_ := Aside0.mk ((by rw [hg]; exact (below_size (by repeat (first | (with_reducible first | exact HB.out | apply below_alloc | apply pw_below_drewN | apply below_drew1 | refine below_set ?_ GE262.out) | exact HB.out))) : w.heap.size ≤ gb263)); have n5_ := Aside0.mk ((by rw [hg]; exact Nat.ne_of_lt (blk_lt (g := gb262) (o := .cells #[.int .i64 a0_0, .slice A0_1 l0_1.length c0_1, .int .i64 a0_2] 33 (0, 0)) (by (with_reducible repeat (first | refine blk_drewN ?_ _ | refine blk_drew ?_ | refine blk_alloc ?_ _)); exact BK262.out)) : gb262 ≠ gb263)); have n6_ := Aside0.mk ((by rw [hg]; exact Nat.ne_of_gt (blk_lt (g := gb262) (o := .cells #[.int .i64 a0_0, .slice A0_1 l0_1.length c0_1, .int .i64 a0_2] 33 (0, 0)) (by (with_reducible repeat (first | refine blk_drewN ?_ _ | refine blk_drew ?_ | refine blk_alloc ?_ _)); exact BK262.out)) : gb263 ≠ gb262)); clear BK262; clear HB; have BK262 := n0_; have HB := n1_; have BK263 := n2_; have GW263 := n3_; have GE263 := n4_; have NB262_263 := n5_; have NB263_262 := n6_; clear n0_ n1_ n2_ n3_ n4_ n5_ n6_; clear hb hbox hg; have hnb30 := NB262_263.out; have hnc30 := NB263_262.out; have hcz31_0 : w29.cell? ⟨gb262, 0, none⟩ = some (.int .i64 a0_0) := (blk_cell BK262.out 0).trans rfl; have hcz31_1 : w29.cell? ⟨gb262, 1, none⟩ = some (.slice A0_1 l0_1.length c0_1) := (blk_cell BK262.out 1).trans rfl; have hcz31_2 : w29.cell? ⟨gb262, 2, none⟩ = some (.int .i64 a0_2) := (blk_cell BK262.out 2).trans rfl; have hfz31_0 := blk_frozen BK262.out 0; have hfz31_1 := blk_frozen BK262.out 1; have hfz31_2 := blk_frozen BK262.out 2) | ((with_reducible refine gate_callee (f := 101) rfl ?_); refine goesL_ (some 14) rfl rfl Try.func101 (by kernel_rfl) rfl #[.agg #[.int .i64 a0_0, .slice A0_1 l0_1.length c0_1]] rfl (by (try simp only [List.map_toArray, List.map_cons, List.map_nil]); first | done | rfl | (simp only [List.length_drop, List.length_take]; rfl)) ?_; (with_reducible refine (spec_l02Abs.calls k a0_0 _ _ l0_1 t264 t265 _ ?side1 ?side2 A3.out).mono ?_); (case side1 => repeat (first | exact (Kd.C_below HR0_1.out HB.out) | (with_reducible refine Kd.C_alloc ?_ _) | (with_reducible refine Kd.C_drewN ?_ _) | (with_reducible refine Kd.C_drew ?_))); (case side2 => exact HC0_1.out); rintro e w32 ⟨v266, rfl, ho0, hb⟩; refine ⟨_, rfl, ?_⟩; have n0_ := Aside0.mk (Kd.R_lower ho0 (below_size (by repeat (first | (with_reducible first | exact HB.out | apply below_alloc | apply pw_below_drewN | apply below_drew1 | refine below_set ?_ GE262.out | refine below_set ?_ GE263.out) | exact HB.out)))); have n1_ := Aside0.mk (blk_below (g := gb262) (o := .cells #[.int .i64 a0_0, .slice A0_1 l0_1.length c0_1, .int .i64 a0_2] 33 (0, 0)) (by (with_reducible repeat (first | refine blk_drewN ?_ _ | refine blk_drew ?_ | refine blk_alloc ?_ _)); exact BK262.out) hb); have n2_ := Aside0.mk (blk_below (g := gb263) (o := .cells #[.int .i64 0, .slice none 0 0] 31 (0, 0)) (by (with_reducible repeat (first | refine blk_drewN ?_ _ | refine blk_drew ?_ | refine blk_alloc ?_ _)); exact BK263.out) hb); have n3_ := Aside0.mk (below_step (by repeat (first | (with_reducible first | exact HB.out | apply below_alloc | apply pw_below_drewN | apply below_drew1 | refine below_set ?_ GE262.out | refine below_set ?_ GE263.out) | exact HB.out)) hb); clear BK262; clear BK263; clear HB; have HO267 := n0_; have BK262 := n1_; have BK263 := n2_; have HB := n3_; clear n0_ n1_ n2_ n3_; (try clear hb); (try clear hb2); (try clear hk); (try clear hi); (try clear ho0)) | ((with_reducible refine gate_dst (N := 7) rfl ?_); refine box_event ?hg (N := 7) ?hd (cs := #[.int .i64 0, .slice none 0 0]) (t := 31) ?hr ?_; (case hd => rfl); (case hg => rfl); (case hr => first | (go_simp; done) | (go_simp; rfl)); intro gb268 hg w33 hbox hb; have n0_ := Aside0.mk (Kd.R_below (by (with_reducible repeat (first | apply Kd.R_alloc | apply Kd.R_drewN | apply Kd.R_drew)); exact HO267.out) hb); have n1_ := Aside0.mk (blk_below (g := gb262) (o := .cells #[.int .i64 a0_0, .slice A0_1 l0_1.length c0_1, .int .i64 a0_2] 33 (0, 0)) (by (with_reducible repeat (first | refine blk_drewN ?_ _ | refine blk_drew ?_ | refine blk_alloc ?_ _)); exact BK262.out) hb); have n2_ := Aside0.mk (blk_below (g := gb263) (o := .cells #[.int .i64 0, .slice none 0 0] 31 (0, 0)) (by (with_reducible repeat (first | refine blk_drewN ?_ _ | refine blk_drew ?_ | refine blk_alloc ?_ _)); exact BK263.out) hb); have n3_ := Aside0.mk (below_step (by repeat (first | (with_reducible first | exact HB.out | apply below_alloc | apply pw_below_drewN | apply below_drew1 | refine below_set ?_ GE262.out | refine below_set ?_ GE263.out) | exact HB.out)) hb); have n4_ := Aside0.mk (hbox); have n5_ := Aside0.mk ((by rw [hg]; exact (below_size (by repeat (first | (with_reducible first | exact HB.out | apply below_alloc | apply pw_below_drewN | apply below_drew1 | refine below_set ?_ GE262.out | refine below_set ?_ GE263.out) | exact HB.out))) : w.heap.size ≤ gb268)); have n6_ := Aside0.mk ((by rw [hg]; exact (below_size (by repeat (first | (with_reducible first | exact HB.out | apply below_alloc | apply pw_below_drewN | apply below_drew1 | refine below_set ?_ GE262.out | refine below_set ?_ GE263.out) | exact HB.out))) : w.heap.size ≤ gb268)); have n7_ := Aside0.mk ((by rw [hg]; exact Nat.ne_of_lt (blk_lt (g := gb262) (o := .cells #[.int .i64 a0_0, .slice A0_1 l0_1.length c0_1, .int .i64 a0_2] 33 (0, 0)) (by (with_reducible repeat (first | refine blk_drewN ?_ _ | refine blk_drew ?_ | refine blk_alloc ?_ _)); exact BK262.out)) : gb262 ≠ gb268)); have n8_ := Aside0.mk ((by rw [hg]; exact Nat.ne_of_gt (blk_lt (g := gb262) (o := .cells #[.int .i64 a0_0, .slice A0_1 l0_1.length c0_1, .int .i64 a0_2] 33 (0, 0)) (by (with_reducible repeat (first | refine blk_drewN ?_ _ | refine blk_drew ?_ | refine blk_alloc ?_ _)); exact BK262.out)) : gb268 ≠ gb262)); have n9_ := Aside0.mk ((by rw [hg]; exact Nat.ne_of_lt (blk_lt (g := gb263) (o := .cells #[.int .i64 0, .slice none 0 0] 31 (0, 0)) (by (with_reducible repeat (first | refine blk_drewN ?_ _ | refine blk_drew ?_ | refine blk_alloc ?_ _)); exact BK263.out)) : gb263 ≠ gb268)); have n10_ := Aside0.mk ((by rw [hg]; exact Nat.ne_of_gt (blk_lt (g := gb263) (o := .cells #[.int .i64 0, .slice none 0 0] 31 (0, 0)) (by (with_reducible repeat (first | refine blk_drewN ?_ _ | refine blk_drew ?_ | refine blk_alloc ?_ _)); exact BK263.out)) : gb268 ≠ gb263)); clear HO267; clear BK262; clear BK263; clear HB; have HO267 := n0_; have BK262 := n1_; have BK263 := n2_; have HB := n3_; have BK268 := n4_; have GW268 := n5_; have GE268 := n6_; have NB262_268 := n7_; have NB268_262 := n8_; have NB263_268 := n9_; have NB268_263 := n10_; clear n0_ n1_ n2_ n3_ n4_ n5_ n6_ n7_ n8_ n9_ n10_; clear hb hbox hg; have hnb34 := NB268_262.out; have hnc34 := NB262_268.out; have hnb35 := NB268_263.out; have hnc35 := NB263_268.out; have hcz36_0 : w33.cell? ⟨gb268, 0, none⟩ = some (.int .i64 0) := (blk_cell BK268.out 0).trans rfl; have hcz36_1 : w33.cell? ⟨gb268, 1, none⟩ = some (.slice none 0 0) := (blk_cell BK268.out 1).trans rfl; have hfz36_0 := blk_frozen BK268.out 0; have hfz36_1 := blk_frozen BK268.out 1; obtain ⟨Ao37, co37, eo37⟩ := Kd.R_slice HO267.out; subst eo37))
    have n0_ : Aside0 (Kd.R (Kd.int .i64) 2 ((w33.setCell ⟨gb268, 0, none⟩ (.int .i64 t264)).setCell ⟨gb268, 1, none⟩ (.slice Ao37 t265.length co37)) w.heap.size (fun _ => True) (.slice Ao37 t265.length co37) t265) := ⟨by (with_reducible repeat (first | apply Kd.R_alloc | apply Kd.R_drewN | apply Kd.R_drew)); exact Kd.R_mono (Kd.R_far (p := ⟨gb268, 1, none⟩) (Kd.R_far (p := ⟨gb268, 0, none⟩) (Kd.R_types HO267.out BK268.out (by decide)) (fun _ hk => hk.2) (.int .i64 t264)) (fun _ hk => hk.2) (.slice Ao37 t265.length co37)) (fun _ hk => trivial)⟩
    have n1_ : Aside0 (((w33.setCell ⟨gb268, 0, none⟩ (.int .i64 t264)).setCell ⟨gb268, 1, none⟩ (.slice Ao37 t265.length co37)).heap[gb262]? = some (.cells #[.int .i64 a0_0, .slice A0_1 l0_1.length c0_1, .int .i64 a0_2] 33 (0, 0))) := ⟨by (with_reducible repeat (first | refine blk_drewN ?_ _ | refine blk_drew ?_ | refine blk_alloc ?_ _)); refine blk_far ?_ NB262_268.out _; (with_reducible repeat (first | refine blk_drewN ?_ _ | refine blk_drew ?_ | refine blk_alloc ?_ _)); refine blk_far ?_ NB262_268.out _; (with_reducible repeat (first | refine blk_drewN ?_ _ | refine blk_drew ?_ | refine blk_alloc ?_ _)); exact BK262.out⟩
    have n2_ : Aside0 (((w33.setCell ⟨gb268, 0, none⟩ (.int .i64 t264)).setCell ⟨gb268, 1, none⟩ (.slice Ao37 t265.length co37)).heap[gb263]? = some (.cells #[.int .i64 0, .slice none 0 0] 31 (0, 0))) := ⟨by (with_reducible repeat (first | refine blk_drewN ?_ _ | refine blk_drew ?_ | refine blk_alloc ?_ _)); refine blk_far ?_ NB263_268.out _; (with_reducible repeat (first | refine blk_drewN ?_ _ | refine blk_drew ?_ | refine blk_alloc ?_ _)); refine blk_far ?_ NB263_268.out _; (with_reducible repeat (first | refine blk_drewN ?_ _ | refine blk_drew ?_ | refine blk_alloc ?_ _)); exact BK263.out⟩
    have n3_ : Aside0 (((w33.setCell ⟨gb268, 0, none⟩ (.int .i64 t264)).setCell ⟨gb268, 1, none⟩ (.slice Ao37 t265.length co37)).heap[gb268]? = some (.cells #[.int .i64 t264, .slice Ao37 t265.length co37] 31 (0, 0))) := ⟨by (with_reducible repeat (first | refine blk_drewN ?_ _ | refine blk_drew ?_ | refine blk_alloc ?_ _)); refine blk_put (cs := #[.int .i64 t264, .slice none 0 0]) ?_ 1 _ rfl; (with_reducible repeat (first | refine blk_drewN ?_ _ | refine blk_drew ?_ | refine blk_alloc ?_ _)); refine blk_put (cs := #[.int .i64 0, .slice none 0 0]) ?_ 0 _ rfl; (with_reducible repeat (first | refine blk_drewN ?_ _ | refine blk_drew ?_ | refine blk_alloc ?_ _)); exact BK268.out⟩
    have n4_ : Aside0 (Below w.heap.size w ((w33.setCell ⟨gb268, 0, none⟩ (.int .i64 t264)).setCell ⟨gb268, 1, none⟩ (.slice Ao37 t265.length co37))) := ⟨by repeat (first | (with_reducible first | exact HB.out | apply below_alloc | apply pw_below_drewN | apply below_drew1 | refine below_set ?_ GE262.out | refine below_set ?_ GE263.out | refine below_set ?_ GE268.out) | exact HB.out)⟩
    (try clear HO267)
    (try clear BK262)
    (try clear BK263)
    (try clear BK268)
    (try clear HB)
    generalize ((w33.setCell ⟨gb268, 0, none⟩ (.int .i64 t264)).setCell ⟨gb268, 1, none⟩ (.slice Ao37 t265.length co37)) = w38 at n0_ n1_ n2_ n3_ n4_ ⊢
    have HO267 := n0_
    have BK262 := n1_
    have BK263 := n2_
    have BK268 := n3_
    have HB := n4_
    clear n0_ n1_ n2_ n3_ n4_
    have n0_ := Aside0.mk (Kd.R_drew HO267.out)
    have n1_ := Aside0.mk (blk_drew BK262.out)
    have n2_ := Aside0.mk (blk_drew BK263.out)
    have n3_ := Aside0.mk (blk_drew BK268.out)
    have n4_ := Aside0.mk (below_drew1 HB.out)
    clear HO267
    clear BK262
    clear BK263
    clear BK268
    clear HB
    have HO267 := n0_
    have BK262 := n1_
    have BK263 := n2_
    have BK268 := n3_
    have HB := n4_
    clear n0_ n1_ n2_ n3_ n4_
    refine start_ (n := 8) (S := fun w' => w'.cell? ⟨gb268, 0, none⟩ = some (.int .i64 t264) ∧ w'.cell? ⟨gb268, 1, none⟩ = some (.slice Ao37 t265.length co37) ∧ w'.cell? ⟨gb262, 0, none⟩ = some (.int .i64 a0_0) ∧ w'.cell? ⟨gb262, 1, none⟩ = some (.slice A0_1 l0_1.length c0_1) ∧ w'.cell? ⟨gb262, 2, none⟩ = some (.int .i64 a0_2)) (ds := []) #[false, false, false, false, false, false, false, false] (by kernel_rfl) rfl rfl ⟨(blk_cell BK268.out 0).trans rfl, (blk_cell BK268.out 1).trans rfl, (blk_cell BK262.out 0).trans rfl, (blk_cell BK262.out 1).trans rfl, (blk_cell BK262.out 2).trans rfl⟩ (fun hHeld => ?_); refine with_tabW spec_l03Multiple.tab2 spec_l03Multiple.bits2 (fun HT_ HW_ => ?_)
    generalize w38.drew = w39 at HO267 BK262 BK263 BK268 HB hHeld ⊢
    refine pure_ (i := 2) (N := some 17) (v := ?_) (a' := ?_) #[false, false, true, false, false, false, false, false] rfl rfl (any_of HT_.out (by kernel_rfl)) (fun _ _ _ h => h) (Or.inl ⟨by rfl, ?_⟩) ?_ ?_
    rotate_left
    · intro w'
      go_simp
      with_reducible rfl
    rotate_left
    · simp only [Act.put, List.setIfInBounds_toArray, List.set_cons_zero, List.set_cons_succ, i64_w, i32_w]
      rfl
    refine take_ (i := 0) (N := some 15) (v := ?_) (a' := ?_) #[true, false, true, false, false, false, false, false] rfl rfl (take_ofW HT_.out HW_.out (by kernel_rfl)) (fun _ _ _ h => h) (Or.inl ⟨by rfl, ?_⟩) hHeld ?_ ?_
    rotate_left
    · rintro w' ⟨s0, s1, s2, s3, s4⟩
      go_simp
      with_reducible rfl
    rotate_left
    · simp only [Act.put, List.setIfInBounds_toArray, List.set_cons_zero, List.set_cons_succ, i64_w, i32_w]
      rfl
    refine take_ (i := 3) (N := some 18) (v := ?_) (a' := ?_) #[true, false, true, true, false, false, false, false] rfl rfl (take_ofW HT_.out HW_.out (by kernel_rfl)) (fun _ _ _ h => h) (Or.inl ⟨by rfl, ?_⟩) hHeld ?_ ?_
    rotate_left
    · rintro w' ⟨s0, s1, s2, s3, s4⟩
      go_simp
      with_reducible rfl
    rotate_left
    · simp only [Act.put, List.setIfInBounds_toArray, List.set_cons_zero, List.set_cons_succ, i64_w, i32_w]
      rfl
    refine one_ (i := 1) (N := some 16) #[true, true, true, true, false, false, false, false] rfl rfl (one_of HT_.out (by kernel_rfl)) (by decide) (fun K hK => ?_)
    refine goes_ Try.func57 (by kernel_rfl) rfl #[.agg #[.int .i64 t264, .slice Ao37 t265.length co37]] (by rfl) rfl rfl (by (try simp only [List.map_toArray, List.map_cons, List.map_nil]); first | done | rfl | (simp only [List.length_drop, List.length_take]; rfl)) ?_
    with_reducible refine (spec_l02Length.calls k t264 _ _ t265 t269 _ ?side1 ?side2 A4.out).mono ?_
    (case side1 => repeat (first | exact (Kd.R_reads' HO267.out).2.2 | (with_reducible refine Kd.C_alloc ?_ _) | (with_reducible refine Kd.C_drewN ?_ _) | (with_reducible refine Kd.C_drew ?_)))
    (case side2 => exact (Kd.R_reads' HO267.out).2.1)
    rintro e w40 ⟨rfl, hb⟩
    refine ⟨_, rfl, ?_⟩
    have n0_ := Aside0.mk (Kd.R_below (by (with_reducible repeat (first | apply Kd.R_alloc | apply Kd.R_drewN | apply Kd.R_drew)); exact HO267.out) hb)
    have n1_ := Aside0.mk (blk_below (g := gb262) (o := .cells #[.int .i64 a0_0, .slice A0_1 l0_1.length c0_1, .int .i64 a0_2] 33 (0, 0)) (by (with_reducible repeat (first | refine blk_drewN ?_ _ | refine blk_drew ?_ | refine blk_alloc ?_ _)); exact BK262.out) hb)
    have n2_ := Aside0.mk (blk_below (g := gb263) (o := .cells #[.int .i64 0, .slice none 0 0] 31 (0, 0)) (by (with_reducible repeat (first | refine blk_drewN ?_ _ | refine blk_drew ?_ | refine blk_alloc ?_ _)); exact BK263.out) hb)
    have n3_ := Aside0.mk (blk_below (g := gb268) (o := .cells #[.int .i64 t264, .slice Ao37 t265.length co37] 31 (0, 0)) (by (with_reducible repeat (first | refine blk_drewN ?_ _ | refine blk_drew ?_ | refine blk_alloc ?_ _)); exact BK268.out) hb)
    have n4_ := Aside0.mk (below_step (by repeat (first | (with_reducible first | exact HB.out | apply below_alloc | apply pw_below_drewN | apply below_drew1 | refine below_set ?_ GE262.out | refine below_set ?_ GE263.out | refine below_set ?_ GE268.out) | exact HB.out)) hb)
    clear HO267
    clear BK262
    clear BK263
    clear BK268
    clear HB
    have HO267 := n0_
    have BK262 := n1_
    have BK263 := n2_
    have BK268 := n3_
    have HB := n4_
    clear n0_ n1_ n2_ n3_ n4_
    (try clear hb)
    (try clear hb2)
    (try clear hk)
    (try clear hi)
    refine hK.out _ _ ⟨(blk_cell BK268.out 0).trans rfl, (blk_cell BK268.out 1).trans rfl, (blk_cell BK262.out 0).trans rfl, (blk_cell BK262.out 1).trans rfl, (blk_cell BK262.out 2).trans rfl⟩ (fun hHeld => ?_)
    clear hK K
    refine norm_ (a' := ?_) ?_ ?_
    rotate_left
    · show Act.put _ (some 16) _ = _
      simp only [Act.put, List.setIfInBounds_toArray, List.set_cons_zero, List.set_cons_succ, i64_w, i32_w]
      rfl
    refine pure_ (i := 4) (N := some 19) (v := ?_) (a' := ?_) #[true, true, true, true, true, false, false, false] rfl rfl (any_of HT_.out (by kernel_rfl)) (fun _ _ _ h => h) (Or.inl ⟨by rfl, ?_⟩) ?_ ?_
    rotate_left
    · intro w'
      go_simp
      with_reducible rfl
    rotate_left
    · simp only [Act.put, List.setIfInBounds_toArray, List.set_cons_zero, List.set_cons_succ, i64_w, i32_w]
      rfl
    refine pure_ (i := 5) (N := some 20) (v := ?_) (a' := ?_) #[true, true, true, true, true, true, false, false] rfl rfl (any_of HT_.out (by kernel_rfl)) (fun _ _ _ h => h) (Or.inl ⟨by rfl, ?_⟩) ?_ ?_
    rotate_left
    · intro w'
      go_simp
      with_reducible rfl
    rotate_left
    · simp only [Act.put, List.setIfInBounds_toArray, List.set_cons_zero, List.set_cons_succ, i64_w, i32_w]
      rfl
    refine pure_ (i := 6) (N := some 21) (v := ?_) (a' := ?_) #[true, true, true, true, true, true, true, false] rfl rfl (any_of HT_.out (by kernel_rfl)) (fun _ _ _ h => h) (Or.inl ⟨by rfl, ?_⟩) ?_ ?_
    rotate_left
    · intro w'
      go_simp
      with_reducible rfl
    rotate_left
    · simp only [Act.put, List.setIfInBounds_toArray, List.set_cons_zero, List.set_cons_succ, i64_w, i32_w]
      rfl
    refine pure_ (i := 7) (N := some 8) (v := ?_) (a' := ?_) #[true, true, true, true, true, true, true, true] rfl rfl (any_of HT_.out (by kernel_rfl)) (fun _ _ _ h => h) (Or.inl ⟨by rfl, ?_⟩) ?_ ?_
    rotate_left
    · intro w'
      go_simp
      with_reducible rfl
    rotate_left
    · simp only [Act.put, List.setIfInBounds_toArray, List.set_cons_zero, List.set_cons_succ, i64_w, i32_w]
      rfl
    refine done_ (done_of HT_.out (by kernel_rfl)) ?_
    have hcz41_0 : w40.cell? ⟨gb262, 0, none⟩ = some (.int .i64 a0_0) := (blk_cell BK262.out 0).trans rfl
    have hcz41_1 : w40.cell? ⟨gb262, 1, none⟩ = some (.slice A0_1 l0_1.length c0_1) := (blk_cell BK262.out 1).trans rfl
    have hcz41_2 : w40.cell? ⟨gb262, 2, none⟩ = some (.int .i64 a0_2) := (blk_cell BK262.out 2).trans rfl
    have hfz41_0 := blk_frozen BK262.out 0
    have hfz41_1 := blk_frozen BK262.out 1
    have hfz41_2 := blk_frozen BK262.out 2
    have hcz42_0 : w40.cell? ⟨gb268, 0, none⟩ = some (.int .i64 t264) := (blk_cell BK268.out 0).trans rfl
    have hcz42_1 : w40.cell? ⟨gb268, 1, none⟩ = some (.slice Ao37 t265.length co37) := (blk_cell BK268.out 1).trans rfl
    have hfz42_0 := blk_frozen BK268.out 0
    have hfz42_1 := blk_frozen BK268.out 1
    go_upto_block 0 with (first | ((with_reducible refine gate_callee (f := 103) rfl ?_); refine goesL_ (some 35) rfl rfl Try.func103 (by kernel_rfl) rfl #[.agg #[.int .i64 t264, .slice Ao37 t265.length co37], .int .i64 (wrap64 ((ji5) - a0_2))] rfl (by (try simp only [List.map_toArray, List.map_cons, List.map_nil]); first | done | (simp only [hji5]; rfl) | rfl | (simp only [List.length_drop, List.length_take]; rfl)) ?_; (with_reducible refine (spec_l02Cut.calls k t264 _ _ t265 (wrap64 ((ji5) - a0_2)) t274 t275 _ ?side1 ?side2 A26.out).mono ?_); (case side1 => repeat (first | exact (Kd.R_reads' HO267.out).2.2 | (with_reducible refine Kd.C_alloc ?_ _) | (with_reducible refine Kd.C_drewN ?_ _) | (with_reducible refine Kd.C_drew ?_))); (case side2 => exact (Kd.R_reads' HO267.out).2.1); rintro e w43 ⟨v276, rfl, ho0, hb⟩; refine ⟨_, rfl, ?_⟩; have n0_ := Aside0.mk (Kd.R_elder' (by (with_reducible repeat (first | apply Kd.R_alloc | apply Kd.R_drewN | apply Kd.R_drew)); exact HO267.out) (Kd.R_base ho0) hb); have n1_ := Aside0.mk (Kd.R_lower (Kd.R_new' ho0 (Kd.R_lt (by (with_reducible repeat (first | apply Kd.R_alloc | apply Kd.R_drewN | apply Kd.R_drew)); exact HO267.out))) (below_size (by repeat (first | (with_reducible first | exact HB.out | apply below_alloc | apply pw_below_drewN | apply below_drew1 | refine below_set ?_ GE262.out | refine below_set ?_ GE263.out | refine below_set ?_ GE268.out) | exact HB.out)))); have n2_ := Aside0.mk (blk_below (g := gb262) (o := .cells #[.int .i64 a0_0, .slice A0_1 l0_1.length c0_1, .int .i64 a0_2] 33 (0, 0)) (by (with_reducible repeat (first | refine blk_drewN ?_ _ | refine blk_drew ?_ | refine blk_alloc ?_ _)); exact BK262.out) hb); have n3_ := Aside0.mk (blk_below (g := gb263) (o := .cells #[.int .i64 0, .slice none 0 0] 31 (0, 0)) (by (with_reducible repeat (first | refine blk_drewN ?_ _ | refine blk_drew ?_ | refine blk_alloc ?_ _)); exact BK263.out) hb); have n4_ := Aside0.mk (blk_below (g := gb268) (o := .cells #[.int .i64 t264, .slice Ao37 t265.length co37] 31 (0, 0)) (by (with_reducible repeat (first | refine blk_drewN ?_ _ | refine blk_drew ?_ | refine blk_alloc ?_ _)); exact BK268.out) hb); have n5_ := Aside0.mk (below_step (by repeat (first | (with_reducible first | exact HB.out | apply below_alloc | apply pw_below_drewN | apply below_drew1 | refine below_set ?_ GE262.out | refine below_set ?_ GE263.out | refine below_set ?_ GE268.out) | exact HB.out)) hb); clear HO267; clear BK262; clear BK263; clear BK268; clear HB; have HO267 := n0_; have HO277 := n1_; have BK262 := n2_; have BK263 := n3_; have BK268 := n4_; have HB := n5_; clear n0_ n1_ n2_ n3_ n4_ n5_; (try clear hb); (try clear hb2); (try clear hk); (try clear hi); (try clear ho0)) | ((with_reducible refine gate_dst (N := 10) rfl ?_); refine box_event ?hg (N := 10) ?hd (cs := #[.int .i64 0, .slice none 0 0]) (t := 31) ?hr ?_; (case hd => rfl); (case hg => rfl); (case hr => first | (go_simp; done) | (go_simp; rfl)); intro gb278 hg w44 hbox hb; have n0_ := Aside0.mk (Kd.R_below (by (with_reducible repeat (first | apply Kd.R_alloc | apply Kd.R_drewN | apply Kd.R_drew)); exact HO267.out) hb); have n1_ := Aside0.mk (Kd.R_below (by (with_reducible repeat (first | apply Kd.R_alloc | apply Kd.R_drewN | apply Kd.R_drew)); exact HO277.out) hb); have n2_ := Aside0.mk (blk_below (g := gb262) (o := .cells #[.int .i64 a0_0, .slice A0_1 l0_1.length c0_1, .int .i64 a0_2] 33 (0, 0)) (by (with_reducible repeat (first | refine blk_drewN ?_ _ | refine blk_drew ?_ | refine blk_alloc ?_ _)); exact BK262.out) hb); have n3_ := Aside0.mk (blk_below (g := gb263) (o := .cells #[.int .i64 0, .slice none 0 0] 31 (0, 0)) (by (with_reducible repeat (first | refine blk_drewN ?_ _ | refine blk_drew ?_ | refine blk_alloc ?_ _)); exact BK263.out) hb); have n4_ := Aside0.mk (blk_below (g := gb268) (o := .cells #[.int .i64 t264, .slice Ao37 t265.length co37] 31 (0, 0)) (by (with_reducible repeat (first | refine blk_drewN ?_ _ | refine blk_drew ?_ | refine blk_alloc ?_ _)); exact BK268.out) hb); have n5_ := Aside0.mk (below_step (by repeat (first | (with_reducible first | exact HB.out | apply below_alloc | apply pw_below_drewN | apply below_drew1 | refine below_set ?_ GE262.out | refine below_set ?_ GE263.out | refine below_set ?_ GE268.out) | exact HB.out)) hb); have n6_ := Aside0.mk (hbox); have n7_ := Aside0.mk ((by rw [hg]; exact (below_size (by repeat (first | (with_reducible first | exact HB.out | apply below_alloc | apply pw_below_drewN | apply below_drew1 | refine below_set ?_ GE262.out | refine below_set ?_ GE263.out | refine below_set ?_ GE268.out) | exact HB.out))) : w.heap.size ≤ gb278)); have n8_ := Aside0.mk ((by rw [hg]; exact (below_size (by repeat (first | (with_reducible first | exact HB.out | apply below_alloc | apply pw_below_drewN | apply below_drew1 | refine below_set ?_ GE262.out | refine below_set ?_ GE263.out | refine below_set ?_ GE268.out) | exact HB.out))) : w.heap.size ≤ gb278)); have n9_ := Aside0.mk ((by rw [hg]; exact Nat.ne_of_lt (blk_lt (g := gb262) (o := .cells #[.int .i64 a0_0, .slice A0_1 l0_1.length c0_1, .int .i64 a0_2] 33 (0, 0)) (by (with_reducible repeat (first | refine blk_drewN ?_ _ | refine blk_drew ?_ | refine blk_alloc ?_ _)); exact BK262.out)) : gb262 ≠ gb278)); have n10_ := Aside0.mk ((by rw [hg]; exact Nat.ne_of_gt (blk_lt (g := gb262) (o := .cells #[.int .i64 a0_0, .slice A0_1 l0_1.length c0_1, .int .i64 a0_2] 33 (0, 0)) (by (with_reducible repeat (first | refine blk_drewN ?_ _ | refine blk_drew ?_ | refine blk_alloc ?_ _)); exact BK262.out)) : gb278 ≠ gb262)); have n11_ := Aside0.mk ((by rw [hg]; exact Nat.ne_of_lt (blk_lt (g := gb263) (o := .cells #[.int .i64 0, .slice none 0 0] 31 (0, 0)) (by (with_reducible repeat (first | refine blk_drewN ?_ _ | refine blk_drew ?_ | refine blk_alloc ?_ _)); exact BK263.out)) : gb263 ≠ gb278)); have n12_ := Aside0.mk ((by rw [hg]; exact Nat.ne_of_gt (blk_lt (g := gb263) (o := .cells #[.int .i64 0, .slice none 0 0] 31 (0, 0)) (by (with_reducible repeat (first | refine blk_drewN ?_ _ | refine blk_drew ?_ | refine blk_alloc ?_ _)); exact BK263.out)) : gb278 ≠ gb263)); have n13_ := Aside0.mk ((by rw [hg]; exact Nat.ne_of_lt (blk_lt (g := gb268) (o := .cells #[.int .i64 t264, .slice Ao37 t265.length co37] 31 (0, 0)) (by (with_reducible repeat (first | refine blk_drewN ?_ _ | refine blk_drew ?_ | refine blk_alloc ?_ _)); exact BK268.out)) : gb268 ≠ gb278)); have n14_ := Aside0.mk ((by rw [hg]; exact Nat.ne_of_gt (blk_lt (g := gb268) (o := .cells #[.int .i64 t264, .slice Ao37 t265.length co37] 31 (0, 0)) (by (with_reducible repeat (first | refine blk_drewN ?_ _ | refine blk_drew ?_ | refine blk_alloc ?_ _)); exact BK268.out)) : gb278 ≠ gb268)); clear HO267; clear HO277; clear BK262; clear BK263; clear BK268; clear HB; have HO267 := n0_; have HO277 := n1_; have BK262 := n2_; have BK263 := n3_; have BK268 := n4_; have HB := n5_; have BK278 := n6_; have GW278 := n7_; have GE278 := n8_; have NB262_278 := n9_; have NB278_262 := n10_; have NB263_278 := n11_; have NB278_263 := n12_; have NB268_278 := n13_; have NB278_268 := n14_; clear n0_ n1_ n2_ n3_ n4_ n5_ n6_ n7_ n8_ n9_ n10_ n11_ n12_ n13_ n14_; clear hb hbox hg; have hnb45 := NB278_262.out; have hnc45 := NB262_278.out; have hnb46 := NB278_263.out; have hnc46 := NB263_278.out; have hnb47 := NB278_268.out; have hnc47 := NB268_278.out; have hcz48_0 : w44.cell? ⟨gb278, 0, none⟩ = some (.int .i64 0) := (blk_cell BK278.out 0).trans rfl; have hcz48_1 : w44.cell? ⟨gb278, 1, none⟩ = some (.slice none 0 0) := (blk_cell BK278.out 1).trans rfl; have hfz48_0 := blk_frozen BK278.out 0; have hfz48_1 := blk_frozen BK278.out 1; obtain ⟨Ao49, co49, eo49⟩ := Kd.R_slice HO277.out; subst eo49))
    (try simp only [Act.put, List.setIfInBounds_toArray, List.set_cons_zero, List.set_cons_succ])
    go_cut [11] (fun v11 wc => ∃ (kq : Nat) (x11_26 : Bool), v11 = .bool x11_26 ∧ Aside0 (spec_l03Multiple.j0 kq ji5 x11_26 t274 t275 = some (r1, r2, r3, r4)) ∧ Aside0 (kq ≤ k) ∧ Aside0 (Kd.R (Kd.int .i64) 2 wc w.heap.size (fun k_ => some k_ ≠ ((.slice Ao49 t275.length co49) : Value).ownBlock) (.slice Ao37 t265.length co37) t265) ∧ Aside0 (Kd.R (Kd.int .i64) 2 wc w.heap.size (fun k_ => some k_ ≠ ((.slice Ao37 t265.length co37) : Value).ownBlock) (.slice Ao49 t275.length co49) t275) ∧ Aside0 (wc.heap[gb262]? = some (.cells #[.int .i64 a0_0, (.slice A0_1 l0_1.length c0_1), .int .i64 a0_2] 33 (0, 0))) ∧ Aside0 (wc.heap[gb263]? = some (.cells #[.int .i64 0, (.slice none 0 0)] 31 (0, 0))) ∧ Aside0 (wc.heap[gb268]? = some (.cells #[.int .i64 t264, (.slice Ao37 t265.length co37)] 31 (0, 0))) ∧ Aside0 (wc.heap[gb278]? = some (.cells #[.int .i64 t274, (.slice Ao49 t275.length co49)] 31 (0, 0))) ∧ Aside0 (Below w.heap.size w wc))
    case first =>
      have H := HC27.out
      clear HC27
      by_cases c50 : a1 = 0
      · rw [if_pos c50] at H
        have c50b0 : (a1 == 0) = true := beq_iff_eq.mpr c50
        have c50b1 : (a1 != 0) = false := bne_eq_false_iff_eq.mpr c50
        clear c50
        (first | rw [c50b0] | (simp only [i64_w, i32_w]; rw [c50b0]) | skip)
        replace H := Option.bind_eq_some_iff.mp H
        obtain ⟨t279, A510, H⟩ := H
        replace H : (if t279 = 1 then (if (wrap64 ((ji5) - a0_2)) > 1 then (spec_l03Multiple.j0 k ji5 true t274 t275) else ((spec_l02Bit.f t274 t275 0).bind fun t280 => (spec_l03Multiple.j0 k ji5 (t280 == 1) t274 t275))) else (spec_l03Multiple.j0 k ji5 false t274 t275)) = some (r1, r2, r3, r4) := H
        have A51 := Aside0.mk A510
        clear A510
        by_cases c52 : t279 = 1
        · rw [if_pos c52] at H
          have c52b0 : (t279 == 1) = true := beq_iff_eq.mpr c52
          have c52b1 : (t279 != 1) = false := bne_eq_false_iff_eq.mpr c52
          clear c52
          by_cases c53 : (wrap64 ((ji5) - a0_2)) > 1
          · rw [if_pos c53] at H
            have c53b0 : decide (1 < (wrap64 ((ji5) - a0_2))) = true := decide_eq_true c53
            clear c53
            have H' := Aside0.mk H
            clear H
            have hnb54 := NB268_262.out
            have hnc54 := NB262_268.out
            have hnb55 := NB268_263.out
            have hnc55 := NB263_268.out
            have hnb56 := NB268_278.out
            have hnc56 := NB278_268.out
            have hcz57_0 : w44.cell? ⟨gb268, 0, none⟩ = some (.int .i64 t264) := (blk_cell BK268.out 0).trans rfl
            have hcz57_1 : w44.cell? ⟨gb268, 1, none⟩ = some (.slice Ao37 t265.length co37) := (blk_cell BK268.out 1).trans rfl
            have hfz57_0 := blk_frozen BK268.out 0
            have hfz57_1 := blk_frozen BK268.out 1
            go_wp2_with (first | ((with_reducible refine gate_callee (f := 104) rfl ?_); refine goesL_ (some 42) rfl rfl Try.func104 (by kernel_rfl) rfl #[.agg #[.int .i64 t264, .slice Ao37 t265.length co37], .int .i64 (wrap64 ((wrap64 ((ji5) - a0_2)) - 1))] rfl (by (try simp only [List.map_toArray, List.map_cons, List.map_nil]); first | done | (simp only [hji5]; rfl) | rfl | (simp only [List.length_drop, List.length_take]; rfl)) ?_; (with_reducible refine (spec_l02Bit.calls t264 _ _ t265 (wrap64 ((wrap64 ((ji5) - a0_2)) - 1)) t279 _ ?side1 ?side2 A51.out).mono ?_); (case side1 => refine (Kd.R_reads' (e := 2) (base := w.heap.size) (ok := fun k_ => (True ∧ some k_ ≠ (.slice Ao49 t275.length co49 : Value).ownBlock)) (n := t265.length) (c := co37) ?_).2.2; exact (by (with_reducible repeat (first | apply Kd.R_alloc | apply Kd.R_drewN | apply Kd.R_drew)); exact (Kd.R_mono (Kd.R_far (p := ⟨gb278, 1, none⟩) (Kd.R_far (p := ⟨gb278, 0, none⟩) (Kd.R_types HO267.out BK278.out (by decide)) (fun _ hk => hk.2) (.int .i64 t274)) (fun _ hk => hk.2) (.slice Ao49 t275.length co49)) (fun _ h_ => h_.1)))); (case side2 => exact (Kd.R_reads' HO267.out).2.1); rintro e w58 ⟨rfl, hb⟩; refine ⟨_, rfl, ?_⟩; have n0_ := Aside0.mk (Kd.R_below (by (with_reducible repeat (first | apply Kd.R_alloc | apply Kd.R_drewN | apply Kd.R_drew)); exact (Kd.R_mono (Kd.R_far (p := ⟨gb278, 1, none⟩) (Kd.R_far (p := ⟨gb278, 0, none⟩) (Kd.R_types HO267.out BK278.out (by decide)) (fun _ hk => hk.2) (.int .i64 t274)) (fun _ hk => hk.2) (.slice Ao49 t275.length co49)) (fun _ h_ => h_.1))) hb); have n1_ := Aside0.mk (Kd.R_below (by (with_reducible repeat (first | apply Kd.R_alloc | apply Kd.R_drewN | apply Kd.R_drew)); exact (Kd.R_mono (Kd.R_far (p := ⟨gb278, 1, none⟩) (Kd.R_far (p := ⟨gb278, 0, none⟩) (Kd.R_types HO277.out BK278.out (by decide)) (fun _ hk => hk.2) (.int .i64 t274)) (fun _ hk => hk.2) (.slice Ao49 t275.length co49)) (fun _ h_ => h_.1))) hb); have n2_ := Aside0.mk (blk_below (g := gb262) (o := .cells #[.int .i64 a0_0, .slice A0_1 l0_1.length c0_1, .int .i64 a0_2] 33 (0, 0)) (by (with_reducible repeat (first | refine blk_drewN ?_ _ | refine blk_drew ?_ | refine blk_alloc ?_ _)); refine blk_far ?_ NB262_278.out _; (with_reducible repeat (first | refine blk_drewN ?_ _ | refine blk_drew ?_ | refine blk_alloc ?_ _)); refine blk_far ?_ NB262_278.out _; (with_reducible repeat (first | refine blk_drewN ?_ _ | refine blk_drew ?_ | refine blk_alloc ?_ _)); exact BK262.out) hb); have n3_ := Aside0.mk (blk_below (g := gb263) (o := .cells #[.int .i64 0, .slice none 0 0] 31 (0, 0)) (by (with_reducible repeat (first | refine blk_drewN ?_ _ | refine blk_drew ?_ | refine blk_alloc ?_ _)); refine blk_far ?_ NB263_278.out _; (with_reducible repeat (first | refine blk_drewN ?_ _ | refine blk_drew ?_ | refine blk_alloc ?_ _)); refine blk_far ?_ NB263_278.out _; (with_reducible repeat (first | refine blk_drewN ?_ _ | refine blk_drew ?_ | refine blk_alloc ?_ _)); exact BK263.out) hb); have n4_ := Aside0.mk (blk_below (g := gb268) (o := .cells #[.int .i64 t264, .slice Ao37 t265.length co37] 31 (0, 0)) (by (with_reducible repeat (first | refine blk_drewN ?_ _ | refine blk_drew ?_ | refine blk_alloc ?_ _)); refine blk_far ?_ NB268_278.out _; (with_reducible repeat (first | refine blk_drewN ?_ _ | refine blk_drew ?_ | refine blk_alloc ?_ _)); refine blk_far ?_ NB268_278.out _; (with_reducible repeat (first | refine blk_drewN ?_ _ | refine blk_drew ?_ | refine blk_alloc ?_ _)); exact BK268.out) hb); have n5_ := Aside0.mk (blk_below (g := gb278) (o := .cells #[.int .i64 t274, .slice Ao49 t275.length co49] 31 (0, 0)) (by (with_reducible repeat (first | refine blk_drewN ?_ _ | refine blk_drew ?_ | refine blk_alloc ?_ _)); refine blk_put (cs := #[.int .i64 t274, .slice none 0 0]) ?_ 1 _ rfl; (with_reducible repeat (first | refine blk_drewN ?_ _ | refine blk_drew ?_ | refine blk_alloc ?_ _)); refine blk_put (cs := #[.int .i64 0, .slice none 0 0]) ?_ 0 _ rfl; (with_reducible repeat (first | refine blk_drewN ?_ _ | refine blk_drew ?_ | refine blk_alloc ?_ _)); exact BK278.out) hb); have n6_ := Aside0.mk (below_step (by repeat (first | (with_reducible first | exact HB.out | apply below_alloc | apply pw_below_drewN | apply below_drew1 | refine below_set ?_ GE262.out | refine below_set ?_ GE263.out | refine below_set ?_ GE268.out | refine below_set ?_ GE278.out) | exact HB.out)) hb); clear HO267; clear HO277; clear BK262; clear BK263; clear BK268; clear BK278; clear HB; have HO267 := n0_; have HO277 := n1_; have BK262 := n2_; have BK263 := n3_; have BK268 := n4_; have BK278 := n5_; have HB := n6_; clear n0_ n1_ n2_ n3_ n4_ n5_ n6_; (try clear hb); (try clear hb2); (try clear hk); (try clear hi)))
            go_meet
            case rel => exact ⟨_, (true), (by first | rfl | (simp; done) | (simp [*]; done)), H', ⟨by first | omega | exact Nat.le_refl _⟩, ⟨by (with_reducible repeat (first | apply Kd.R_alloc | apply Kd.R_drewN | apply Kd.R_drew)); exact Kd.R_mono HO267.out (fun _ hk => hk.2)⟩, ⟨by (with_reducible repeat (first | apply Kd.R_alloc | apply Kd.R_drewN | apply Kd.R_drew)); exact Kd.R_mono HO277.out (fun _ hk => hk.2)⟩, ⟨by (with_reducible repeat (first | refine blk_drewN ?_ _ | refine blk_drew ?_ | refine blk_alloc ?_ _)); exact BK262.out⟩, ⟨by (with_reducible repeat (first | refine blk_drewN ?_ _ | refine blk_drew ?_ | refine blk_alloc ?_ _)); exact BK263.out⟩, ⟨by (with_reducible repeat (first | refine blk_drewN ?_ _ | refine blk_drew ?_ | refine blk_alloc ?_ _)); exact BK268.out⟩, ⟨by (with_reducible repeat (first | refine blk_drewN ?_ _ | refine blk_drew ?_ | refine blk_alloc ?_ _)); exact BK278.out⟩, ⟨by repeat (first | (with_reducible first | exact HB.out | apply below_alloc | apply pw_below_drewN | apply below_drew1 | refine below_set ?_ GE262.out | refine below_set ?_ GE263.out | refine below_set ?_ GE268.out | refine below_set ?_ GE278.out) | exact HB.out)⟩⟩
          · rw [if_neg c53] at H
            have c53b0 : decide (1 < (wrap64 ((ji5) - a0_2))) = false := decide_eq_false c53
            clear c53
            replace H := Option.bind_eq_some_iff.mp H
            obtain ⟨t280, A590, H⟩ := H
            replace H : (spec_l03Multiple.j0 k ji5 (t280 == 1) t274 t275) = some (r1, r2, r3, r4) := H
            have A59 := Aside0.mk A590
            clear A590
            have H' := Aside0.mk H
            clear H
            have hnb60 := NB268_262.out
            have hnc60 := NB262_268.out
            have hnb61 := NB268_263.out
            have hnc61 := NB263_268.out
            have hnb62 := NB268_278.out
            have hnc62 := NB278_268.out
            have hcz63_0 : w44.cell? ⟨gb268, 0, none⟩ = some (.int .i64 t264) := (blk_cell BK268.out 0).trans rfl
            have hcz63_1 : w44.cell? ⟨gb268, 1, none⟩ = some (.slice Ao37 t265.length co37) := (blk_cell BK268.out 1).trans rfl
            have hfz63_0 := blk_frozen BK268.out 0
            have hfz63_1 := blk_frozen BK268.out 1
            go_wp2_with (first | ((with_reducible refine gate_callee (f := 104) rfl ?_); refine goesL_ (some 42) rfl rfl Try.func104 (by kernel_rfl) rfl #[.agg #[.int .i64 t264, .slice Ao37 t265.length co37], .int .i64 (wrap64 ((wrap64 ((ji5) - a0_2)) - 1))] rfl (by (try simp only [List.map_toArray, List.map_cons, List.map_nil]); first | done | (simp only [hji5]; rfl) | rfl | (simp only [List.length_drop, List.length_take]; rfl)) ?_; (with_reducible refine (spec_l02Bit.calls t264 _ _ t265 (wrap64 ((wrap64 ((ji5) - a0_2)) - 1)) t279 _ ?side1 ?side2 A51.out).mono ?_); (case side1 => refine (Kd.R_reads' (e := 2) (base := w.heap.size) (ok := fun k_ => (True ∧ some k_ ≠ (.slice Ao49 t275.length co49 : Value).ownBlock)) (n := t265.length) (c := co37) ?_).2.2; exact (by (with_reducible repeat (first | apply Kd.R_alloc | apply Kd.R_drewN | apply Kd.R_drew)); exact (Kd.R_mono (Kd.R_far (p := ⟨gb278, 1, none⟩) (Kd.R_far (p := ⟨gb278, 0, none⟩) (Kd.R_types HO267.out BK278.out (by decide)) (fun _ hk => hk.2) (.int .i64 t274)) (fun _ hk => hk.2) (.slice Ao49 t275.length co49)) (fun _ h_ => h_.1)))); (case side2 => exact (Kd.R_reads' HO267.out).2.1); rintro e w64 ⟨rfl, hb⟩; refine ⟨_, rfl, ?_⟩; have n0_ := Aside0.mk (Kd.R_below (by (with_reducible repeat (first | apply Kd.R_alloc | apply Kd.R_drewN | apply Kd.R_drew)); exact (Kd.R_mono (Kd.R_far (p := ⟨gb278, 1, none⟩) (Kd.R_far (p := ⟨gb278, 0, none⟩) (Kd.R_types HO267.out BK278.out (by decide)) (fun _ hk => hk.2) (.int .i64 t274)) (fun _ hk => hk.2) (.slice Ao49 t275.length co49)) (fun _ h_ => h_.1))) hb); have n1_ := Aside0.mk (Kd.R_below (by (with_reducible repeat (first | apply Kd.R_alloc | apply Kd.R_drewN | apply Kd.R_drew)); exact (Kd.R_mono (Kd.R_far (p := ⟨gb278, 1, none⟩) (Kd.R_far (p := ⟨gb278, 0, none⟩) (Kd.R_types HO277.out BK278.out (by decide)) (fun _ hk => hk.2) (.int .i64 t274)) (fun _ hk => hk.2) (.slice Ao49 t275.length co49)) (fun _ h_ => h_.1))) hb); have n2_ := Aside0.mk (blk_below (g := gb262) (o := .cells #[.int .i64 a0_0, .slice A0_1 l0_1.length c0_1, .int .i64 a0_2] 33 (0, 0)) (by (with_reducible repeat (first | refine blk_drewN ?_ _ | refine blk_drew ?_ | refine blk_alloc ?_ _)); refine blk_far ?_ NB262_278.out _; (with_reducible repeat (first | refine blk_drewN ?_ _ | refine blk_drew ?_ | refine blk_alloc ?_ _)); refine blk_far ?_ NB262_278.out _; (with_reducible repeat (first | refine blk_drewN ?_ _ | refine blk_drew ?_ | refine blk_alloc ?_ _)); exact BK262.out) hb); have n3_ := Aside0.mk (blk_below (g := gb263) (o := .cells #[.int .i64 0, .slice none 0 0] 31 (0, 0)) (by (with_reducible repeat (first | refine blk_drewN ?_ _ | refine blk_drew ?_ | refine blk_alloc ?_ _)); refine blk_far ?_ NB263_278.out _; (with_reducible repeat (first | refine blk_drewN ?_ _ | refine blk_drew ?_ | refine blk_alloc ?_ _)); refine blk_far ?_ NB263_278.out _; (with_reducible repeat (first | refine blk_drewN ?_ _ | refine blk_drew ?_ | refine blk_alloc ?_ _)); exact BK263.out) hb); have n4_ := Aside0.mk (blk_below (g := gb268) (o := .cells #[.int .i64 t264, .slice Ao37 t265.length co37] 31 (0, 0)) (by (with_reducible repeat (first | refine blk_drewN ?_ _ | refine blk_drew ?_ | refine blk_alloc ?_ _)); refine blk_far ?_ NB268_278.out _; (with_reducible repeat (first | refine blk_drewN ?_ _ | refine blk_drew ?_ | refine blk_alloc ?_ _)); refine blk_far ?_ NB268_278.out _; (with_reducible repeat (first | refine blk_drewN ?_ _ | refine blk_drew ?_ | refine blk_alloc ?_ _)); exact BK268.out) hb); have n5_ := Aside0.mk (blk_below (g := gb278) (o := .cells #[.int .i64 t274, .slice Ao49 t275.length co49] 31 (0, 0)) (by (with_reducible repeat (first | refine blk_drewN ?_ _ | refine blk_drew ?_ | refine blk_alloc ?_ _)); refine blk_put (cs := #[.int .i64 t274, .slice none 0 0]) ?_ 1 _ rfl; (with_reducible repeat (first | refine blk_drewN ?_ _ | refine blk_drew ?_ | refine blk_alloc ?_ _)); refine blk_put (cs := #[.int .i64 0, .slice none 0 0]) ?_ 0 _ rfl; (with_reducible repeat (first | refine blk_drewN ?_ _ | refine blk_drew ?_ | refine blk_alloc ?_ _)); exact BK278.out) hb); have n6_ := Aside0.mk (below_step (by repeat (first | (with_reducible first | exact HB.out | apply below_alloc | apply pw_below_drewN | apply below_drew1 | refine below_set ?_ GE262.out | refine below_set ?_ GE263.out | refine below_set ?_ GE268.out | refine below_set ?_ GE278.out) | exact HB.out)) hb); clear HO267; clear HO277; clear BK262; clear BK263; clear BK268; clear BK278; clear HB; have HO267 := n0_; have HO277 := n1_; have BK262 := n2_; have BK263 := n3_; have BK268 := n4_; have BK278 := n5_; have HB := n6_; clear n0_ n1_ n2_ n3_ n4_ n5_ n6_; (try clear hb); (try clear hb2); (try clear hk); (try clear hi); have hnb65 := NB278_262.out; have hnc65 := NB262_278.out; have hnb66 := NB278_263.out; have hnc66 := NB263_278.out; have hcz67_0 : w64.cell? ⟨gb278, 0, none⟩ = some (.int .i64 t274) := (blk_cell BK278.out 0).trans rfl; have hcz67_1 : w64.cell? ⟨gb278, 1, none⟩ = some (.slice Ao49 t275.length co49) := (blk_cell BK278.out 1).trans rfl; have hfz67_0 := blk_frozen BK278.out 0; have hfz67_1 := blk_frozen BK278.out 1) | (go_at_call 104; (with_reducible refine (spec_l02Bit.calls t274 _ _ t275 0 t280 _ ?side1 ?side2 A59.out).mono ?_); (case side1 => repeat (first | exact (Kd.R_reads' HO277.out).2.2 | (with_reducible refine Kd.C_alloc ?_ _) | (with_reducible refine Kd.C_drewN ?_ _) | (with_reducible refine Kd.C_drew ?_))); (case side2 => exact (Kd.R_reads' HO277.out).2.1); rintro e w68 ⟨rfl, hb⟩; have n0_ := Aside0.mk (Kd.R_below (by (with_reducible repeat (first | apply Kd.R_alloc | apply Kd.R_drewN | apply Kd.R_drew)); exact HO267.out) hb); have n1_ := Aside0.mk (Kd.R_below (by (with_reducible repeat (first | apply Kd.R_alloc | apply Kd.R_drewN | apply Kd.R_drew)); exact HO277.out) hb); have n2_ := Aside0.mk (blk_below (g := gb262) (o := .cells #[.int .i64 a0_0, .slice A0_1 l0_1.length c0_1, .int .i64 a0_2] 33 (0, 0)) (by (with_reducible repeat (first | refine blk_drewN ?_ _ | refine blk_drew ?_ | refine blk_alloc ?_ _)); exact BK262.out) hb); have n3_ := Aside0.mk (blk_below (g := gb263) (o := .cells #[.int .i64 0, .slice none 0 0] 31 (0, 0)) (by (with_reducible repeat (first | refine blk_drewN ?_ _ | refine blk_drew ?_ | refine blk_alloc ?_ _)); exact BK263.out) hb); have n4_ := Aside0.mk (blk_below (g := gb268) (o := .cells #[.int .i64 t264, .slice Ao37 t265.length co37] 31 (0, 0)) (by (with_reducible repeat (first | refine blk_drewN ?_ _ | refine blk_drew ?_ | refine blk_alloc ?_ _)); exact BK268.out) hb); have n5_ := Aside0.mk (blk_below (g := gb278) (o := .cells #[.int .i64 t274, .slice Ao49 t275.length co49] 31 (0, 0)) (by (with_reducible repeat (first | refine blk_drewN ?_ _ | refine blk_drew ?_ | refine blk_alloc ?_ _)); exact BK278.out) hb); have n6_ := Aside0.mk (below_step (by repeat (first | (with_reducible first | exact HB.out | apply below_alloc | apply pw_below_drewN | apply below_drew1 | refine below_set ?_ GE262.out | refine below_set ?_ GE263.out | refine below_set ?_ GE268.out | refine below_set ?_ GE278.out) | exact HB.out)) hb); clear HO267; clear HO277; clear BK262; clear BK263; clear BK268; clear BK278; clear HB; have HO267 := n0_; have HO277 := n1_; have BK262 := n2_; have BK263 := n3_; have BK268 := n4_; have BK278 := n5_; have HB := n6_; clear n0_ n1_ n2_ n3_ n4_ n5_ n6_; (try clear hb); (try clear hb2); (try clear hk); (try clear hi)))
            go_meet
            case rel => exact ⟨_, ((t280 == 1)), (by first | rfl | (simp; done) | (simp [*]; done)), H', ⟨by first | omega | exact Nat.le_refl _⟩, ⟨by (with_reducible repeat (first | apply Kd.R_alloc | apply Kd.R_drewN | apply Kd.R_drew)); exact Kd.R_mono HO267.out (fun _ hk => hk.2)⟩, ⟨by (with_reducible repeat (first | apply Kd.R_alloc | apply Kd.R_drewN | apply Kd.R_drew)); exact Kd.R_mono HO277.out (fun _ hk => hk.2)⟩, ⟨by (with_reducible repeat (first | refine blk_drewN ?_ _ | refine blk_drew ?_ | refine blk_alloc ?_ _)); exact BK262.out⟩, ⟨by (with_reducible repeat (first | refine blk_drewN ?_ _ | refine blk_drew ?_ | refine blk_alloc ?_ _)); exact BK263.out⟩, ⟨by (with_reducible repeat (first | refine blk_drewN ?_ _ | refine blk_drew ?_ | refine blk_alloc ?_ _)); exact BK268.out⟩, ⟨by (with_reducible repeat (first | refine blk_drewN ?_ _ | refine blk_drew ?_ | refine blk_alloc ?_ _)); exact BK278.out⟩, ⟨by repeat (first | (with_reducible first | exact HB.out | apply below_alloc | apply pw_below_drewN | apply below_drew1 | refine below_set ?_ GE262.out | refine below_set ?_ GE263.out | refine below_set ?_ GE268.out | refine below_set ?_ GE278.out) | exact HB.out)⟩⟩
        · rw [if_neg c52] at H
          have c52b0 : (t279 == 1) = false := beq_eq_false_iff_ne.mpr c52
          have c52b1 : (t279 != 1) = true := bne_iff_ne.mpr c52
          have H' := Aside0.mk H
          clear H
          have hnb69 := NB268_262.out
          have hnc69 := NB262_268.out
          have hnb70 := NB268_263.out
          have hnc70 := NB263_268.out
          have hnb71 := NB268_278.out
          have hnc71 := NB278_268.out
          have hcz72_0 : w44.cell? ⟨gb268, 0, none⟩ = some (.int .i64 t264) := (blk_cell BK268.out 0).trans rfl
          have hcz72_1 : w44.cell? ⟨gb268, 1, none⟩ = some (.slice Ao37 t265.length co37) := (blk_cell BK268.out 1).trans rfl
          have hfz72_0 := blk_frozen BK268.out 0
          have hfz72_1 := blk_frozen BK268.out 1
          go_wp2_with (first | ((with_reducible refine gate_callee (f := 104) rfl ?_); refine goesL_ (some 42) rfl rfl Try.func104 (by kernel_rfl) rfl #[.agg #[.int .i64 t264, .slice Ao37 t265.length co37], .int .i64 (wrap64 ((wrap64 ((ji5) - a0_2)) - 1))] rfl (by (try simp only [List.map_toArray, List.map_cons, List.map_nil]); first | done | (simp only [hji5]; rfl) | rfl | (simp only [List.length_drop, List.length_take]; rfl)) ?_; (with_reducible refine (spec_l02Bit.calls t264 _ _ t265 (wrap64 ((wrap64 ((ji5) - a0_2)) - 1)) t279 _ ?side1 ?side2 A51.out).mono ?_); (case side1 => refine (Kd.R_reads' (e := 2) (base := w.heap.size) (ok := fun k_ => (True ∧ some k_ ≠ (.slice Ao49 t275.length co49 : Value).ownBlock)) (n := t265.length) (c := co37) ?_).2.2; exact (by (with_reducible repeat (first | apply Kd.R_alloc | apply Kd.R_drewN | apply Kd.R_drew)); exact (Kd.R_mono (Kd.R_far (p := ⟨gb278, 1, none⟩) (Kd.R_far (p := ⟨gb278, 0, none⟩) (Kd.R_types HO267.out BK278.out (by decide)) (fun _ hk => hk.2) (.int .i64 t274)) (fun _ hk => hk.2) (.slice Ao49 t275.length co49)) (fun _ h_ => h_.1)))); (case side2 => exact (Kd.R_reads' HO267.out).2.1); rintro e w73 ⟨rfl, hb⟩; refine ⟨_, rfl, ?_⟩; have n0_ := Aside0.mk (Kd.R_below (by (with_reducible repeat (first | apply Kd.R_alloc | apply Kd.R_drewN | apply Kd.R_drew)); exact (Kd.R_mono (Kd.R_far (p := ⟨gb278, 1, none⟩) (Kd.R_far (p := ⟨gb278, 0, none⟩) (Kd.R_types HO267.out BK278.out (by decide)) (fun _ hk => hk.2) (.int .i64 t274)) (fun _ hk => hk.2) (.slice Ao49 t275.length co49)) (fun _ h_ => h_.1))) hb); have n1_ := Aside0.mk (Kd.R_below (by (with_reducible repeat (first | apply Kd.R_alloc | apply Kd.R_drewN | apply Kd.R_drew)); exact (Kd.R_mono (Kd.R_far (p := ⟨gb278, 1, none⟩) (Kd.R_far (p := ⟨gb278, 0, none⟩) (Kd.R_types HO277.out BK278.out (by decide)) (fun _ hk => hk.2) (.int .i64 t274)) (fun _ hk => hk.2) (.slice Ao49 t275.length co49)) (fun _ h_ => h_.1))) hb); have n2_ := Aside0.mk (blk_below (g := gb262) (o := .cells #[.int .i64 a0_0, .slice A0_1 l0_1.length c0_1, .int .i64 a0_2] 33 (0, 0)) (by (with_reducible repeat (first | refine blk_drewN ?_ _ | refine blk_drew ?_ | refine blk_alloc ?_ _)); refine blk_far ?_ NB262_278.out _; (with_reducible repeat (first | refine blk_drewN ?_ _ | refine blk_drew ?_ | refine blk_alloc ?_ _)); refine blk_far ?_ NB262_278.out _; (with_reducible repeat (first | refine blk_drewN ?_ _ | refine blk_drew ?_ | refine blk_alloc ?_ _)); exact BK262.out) hb); have n3_ := Aside0.mk (blk_below (g := gb263) (o := .cells #[.int .i64 0, .slice none 0 0] 31 (0, 0)) (by (with_reducible repeat (first | refine blk_drewN ?_ _ | refine blk_drew ?_ | refine blk_alloc ?_ _)); refine blk_far ?_ NB263_278.out _; (with_reducible repeat (first | refine blk_drewN ?_ _ | refine blk_drew ?_ | refine blk_alloc ?_ _)); refine blk_far ?_ NB263_278.out _; (with_reducible repeat (first | refine blk_drewN ?_ _ | refine blk_drew ?_ | refine blk_alloc ?_ _)); exact BK263.out) hb); have n4_ := Aside0.mk (blk_below (g := gb268) (o := .cells #[.int .i64 t264, .slice Ao37 t265.length co37] 31 (0, 0)) (by (with_reducible repeat (first | refine blk_drewN ?_ _ | refine blk_drew ?_ | refine blk_alloc ?_ _)); refine blk_far ?_ NB268_278.out _; (with_reducible repeat (first | refine blk_drewN ?_ _ | refine blk_drew ?_ | refine blk_alloc ?_ _)); refine blk_far ?_ NB268_278.out _; (with_reducible repeat (first | refine blk_drewN ?_ _ | refine blk_drew ?_ | refine blk_alloc ?_ _)); exact BK268.out) hb); have n5_ := Aside0.mk (blk_below (g := gb278) (o := .cells #[.int .i64 t274, .slice Ao49 t275.length co49] 31 (0, 0)) (by (with_reducible repeat (first | refine blk_drewN ?_ _ | refine blk_drew ?_ | refine blk_alloc ?_ _)); refine blk_put (cs := #[.int .i64 t274, .slice none 0 0]) ?_ 1 _ rfl; (with_reducible repeat (first | refine blk_drewN ?_ _ | refine blk_drew ?_ | refine blk_alloc ?_ _)); refine blk_put (cs := #[.int .i64 0, .slice none 0 0]) ?_ 0 _ rfl; (with_reducible repeat (first | refine blk_drewN ?_ _ | refine blk_drew ?_ | refine blk_alloc ?_ _)); exact BK278.out) hb); have n6_ := Aside0.mk (below_step (by repeat (first | (with_reducible first | exact HB.out | apply below_alloc | apply pw_below_drewN | apply below_drew1 | refine below_set ?_ GE262.out | refine below_set ?_ GE263.out | refine below_set ?_ GE268.out | refine below_set ?_ GE278.out) | exact HB.out)) hb); clear HO267; clear HO277; clear BK262; clear BK263; clear BK268; clear BK278; clear HB; have HO267 := n0_; have HO277 := n1_; have BK262 := n2_; have BK263 := n3_; have BK268 := n4_; have BK278 := n5_; have HB := n6_; clear n0_ n1_ n2_ n3_ n4_ n5_ n6_; (try clear hb); (try clear hb2); (try clear hk); (try clear hi)))
          go_meet
          case rel => exact ⟨_, (false), (by first | rfl | (simp; done) | (simp [*]; done)), H', ⟨by first | omega | exact Nat.le_refl _⟩, ⟨by (with_reducible repeat (first | apply Kd.R_alloc | apply Kd.R_drewN | apply Kd.R_drew)); exact Kd.R_mono HO267.out (fun _ hk => hk.2)⟩, ⟨by (with_reducible repeat (first | apply Kd.R_alloc | apply Kd.R_drewN | apply Kd.R_drew)); exact Kd.R_mono HO277.out (fun _ hk => hk.2)⟩, ⟨by (with_reducible repeat (first | refine blk_drewN ?_ _ | refine blk_drew ?_ | refine blk_alloc ?_ _)); exact BK262.out⟩, ⟨by (with_reducible repeat (first | refine blk_drewN ?_ _ | refine blk_drew ?_ | refine blk_alloc ?_ _)); exact BK263.out⟩, ⟨by (with_reducible repeat (first | refine blk_drewN ?_ _ | refine blk_drew ?_ | refine blk_alloc ?_ _)); exact BK268.out⟩, ⟨by (with_reducible repeat (first | refine blk_drewN ?_ _ | refine blk_drew ?_ | refine blk_alloc ?_ _)); exact BK278.out⟩, ⟨by repeat (first | (with_reducible first | exact HB.out | apply below_alloc | apply pw_below_drewN | apply below_drew1 | refine below_set ?_ GE262.out | refine below_set ?_ GE263.out | refine below_set ?_ GE268.out | refine below_set ?_ GE278.out) | exact HB.out)⟩⟩
      · rw [if_neg c50] at H
        have c50b0 : (a1 == 0) = false := beq_eq_false_iff_ne.mpr c50
        have c50b1 : (a1 != 0) = true := bne_iff_ne.mpr c50
        (first | rw [c50b0] | (simp only [i64_w, i32_w]; rw [c50b0]) | skip)
        by_cases c74 : a1 = 1
        · rw [if_pos c74] at H
          have c74b0 : (a1 == 1) = true := beq_iff_eq.mpr c74
          have c74b1 : (a1 != 1) = false := bne_eq_false_iff_eq.mpr c74
          clear c74
          have H' := Aside0.mk H
          clear H
          have hnb75 := NB262_263.out
          have hnc75 := NB263_262.out
          have hnb76 := NB262_268.out
          have hnc76 := NB268_262.out
          have hnb77 := NB262_278.out
          have hnc77 := NB278_262.out
          have hcz78_0 : w44.cell? ⟨gb262, 0, none⟩ = some (.int .i64 a0_0) := (blk_cell BK262.out 0).trans rfl
          have hcz78_1 : w44.cell? ⟨gb262, 1, none⟩ = some (.slice A0_1 l0_1.length c0_1) := (blk_cell BK262.out 1).trans rfl
          have hcz78_2 : w44.cell? ⟨gb262, 2, none⟩ = some (.int .i64 a0_2) := (blk_cell BK262.out 2).trans rfl
          have hfz78_0 := blk_frozen BK262.out 0
          have hfz78_1 := blk_frozen BK262.out 1
          have hfz78_2 := blk_frozen BK262.out 2
          go_wp2
          go_meet
          case rel => exact ⟨_, (decide (a0_0 < 0)), (by first | rfl | (simp; done) | (simp [*]; done)), H', ⟨by first | omega | exact Nat.le_refl _⟩, ⟨by (with_reducible repeat (first | apply Kd.R_alloc | apply Kd.R_drewN | apply Kd.R_drew)); exact Kd.R_mono (Kd.R_far (p := ⟨gb278, 1, none⟩) (Kd.R_far (p := ⟨gb278, 0, none⟩) (Kd.R_types HO267.out BK278.out (by decide)) (fun _ hk => hk.2) (.int .i64 t274)) (fun _ hk => hk.2) (.slice Ao49 t275.length co49)) (fun _ hk => hk.1.2)⟩, ⟨by (with_reducible repeat (first | apply Kd.R_alloc | apply Kd.R_drewN | apply Kd.R_drew)); exact Kd.R_mono (Kd.R_far (p := ⟨gb278, 1, none⟩) (Kd.R_far (p := ⟨gb278, 0, none⟩) (Kd.R_types HO277.out BK278.out (by decide)) (fun _ hk => hk.2) (.int .i64 t274)) (fun _ hk => hk.2) (.slice Ao49 t275.length co49)) (fun _ hk => hk.1.2)⟩, ⟨by (with_reducible repeat (first | refine blk_drewN ?_ _ | refine blk_drew ?_ | refine blk_alloc ?_ _)); refine blk_far ?_ NB262_278.out _; (with_reducible repeat (first | refine blk_drewN ?_ _ | refine blk_drew ?_ | refine blk_alloc ?_ _)); refine blk_far ?_ NB262_278.out _; (with_reducible repeat (first | refine blk_drewN ?_ _ | refine blk_drew ?_ | refine blk_alloc ?_ _)); exact BK262.out⟩, ⟨by (with_reducible repeat (first | refine blk_drewN ?_ _ | refine blk_drew ?_ | refine blk_alloc ?_ _)); refine blk_far ?_ NB263_278.out _; (with_reducible repeat (first | refine blk_drewN ?_ _ | refine blk_drew ?_ | refine blk_alloc ?_ _)); refine blk_far ?_ NB263_278.out _; (with_reducible repeat (first | refine blk_drewN ?_ _ | refine blk_drew ?_ | refine blk_alloc ?_ _)); exact BK263.out⟩, ⟨by (with_reducible repeat (first | refine blk_drewN ?_ _ | refine blk_drew ?_ | refine blk_alloc ?_ _)); refine blk_far ?_ NB268_278.out _; (with_reducible repeat (first | refine blk_drewN ?_ _ | refine blk_drew ?_ | refine blk_alloc ?_ _)); refine blk_far ?_ NB268_278.out _; (with_reducible repeat (first | refine blk_drewN ?_ _ | refine blk_drew ?_ | refine blk_alloc ?_ _)); exact BK268.out⟩, ⟨by (with_reducible repeat (first | refine blk_drewN ?_ _ | refine blk_drew ?_ | refine blk_alloc ?_ _)); refine blk_put (cs := #[.int .i64 t274, .slice none 0 0]) ?_ 1 _ rfl; (with_reducible repeat (first | refine blk_drewN ?_ _ | refine blk_drew ?_ | refine blk_alloc ?_ _)); refine blk_put (cs := #[.int .i64 0, .slice none 0 0]) ?_ 0 _ rfl; (with_reducible repeat (first | refine blk_drewN ?_ _ | refine blk_drew ?_ | refine blk_alloc ?_ _)); exact BK278.out⟩, ⟨by repeat (first | (with_reducible first | exact HB.out | apply below_alloc | apply pw_below_drewN | apply below_drew1 | refine below_set ?_ GE262.out | refine below_set ?_ GE263.out | refine below_set ?_ GE268.out | refine below_set ?_ GE278.out) | exact HB.out)⟩⟩
        · rw [if_neg c74] at H
          have c74b0 : (a1 == 1) = false := beq_eq_false_iff_ne.mpr c74
          have c74b1 : (a1 != 1) = true := bne_iff_ne.mpr c74
          by_cases c79 : a1 = 2
          · rw [if_pos c79] at H
            have c79b0 : (a1 == 2) = true := beq_iff_eq.mpr c79
            have c79b1 : (a1 != 2) = false := bne_eq_false_iff_eq.mpr c79
            clear c79
            have H' := Aside0.mk H
            clear H
            have hnb80 := NB262_263.out
            have hnc80 := NB263_262.out
            have hnb81 := NB262_268.out
            have hnc81 := NB268_262.out
            have hnb82 := NB262_278.out
            have hnc82 := NB278_262.out
            have hcz83_0 : w44.cell? ⟨gb262, 0, none⟩ = some (.int .i64 a0_0) := (blk_cell BK262.out 0).trans rfl
            have hcz83_1 : w44.cell? ⟨gb262, 1, none⟩ = some (.slice A0_1 l0_1.length c0_1) := (blk_cell BK262.out 1).trans rfl
            have hcz83_2 : w44.cell? ⟨gb262, 2, none⟩ = some (.int .i64 a0_2) := (blk_cell BK262.out 2).trans rfl
            have hfz83_0 := blk_frozen BK262.out 0
            have hfz83_1 := blk_frozen BK262.out 1
            have hfz83_2 := blk_frozen BK262.out 2
            go_wp2
            go_meet
            case rel => exact ⟨_, (decide (a0_0 > 0)), (by first | rfl | (simp; done) | (simp [*]; done)), H', ⟨by first | omega | exact Nat.le_refl _⟩, ⟨by (with_reducible repeat (first | apply Kd.R_alloc | apply Kd.R_drewN | apply Kd.R_drew)); exact Kd.R_mono (Kd.R_far (p := ⟨gb278, 1, none⟩) (Kd.R_far (p := ⟨gb278, 0, none⟩) (Kd.R_types HO267.out BK278.out (by decide)) (fun _ hk => hk.2) (.int .i64 t274)) (fun _ hk => hk.2) (.slice Ao49 t275.length co49)) (fun _ hk => hk.1.2)⟩, ⟨by (with_reducible repeat (first | apply Kd.R_alloc | apply Kd.R_drewN | apply Kd.R_drew)); exact Kd.R_mono (Kd.R_far (p := ⟨gb278, 1, none⟩) (Kd.R_far (p := ⟨gb278, 0, none⟩) (Kd.R_types HO277.out BK278.out (by decide)) (fun _ hk => hk.2) (.int .i64 t274)) (fun _ hk => hk.2) (.slice Ao49 t275.length co49)) (fun _ hk => hk.1.2)⟩, ⟨by (with_reducible repeat (first | refine blk_drewN ?_ _ | refine blk_drew ?_ | refine blk_alloc ?_ _)); refine blk_far ?_ NB262_278.out _; (with_reducible repeat (first | refine blk_drewN ?_ _ | refine blk_drew ?_ | refine blk_alloc ?_ _)); refine blk_far ?_ NB262_278.out _; (with_reducible repeat (first | refine blk_drewN ?_ _ | refine blk_drew ?_ | refine blk_alloc ?_ _)); exact BK262.out⟩, ⟨by (with_reducible repeat (first | refine blk_drewN ?_ _ | refine blk_drew ?_ | refine blk_alloc ?_ _)); refine blk_far ?_ NB263_278.out _; (with_reducible repeat (first | refine blk_drewN ?_ _ | refine blk_drew ?_ | refine blk_alloc ?_ _)); refine blk_far ?_ NB263_278.out _; (with_reducible repeat (first | refine blk_drewN ?_ _ | refine blk_drew ?_ | refine blk_alloc ?_ _)); exact BK263.out⟩, ⟨by (with_reducible repeat (first | refine blk_drewN ?_ _ | refine blk_drew ?_ | refine blk_alloc ?_ _)); refine blk_far ?_ NB268_278.out _; (with_reducible repeat (first | refine blk_drewN ?_ _ | refine blk_drew ?_ | refine blk_alloc ?_ _)); refine blk_far ?_ NB268_278.out _; (with_reducible repeat (first | refine blk_drewN ?_ _ | refine blk_drew ?_ | refine blk_alloc ?_ _)); exact BK268.out⟩, ⟨by (with_reducible repeat (first | refine blk_drewN ?_ _ | refine blk_drew ?_ | refine blk_alloc ?_ _)); refine blk_put (cs := #[.int .i64 t274, .slice none 0 0]) ?_ 1 _ rfl; (with_reducible repeat (first | refine blk_drewN ?_ _ | refine blk_drew ?_ | refine blk_alloc ?_ _)); refine blk_put (cs := #[.int .i64 0, .slice none 0 0]) ?_ 0 _ rfl; (with_reducible repeat (first | refine blk_drewN ?_ _ | refine blk_drew ?_ | refine blk_alloc ?_ _)); exact BK278.out⟩, ⟨by repeat (first | (with_reducible first | exact HB.out | apply below_alloc | apply pw_below_drewN | apply below_drew1 | refine below_set ?_ GE262.out | refine below_set ?_ GE263.out | refine below_set ?_ GE268.out | refine below_set ?_ GE278.out) | exact HB.out)⟩⟩
          · rw [if_neg c79] at H
            have c79b0 : (a1 == 2) = false := beq_eq_false_iff_ne.mpr c79
            have c79b1 : (a1 != 2) = true := bne_iff_ne.mpr c79
            by_cases c84 : a1 = 4
            · rw [if_pos c84] at H
              have c84b0 : (a1 == 4) = true := beq_iff_eq.mpr c84
              have c84b1 : (a1 != 4) = false := bne_eq_false_iff_eq.mpr c84
              clear c84
              have H' := Aside0.mk H
              clear H
              go_wp2
              go_meet
              case rel => exact ⟨_, (true), (by first | rfl | (simp; done) | (simp [*]; done)), H', ⟨by first | omega | exact Nat.le_refl _⟩, ⟨by (with_reducible repeat (first | apply Kd.R_alloc | apply Kd.R_drewN | apply Kd.R_drew)); exact Kd.R_mono (Kd.R_far (p := ⟨gb278, 1, none⟩) (Kd.R_far (p := ⟨gb278, 0, none⟩) (Kd.R_types HO267.out BK278.out (by decide)) (fun _ hk => hk.2) (.int .i64 t274)) (fun _ hk => hk.2) (.slice Ao49 t275.length co49)) (fun _ hk => hk.1.2)⟩, ⟨by (with_reducible repeat (first | apply Kd.R_alloc | apply Kd.R_drewN | apply Kd.R_drew)); exact Kd.R_mono (Kd.R_far (p := ⟨gb278, 1, none⟩) (Kd.R_far (p := ⟨gb278, 0, none⟩) (Kd.R_types HO277.out BK278.out (by decide)) (fun _ hk => hk.2) (.int .i64 t274)) (fun _ hk => hk.2) (.slice Ao49 t275.length co49)) (fun _ hk => hk.1.2)⟩, ⟨by (with_reducible repeat (first | refine blk_drewN ?_ _ | refine blk_drew ?_ | refine blk_alloc ?_ _)); refine blk_far ?_ NB262_278.out _; (with_reducible repeat (first | refine blk_drewN ?_ _ | refine blk_drew ?_ | refine blk_alloc ?_ _)); refine blk_far ?_ NB262_278.out _; (with_reducible repeat (first | refine blk_drewN ?_ _ | refine blk_drew ?_ | refine blk_alloc ?_ _)); exact BK262.out⟩, ⟨by (with_reducible repeat (first | refine blk_drewN ?_ _ | refine blk_drew ?_ | refine blk_alloc ?_ _)); refine blk_far ?_ NB263_278.out _; (with_reducible repeat (first | refine blk_drewN ?_ _ | refine blk_drew ?_ | refine blk_alloc ?_ _)); refine blk_far ?_ NB263_278.out _; (with_reducible repeat (first | refine blk_drewN ?_ _ | refine blk_drew ?_ | refine blk_alloc ?_ _)); exact BK263.out⟩, ⟨by (with_reducible repeat (first | refine blk_drewN ?_ _ | refine blk_drew ?_ | refine blk_alloc ?_ _)); refine blk_far ?_ NB268_278.out _; (with_reducible repeat (first | refine blk_drewN ?_ _ | refine blk_drew ?_ | refine blk_alloc ?_ _)); refine blk_far ?_ NB268_278.out _; (with_reducible repeat (first | refine blk_drewN ?_ _ | refine blk_drew ?_ | refine blk_alloc ?_ _)); exact BK268.out⟩, ⟨by (with_reducible repeat (first | refine blk_drewN ?_ _ | refine blk_drew ?_ | refine blk_alloc ?_ _)); refine blk_put (cs := #[.int .i64 t274, .slice none 0 0]) ?_ 1 _ rfl; (with_reducible repeat (first | refine blk_drewN ?_ _ | refine blk_drew ?_ | refine blk_alloc ?_ _)); refine blk_put (cs := #[.int .i64 0, .slice none 0 0]) ?_ 0 _ rfl; (with_reducible repeat (first | refine blk_drewN ?_ _ | refine blk_drew ?_ | refine blk_alloc ?_ _)); exact BK278.out⟩, ⟨by repeat (first | (with_reducible first | exact HB.out | apply below_alloc | apply pw_below_drewN | apply below_drew1 | refine below_set ?_ GE262.out | refine below_set ?_ GE263.out | refine below_set ?_ GE268.out | refine below_set ?_ GE278.out) | exact HB.out)⟩⟩
            · rw [if_neg c84] at H
              have c84b0 : (a1 == 4) = false := beq_eq_false_iff_ne.mpr c84
              have c84b1 : (a1 != 4) = true := bne_iff_ne.mpr c84
              have H' := Aside0.mk H
              clear H
              go_wp2
              go_meet
              case rel => exact ⟨_, (false), (by first | rfl | (simp; done) | (simp [*]; done)), H', ⟨by first | omega | exact Nat.le_refl _⟩, ⟨by (with_reducible repeat (first | apply Kd.R_alloc | apply Kd.R_drewN | apply Kd.R_drew)); exact Kd.R_mono (Kd.R_far (p := ⟨gb278, 1, none⟩) (Kd.R_far (p := ⟨gb278, 0, none⟩) (Kd.R_types HO267.out BK278.out (by decide)) (fun _ hk => hk.2) (.int .i64 t274)) (fun _ hk => hk.2) (.slice Ao49 t275.length co49)) (fun _ hk => hk.1.2)⟩, ⟨by (with_reducible repeat (first | apply Kd.R_alloc | apply Kd.R_drewN | apply Kd.R_drew)); exact Kd.R_mono (Kd.R_far (p := ⟨gb278, 1, none⟩) (Kd.R_far (p := ⟨gb278, 0, none⟩) (Kd.R_types HO277.out BK278.out (by decide)) (fun _ hk => hk.2) (.int .i64 t274)) (fun _ hk => hk.2) (.slice Ao49 t275.length co49)) (fun _ hk => hk.1.2)⟩, ⟨by (with_reducible repeat (first | refine blk_drewN ?_ _ | refine blk_drew ?_ | refine blk_alloc ?_ _)); refine blk_far ?_ NB262_278.out _; (with_reducible repeat (first | refine blk_drewN ?_ _ | refine blk_drew ?_ | refine blk_alloc ?_ _)); refine blk_far ?_ NB262_278.out _; (with_reducible repeat (first | refine blk_drewN ?_ _ | refine blk_drew ?_ | refine blk_alloc ?_ _)); exact BK262.out⟩, ⟨by (with_reducible repeat (first | refine blk_drewN ?_ _ | refine blk_drew ?_ | refine blk_alloc ?_ _)); refine blk_far ?_ NB263_278.out _; (with_reducible repeat (first | refine blk_drewN ?_ _ | refine blk_drew ?_ | refine blk_alloc ?_ _)); refine blk_far ?_ NB263_278.out _; (with_reducible repeat (first | refine blk_drewN ?_ _ | refine blk_drew ?_ | refine blk_alloc ?_ _)); exact BK263.out⟩, ⟨by (with_reducible repeat (first | refine blk_drewN ?_ _ | refine blk_drew ?_ | refine blk_alloc ?_ _)); refine blk_far ?_ NB268_278.out _; (with_reducible repeat (first | refine blk_drewN ?_ _ | refine blk_drew ?_ | refine blk_alloc ?_ _)); refine blk_far ?_ NB268_278.out _; (with_reducible repeat (first | refine blk_drewN ?_ _ | refine blk_drew ?_ | refine blk_alloc ?_ _)); exact BK268.out⟩, ⟨by (with_reducible repeat (first | refine blk_drewN ?_ _ | refine blk_drew ?_ | refine blk_alloc ?_ _)); refine blk_put (cs := #[.int .i64 t274, .slice none 0 0]) ?_ 1 _ rfl; (with_reducible repeat (first | refine blk_drewN ?_ _ | refine blk_drew ?_ | refine blk_alloc ?_ _)); refine blk_put (cs := #[.int .i64 0, .slice none 0 0]) ?_ 0 _ rfl; (with_reducible repeat (first | refine blk_drewN ?_ _ | refine blk_drew ?_ | refine blk_alloc ?_ _)); exact BK278.out⟩, ⟨by repeat (first | (with_reducible first | exact HB.out | apply below_alloc | apply pw_below_drewN | apply below_drew1 | refine below_set ?_ GE262.out | refine below_set ?_ GE263.out | refine below_set ?_ GE268.out | refine below_set ?_ GE278.out) | exact HB.out)⟩⟩
    case rest =>
      clear HC27
      try clear c1
      try clear p2
      try clear c3
      try clear c4
      try clear c5
      try clear c6
      try clear c6b0
      try clear p6
      try clear c7
      try clear c8
      try clear c10
      try clear c14
      try clear c15
      try clear c30
      try clear c34
      try clear c35
      try clear c45
      try clear c46
      try clear c47
      try clear c50
      try clear c50b0
      try clear c50b1
      try clear c52
      try clear c52b0
      try clear c52b1
      try clear c53
      try clear c53b0
      try clear c54
      try clear c55
      try clear c56
      try clear c57
      try clear c60
      try clear c61
      try clear c62
      try clear p64
      try clear c65
      try clear c66
      try clear c69
      try clear c70
      try clear c71
      try clear c74
      try clear c74b0
      try clear c74b1
      try clear c75
      try clear c76
      try clear c77
      try clear c79
      try clear c79b0
      try clear c79b1
      try clear c80
      try clear c81
      try clear c82
      try clear c84
      try clear c84b0
      try clear c84b1
      try clear hcz11_0
      try clear hcz11_1
      try clear hcz11_2
      try clear hcz16_0
      try clear hcz16_1
      try clear hcz21_0
      try clear hcz21_1
      try clear hcz21_2
      try clear hcz22_0
      try clear hcz22_1
      try clear hcz24_0
      try clear hcz24_1
      try clear hcz31_0
      try clear hcz31_1
      try clear hcz31_2
      try clear hcz36_0
      try clear hcz36_1
      try clear hcz41_0
      try clear hcz41_1
      try clear hcz41_2
      try clear hcz42_0
      try clear hcz42_1
      try clear hcz48_0
      try clear hcz48_1
      try clear hcz57_0
      try clear hcz57_1
      try clear hcz63_0
      try clear hcz63_1
      try clear hcz67_0
      try clear hcz67_1
      try clear hcz72_0
      try clear hcz72_1
      try clear hcz78_0
      try clear hcz78_1
      try clear hcz78_2
      try clear hcz83_0
      try clear hcz83_1
      try clear hcz83_2
      try clear hfz11_0
      try clear hfz11_1
      try clear hfz11_2
      try clear hfz16_0
      try clear hfz16_1
      try clear hfz21_0
      try clear hfz21_1
      try clear hfz21_2
      try clear hfz22_0
      try clear hfz22_1
      try clear hfz24_0
      try clear hfz24_1
      try clear hfz31_0
      try clear hfz31_1
      try clear hfz31_2
      try clear hfz36_0
      try clear hfz36_1
      try clear hfz41_0
      try clear hfz41_1
      try clear hfz41_2
      try clear hfz42_0
      try clear hfz42_1
      try clear hfz48_0
      try clear hfz48_1
      try clear hfz57_0
      try clear hfz57_1
      try clear hfz63_0
      try clear hfz63_1
      try clear hfz67_0
      try clear hfz67_1
      try clear hfz72_0
      try clear hfz72_1
      try clear hfz78_0
      try clear hfz78_1
      try clear hfz78_2
      try clear hfz83_0
      try clear hfz83_1
      try clear hfz83_2
      obtain ⟨kq, x11_26, rfl, HA, HJ26, HO_269001, HO_279001, BK262, BK263, BK268, BK278, HB⟩ := hcut
      cases kq with
      | zero => exact absurd HA.out (by simp [spec_l03Multiple.j0])
      | succ kj26 =>
        have H := HA.out
        clear HA
        simp only [spec_l03Multiple.j0] at H
        by_cases c85 : x11_26 = true
        · subst c85
          have H1 : ((spec_l02Of.f kj26 1).bind fun bt281 => ((spec_l02Add.f kj26 t274 t275 bt281.1 bt281.2).bind fun bt285 => (some (bt285.1, bt285.2, ji5, false)))) = some (r1, r2, r3, r4) := by rw [if_pos rfl] at H; exact H
          clear H
          have H := H1
          clear H1
          replace H := Option.bind_eq_some_iff.mp H
          obtain ⟨⟨t281, t282⟩, A860, H⟩ := H
          replace H : ((spec_l02Add.f kj26 t274 t275 t281 t282).bind fun bt285 => (some (bt285.1, bt285.2, ji5, false))) = some (r1, r2, r3, r4) := H
          have A86 := Aside0.mk A860
          clear A860
          replace H := Option.bind_eq_some_iff.mp H
          obtain ⟨⟨t285, t286⟩, A870, H⟩ := H
          replace H : (some (t285, t286, ji5, false)) = some (r1, r2, r3, r4) := H
          have A87 := Aside0.mk A870
          clear A870
          simp only [Option.some.injEq, Prod.mk.injEq] at H
          obtain ⟨rfl, rfl, rfl, rfl⟩ := H
          try go_wp2
          have n0_ := Aside0.mk (Kd.R_drew HO_269001.out)
          have n1_ := Aside0.mk (Kd.R_drew HO_279001.out)
          have n2_ := Aside0.mk (blk_drew BK262.out)
          have n3_ := Aside0.mk (blk_drew BK263.out)
          have n4_ := Aside0.mk (blk_drew BK268.out)
          have n5_ := Aside0.mk (blk_drew BK278.out)
          have n6_ := Aside0.mk (below_drew1 HB.out)
          clear HO_269001
          clear HO_279001
          clear BK262
          clear BK263
          clear BK268
          clear BK278
          clear HB
          have HO_269001 := n0_
          have HO_279001 := n1_
          have BK262 := n2_
          have BK263 := n3_
          have BK268 := n4_
          have BK278 := n5_
          have HB := n6_
          clear n0_ n1_ n2_ n3_ n4_ n5_ n6_
          refine start_ (n := 4) (S := fun w' => w'.cell? ⟨gb278, 0, none⟩ = some (.int .i64 t274) ∧ w'.cell? ⟨gb278, 1, none⟩ = some (.slice Ao49 t275.length co49)) (ds := [3]) #[false, false, false, false] (by kernel_rfl) rfl rfl ⟨(blk_cell BK278.out 0).trans rfl, (blk_cell BK278.out 1).trans rfl⟩ (fun hHeld => ?_)
          generalize wc.drew = w88 at HO_269001 HO_279001 BK262 BK263 BK268 BK278 HB hHeld ⊢
          refine take_ (i := 0) (N := some 68) (v := ?_) (a' := ?_) #[true, false, false, false] rfl rfl (by kernel_rfl) (fun _ _ _ h => h) (Or.inl ⟨by rfl, ?_⟩) hHeld ?_ ?_
          rotate_left
          · rintro w' ⟨s0, s1⟩
            go_simp
            with_reducible rfl
          rotate_left
          · simp only [Act.put, List.setIfInBounds_toArray, List.set_cons_zero, List.set_cons_succ, i64_w, i32_w]
            rfl
          refine one_ (i := 1) (N := some 69) #[true, true, false, false] rfl rfl (by kernel_rfl) (by decide) (fun K hK => ?_)
          refine goes_ Try.func92 (by kernel_rfl) rfl #[.int .i64 1] (by rfl) rfl rfl (by (try simp only [List.map_toArray, List.map_cons, List.map_nil]); first | done | rfl | (simp only [List.length_drop, List.length_take]; rfl)) ?_
          with_reducible refine (spec_l02Of.calls kj26 1 t281 t282 _ A86.out).mono ?_
          rintro e w89 ⟨v283, rfl, ho0, hb⟩
          refine ⟨_, rfl, ?_⟩
          have n0_ := Aside0.mk (Kd.R_elder' (by (with_reducible repeat (first | apply Kd.R_alloc | apply Kd.R_drewN | apply Kd.R_drew)); exact HO_269001.out) (Kd.R_base ho0) hb)
          have n1_ := Aside0.mk (Kd.R_elder' (by (with_reducible repeat (first | apply Kd.R_alloc | apply Kd.R_drewN | apply Kd.R_drew)); exact HO_279001.out) (Kd.R_base ho0) hb)
          have n2_ := Aside0.mk (Kd.R_lower (Kd.R_new' (Kd.R_new' ho0 (Kd.R_lt (by (with_reducible repeat (first | apply Kd.R_alloc | apply Kd.R_drewN | apply Kd.R_drew)); exact HO_269001.out))) (Kd.R_lt (by (with_reducible repeat (first | apply Kd.R_alloc | apply Kd.R_drewN | apply Kd.R_drew)); exact HO_279001.out))) (below_size (by repeat (first | (with_reducible first | exact HB.out | apply below_alloc | apply pw_below_drewN | apply below_drew1 | refine below_set ?_ GE262.out | refine below_set ?_ GE263.out | refine below_set ?_ GE268.out | refine below_set ?_ GE278.out) | exact HB.out))))
          have n3_ := Aside0.mk (blk_below (g := gb262) (o := .cells #[.int .i64 a0_0, .slice A0_1 l0_1.length c0_1, .int .i64 a0_2] 33 (0, 0)) (by (with_reducible repeat (first | refine blk_drewN ?_ _ | refine blk_drew ?_ | refine blk_alloc ?_ _)); exact BK262.out) hb)
          have n4_ := Aside0.mk (blk_below (g := gb263) (o := .cells #[.int .i64 0, .slice none 0 0] 31 (0, 0)) (by (with_reducible repeat (first | refine blk_drewN ?_ _ | refine blk_drew ?_ | refine blk_alloc ?_ _)); exact BK263.out) hb)
          have n5_ := Aside0.mk (blk_below (g := gb268) (o := .cells #[.int .i64 t264, .slice Ao37 t265.length co37] 31 (0, 0)) (by (with_reducible repeat (first | refine blk_drewN ?_ _ | refine blk_drew ?_ | refine blk_alloc ?_ _)); exact BK268.out) hb)
          have n6_ := Aside0.mk (blk_below (g := gb278) (o := .cells #[.int .i64 t274, .slice Ao49 t275.length co49] 31 (0, 0)) (by (with_reducible repeat (first | refine blk_drewN ?_ _ | refine blk_drew ?_ | refine blk_alloc ?_ _)); exact BK278.out) hb)
          have n7_ := Aside0.mk (below_step (by repeat (first | (with_reducible first | exact HB.out | apply below_alloc | apply pw_below_drewN | apply below_drew1 | refine below_set ?_ GE262.out | refine below_set ?_ GE263.out | refine below_set ?_ GE268.out | refine below_set ?_ GE278.out) | exact HB.out)) hb)
          clear HO_269001
          clear HO_279001
          clear BK262
          clear BK263
          clear BK268
          clear BK278
          clear HB
          have HO_269001 := n0_
          have HO_279001 := n1_
          have HO284 := n2_
          have BK262 := n3_
          have BK263 := n4_
          have BK268 := n5_
          have BK278 := n6_
          have HB := n7_
          clear n0_ n1_ n2_ n3_ n4_ n5_ n6_ n7_
          (try clear hb)
          (try clear hb2)
          (try clear hk)
          (try clear hi)
          (try clear ho0)
          obtain ⟨Ao90, co90, eo90⟩ := Kd.R_slice HO284.out
          (first | subst eo90 | (injection eo90 with f1_ f2_ f3_; have f4_ := f1_.symm; have f5_ := f3_.symm; clear f1_ f2_ f3_; subst f4_; subst f5_))
          refine hK.out _ _ ⟨(blk_cell BK278.out 0).trans rfl, (blk_cell BK278.out 1).trans rfl⟩ (fun hHeld => ?_)
          clear hK K
          refine norm_ (a' := ?_) ?_ ?_
          rotate_left
          · show Act.put _ (some 69) _ = _
            simp only [Act.put, List.setIfInBounds_toArray, List.set_cons_zero, List.set_cons_succ, i64_w, i32_w]
            rfl
          refine one_ (i := 2) (N := some 70) #[true, true, true, false] rfl rfl (by kernel_rfl) (by decide) (fun K hK => ?_)
          refine goes_ Try.func105 (by kernel_rfl) rfl #[.agg #[.int .i64 t274, .slice Ao49 t275.length co49], .agg #[.int .i64 t281, .slice Ao90 t282.length co90]] (by rfl) rfl rfl (by (try simp only [List.map_toArray, List.map_cons, List.map_nil]); first | done | rfl | (simp only [List.length_drop, List.length_take]; rfl)) ?_
          with_reducible refine (spec_l02Add.calls kj26 t274 _ _ t275 t281 _ _ t282 t285 t286 _ ?side1 ?side2 ?side3 ?side4 A87.out).mono ?_
          (case side1 => repeat (first | exact (Kd.R_reads' HO_279001.out).2.2 | (with_reducible refine Kd.C_alloc ?_ _) | (with_reducible refine Kd.C_drewN ?_ _) | (with_reducible refine Kd.C_drew ?_)))
          (case side2 => exact (Kd.R_reads' HO_279001.out).2.1)
          (case side3 => repeat (first | exact (Kd.R_reads' HO284.out).2.2 | (with_reducible refine Kd.C_alloc ?_ _) | (with_reducible refine Kd.C_drewN ?_ _) | (with_reducible refine Kd.C_drew ?_)))
          (case side4 => exact (Kd.R_reads' HO284.out).2.1)
          rintro e w91 ⟨v287, rfl, ho0, hb⟩
          refine ⟨_, rfl, ?_⟩
          have n0_ := Aside0.mk (Kd.R_elder' (by (with_reducible repeat (first | apply Kd.R_alloc | apply Kd.R_drewN | apply Kd.R_drew)); exact HO_269001.out) (Kd.R_base ho0) hb)
          have n1_ := Aside0.mk (Kd.R_elder' (by (with_reducible repeat (first | apply Kd.R_alloc | apply Kd.R_drewN | apply Kd.R_drew)); exact HO_279001.out) (Kd.R_base ho0) hb)
          have n2_ := Aside0.mk (Kd.R_elder' (by (with_reducible repeat (first | apply Kd.R_alloc | apply Kd.R_drewN | apply Kd.R_drew)); exact HO284.out) (Kd.R_base ho0) hb)
          have n3_ := Aside0.mk (Kd.R_lower (Kd.R_new' (Kd.R_new' (Kd.R_new' ho0 (Kd.R_lt (by (with_reducible repeat (first | apply Kd.R_alloc | apply Kd.R_drewN | apply Kd.R_drew)); exact HO_269001.out))) (Kd.R_lt (by (with_reducible repeat (first | apply Kd.R_alloc | apply Kd.R_drewN | apply Kd.R_drew)); exact HO_279001.out))) (Kd.R_lt (by (with_reducible repeat (first | apply Kd.R_alloc | apply Kd.R_drewN | apply Kd.R_drew)); exact HO284.out))) (below_size (by repeat (first | (with_reducible first | exact HB.out | apply below_alloc | apply pw_below_drewN | apply below_drew1 | refine below_set ?_ GE262.out | refine below_set ?_ GE263.out | refine below_set ?_ GE268.out | refine below_set ?_ GE278.out) | exact HB.out))))
          have n4_ := Aside0.mk (blk_below (g := gb262) (o := .cells #[.int .i64 a0_0, .slice A0_1 l0_1.length c0_1, .int .i64 a0_2] 33 (0, 0)) (by (with_reducible repeat (first | refine blk_drewN ?_ _ | refine blk_drew ?_ | refine blk_alloc ?_ _)); exact BK262.out) hb)
          have n5_ := Aside0.mk (blk_below (g := gb263) (o := .cells #[.int .i64 0, .slice none 0 0] 31 (0, 0)) (by (with_reducible repeat (first | refine blk_drewN ?_ _ | refine blk_drew ?_ | refine blk_alloc ?_ _)); exact BK263.out) hb)
          have n6_ := Aside0.mk (blk_below (g := gb268) (o := .cells #[.int .i64 t264, .slice Ao37 t265.length co37] 31 (0, 0)) (by (with_reducible repeat (first | refine blk_drewN ?_ _ | refine blk_drew ?_ | refine blk_alloc ?_ _)); exact BK268.out) hb)
          have n7_ := Aside0.mk (blk_below (g := gb278) (o := .cells #[.int .i64 t274, .slice Ao49 t275.length co49] 31 (0, 0)) (by (with_reducible repeat (first | refine blk_drewN ?_ _ | refine blk_drew ?_ | refine blk_alloc ?_ _)); exact BK278.out) hb)
          have n8_ := Aside0.mk (below_step (by repeat (first | (with_reducible first | exact HB.out | apply below_alloc | apply pw_below_drewN | apply below_drew1 | refine below_set ?_ GE262.out | refine below_set ?_ GE263.out | refine below_set ?_ GE268.out | refine below_set ?_ GE278.out) | exact HB.out)) hb)
          clear HO_269001
          clear HO_279001
          clear HO284
          clear BK262
          clear BK263
          clear BK268
          clear BK278
          clear HB
          have HO_269001 := n0_
          have HO_279001 := n1_
          have HO284 := n2_
          have HO288 := n3_
          have BK262 := n4_
          have BK263 := n5_
          have BK268 := n6_
          have BK278 := n7_
          have HB := n8_
          clear n0_ n1_ n2_ n3_ n4_ n5_ n6_ n7_ n8_
          (try clear hb)
          (try clear hb2)
          (try clear hk)
          (try clear hi)
          (try clear ho0)
          obtain ⟨Ao93, co93, eo93⟩ := Kd.R_slice HO288.out
          (first | subst eo93 | (injection eo93 with f1_ f2_ f3_; have f4_ := f1_.symm; have f5_ := f3_.symm; clear f1_ f2_ f3_; subst f4_; subst f5_))
          refine hK.out _ _ ⟨(blk_cell BK278.out 0).trans rfl, (blk_cell BK278.out 1).trans rfl⟩ (fun hHeld => ?_)
          clear hK K
          refine norm_ (a' := ?_) ?_ ?_
          rotate_left
          · show Act.put _ (some 70) _ = _
            simp only [Act.put, List.setIfInBounds_toArray, List.set_cons_zero, List.set_cons_succ, i64_w, i32_w]
            rfl
          refine last_ (i := 3) (N := none) #[true, true, true, true] rfl rfl (by kernel_rfl) (by decide) (fun K hK => ?_)
          have hs92 : w91.cell? ⟨gb278, 0, none⟩ = some (.int .i64 t274) := (blk_cell BK278.out 0).trans rfl
          have hfs92 := blk_frozen BK278.out 0
          have hns92_0 := NB262_278.out
          have hns92_1 := NB263_278.out
          have hns92_2 := NB268_278.out
          have hms92_0 := NB278_262.out
          have hms92_1 := NB278_263.out
          have hms92_2 := NB278_268.out
          have hs94 : w91.cell? ⟨gb278, 1, none⟩ = some (.slice Ao49 t275.length co49) := (blk_cell BK278.out 1).trans rfl
          have hfs94 := blk_frozen BK278.out 1
          have hns94_0 := NB262_278.out
          have hns94_1 := NB263_278.out
          have hns94_2 := NB268_278.out
          have hms94_0 := NB278_262.out
          have hms94_1 := NB278_263.out
          have hms94_2 := NB278_268.out
          refine skip_ (w1 := ?_) (by rfl) rfl ?_ ?_
          rotate_left
          · go_simp
            rfl
          refine hK.out _ _ ?_
          clear hK K
          refine done_ (by kernel_rfl) ?_
          have hnb95 := NB278_262.out
          have hnc95 := NB262_278.out
          have hnb96 := NB278_263.out
          have hnc96 := NB263_278.out
          have hnb97 := NB278_268.out
          have hnc97 := NB268_278.out
          have hcz98_0 : w91.cell? ⟨gb278, 0, none⟩ = some (.int .i64 t274) := (blk_cell BK278.out 0).trans rfl
          have hcz98_1 : w91.cell? ⟨gb278, 1, none⟩ = some (.slice Ao49 t275.length co49) := (blk_cell BK278.out 1).trans rfl
          have hfz98_0 := blk_frozen BK278.out 0
          have hfz98_1 := blk_frozen BK278.out 1
          have hnb99 := NB263_262.out
          have hnc99 := NB262_263.out
          have hnb100 := NB263_268.out
          have hnc100 := NB268_263.out
          have hcz101_0 : w91.cell? ⟨gb263, 0, none⟩ = some (.int .i64 0) := (blk_cell BK263.out 0).trans rfl
          have hcz101_1 : w91.cell? ⟨gb263, 1, none⟩ = some (.slice none 0 0) := (blk_cell BK263.out 1).trans rfl
          have hfz101_0 := blk_frozen BK263.out 0
          have hfz101_1 := blk_frozen BK263.out 1
          try go_wp2
          refine bodyPost_ret (results_ctt rfl _ _ gb263 31 #[.int .i64 t285, .slice Ao93 t286.length co93] (0, 0) _ rfl (by (with_reducible repeat (first | refine blk_drewN ?_ _ | refine blk_drew ?_ | refine blk_alloc ?_ _)); refine blk_put (cs := #[.int .i64 t285, .slice none 0 0]) ?_ 1 _ rfl; (with_reducible repeat (first | refine blk_drewN ?_ _ | refine blk_drew ?_ | refine blk_alloc ?_ _)); refine blk_put (cs := #[.int .i64 0, .slice none 0 0]) ?_ 0 _ rfl; (with_reducible repeat (first | refine blk_drewN ?_ _ | refine blk_drew ?_ | refine blk_alloc ?_ _)); refine blk_far ?_ NB263_278.out _; (with_reducible repeat (first | refine blk_drewN ?_ _ | refine blk_drew ?_ | refine blk_alloc ?_ _)); refine blk_far ?_ NB263_278.out _; (with_reducible repeat (first | refine blk_drewN ?_ _ | refine blk_drew ?_ | refine blk_alloc ?_ _)); exact BK263.out) Try.underlying31 rfl (by kernel_rfl)) rfl ?_
          exact ⟨_, by first | rfl | (simp [errW_none, errW_some] <;> rfl) | (simp only [← hji5]; first | rfl | (simp [errW_none, errW_some] <;> rfl)) | (simp [*, errW_none, errW_some] <;> rfl), by (with_reducible repeat (first | apply Kd.R_alloc | apply Kd.R_drewN | apply Kd.R_drew)); exact Kd.R_mono (Kd.R_far (p := ⟨gb263, 1, none⟩) (Kd.R_far (p := ⟨gb263, 0, none⟩) (Kd.R_far (p := ⟨gb278, 1, none⟩) (Kd.R_far (p := ⟨gb278, 0, none⟩) (Kd.R_types (Kd.R_types HO288.out BK278.out (by decide)) BK263.out (by decide)) (fun _ hk => hk.1.2) (.int .i64 t285)) (fun _ hk => hk.1.2) (.slice Ao93 t286.length co93)) (fun _ hk => hk.2) (.int .i64 t285)) (fun _ hk => hk.2) (.slice Ao93 t286.length co93)) (fun _ hk => trivial), by repeat (first | (with_reducible first | exact HB.out | apply below_alloc | apply pw_below_drewN | apply below_drew1 | refine below_set ?_ GE262.out | refine below_set ?_ GE263.out | refine below_set ?_ GE268.out | refine below_set ?_ GE278.out) | exact HB.out)⟩
        · replace c85 := Bool.eq_false_iff.mpr c85
          subst c85
          have H1 : (some (t274, t275, ji5, false)) = some (r1, r2, r3, r4) := by rw [if_neg (show ¬ (false = true) by decide)] at H; exact H
          clear H
          have H := H1
          clear H1
          simp only [Option.some.injEq, Prod.mk.injEq] at H
          obtain ⟨rfl, rfl, rfl, rfl⟩ := H
          have hnb102 := NB278_262.out
          have hnc102 := NB262_278.out
          have hnb103 := NB278_263.out
          have hnc103 := NB263_278.out
          have hnb104 := NB278_268.out
          have hnc104 := NB268_278.out
          have hcz105_0 : wc.cell? ⟨gb278, 0, none⟩ = some (.int .i64 t274) := (blk_cell BK278.out 0).trans rfl
          have hcz105_1 : wc.cell? ⟨gb278, 1, none⟩ = some (.slice Ao49 t275.length co49) := (blk_cell BK278.out 1).trans rfl
          have hfz105_0 := blk_frozen BK278.out 0
          have hfz105_1 := blk_frozen BK278.out 1
          have hnb106 := NB263_262.out
          have hnc106 := NB262_263.out
          have hnb107 := NB263_268.out
          have hnc107 := NB268_263.out
          have hcz108_0 : wc.cell? ⟨gb263, 0, none⟩ = some (.int .i64 0) := (blk_cell BK263.out 0).trans rfl
          have hcz108_1 : wc.cell? ⟨gb263, 1, none⟩ = some (.slice none 0 0) := (blk_cell BK263.out 1).trans rfl
          have hfz108_0 := blk_frozen BK263.out 0
          have hfz108_1 := blk_frozen BK263.out 1
          go_wp2
          refine bodyPost_ret (results_ctt rfl _ _ gb263 31 #[.int .i64 t274, .slice Ao49 t275.length co49] (0, 0) _ rfl (by (with_reducible repeat (first | refine blk_drewN ?_ _ | refine blk_drew ?_ | refine blk_alloc ?_ _)); refine blk_put (cs := #[.int .i64 t274, .slice none 0 0]) ?_ 1 _ rfl; (with_reducible repeat (first | refine blk_drewN ?_ _ | refine blk_drew ?_ | refine blk_alloc ?_ _)); refine blk_put (cs := #[.int .i64 0, .slice none 0 0]) ?_ 0 _ rfl; (with_reducible repeat (first | refine blk_drewN ?_ _ | refine blk_drew ?_ | refine blk_alloc ?_ _)); exact BK263.out) Try.underlying31 rfl (by kernel_rfl)) rfl ?_
          exact ⟨_, by first | rfl | (simp [errW_none, errW_some] <;> rfl) | (simp only [← hji5]; first | rfl | (simp [errW_none, errW_some] <;> rfl)) | (simp [*, errW_none, errW_some] <;> rfl), by (with_reducible repeat (first | apply Kd.R_alloc | apply Kd.R_drewN | apply Kd.R_drew)); exact Kd.R_mono (Kd.R_far (p := ⟨gb263, 1, none⟩) (Kd.R_far (p := ⟨gb263, 0, none⟩) (Kd.R_types HO_279001.out BK263.out (by decide)) (fun _ hk => hk.2) (.int .i64 t274)) (fun _ hk => hk.2) (.slice Ao49 t275.length co49)) (fun _ hk => trivial), by repeat (first | (with_reducible first | exact HB.out | apply below_alloc | apply pw_below_drewN | apply below_drew1 | refine below_set ?_ GE262.out | refine below_set ?_ GE263.out | refine below_set ?_ GE268.out | refine below_set ?_ GE278.out) | exact HB.out)⟩
end Go.Proofs.Ytjddhnjjeomfjaa.PW
end
section
namespace Go.Proofs.Ytjddhnjjeomfjaa.Ps
open Go.RowKit Go.Proofs.YtjddhnjjeomfjaaW.PrintWords Go.Proofs.Ytjddhnjjeomfjaa.PW Go.Proofs.Ytjddhnjjeomfjaa.Pb Go.Proofs.Ytjddhnjjeomfjaa.Pc Go.Proofs.Ytjddhnjjeomfjaa.Pm Go.Proofs.Ytjddhnjjeomfjaa.Pw Dg
set_option linter.unusedVariables false
set_option linter.unusedSimpArgs false
theorem slength_loop : ∀ (m : Nat) (d : Nat), bl d = m → d < 16777216 → ∀ n : Nat, n + m ≤ 1099511627776 → Ev (fun k => spec_l02Length.l0 k (n : Int) (d : Int)) ((n + bl d : Nat) : Int) := by
  intro m
  induction m with
  | zero =>
    intro d hd _ n hn
    have := bl_eq_zero.1 hd
    subst this
    refine Ev.step (f := fun _ => some (n : Int)) (fun k => ?_) (ev_of fun _ => by rw [bl_zero]; rfl)
    simp only [spec_l02Length.l0]
    rw [if_neg (by omega)]
  | succ m ih =>
    intro d hd hlt n hn
    have h0 : d ≠ 0 := by intro h; subst h; rw [bl_zero] at hd; omega
    have hh := bl_half h0
    have e : Int.tdiv (d : Int) 2 = ((d / 2 : Nat) : Int) := by rw [Int.tdiv_eq_ediv_of_nonneg (by omega)]; rfl
    refine Ev.step (f := fun k => spec_l02Length.l0 k ((n + 1 : Nat) : Int) ((d / 2 : Nat) : Int)) (fun k => ?_) ?_
    · simp only [spec_l02Length.l0]
      rw [if_pos (by omega), e, wrapZ _ (by omega) (by omega), wrapZ _ (by omega) (by omega)]
      rfl
    · have := ih (d / 2) (by omega) (by omega) (n + 1) (by omega)
      rw [show n + bl d = n + 1 + bl (d / 2) by omega]
      exact this
theorem slength (s : Int) (n : Nat) (hb : bl n ≤ 1073741824) : Ev (fun k => spec_l02Length.f k s (L n)) ((bl n : Nat) : Int) := by
  unfold spec_l02Length.f
  have hl := L_len n
  by_cases h : n = 0
  · subst h
    exact ifp (by rw [L_zero]; rfl) (ev_of fun _ => rfl)
  · have hp := L_pos h
    obtain ⟨d, hd, h1, h2, h3⟩ := L_last h
    have e1 : wrap64 (((L n).length : Int) - 1) = (((L n).length - 1 : Nat) : Int) := by rw [wrapZ _ (by omega) (by omega)]; omega
    refine ifn (by omega) ?_
    rw [e1]
    refine ifp (by omega) (ifp (by omega) ?_)
    rw [rdN, hd, wrapZ _ (by omega) (by omega), h3]
    have := slength_loop (bl d) d rfl h2 (24 * ((L n).length - 1)) (by omega)
    rw [show ((24 * ((L n).length - 1) : Nat) : Int) = (((L n).length - 1 : Nat) : Int) * 24 by omega] at this
    exact this
end Go.Proofs.Ytjddhnjjeomfjaa.Ps
end
section
namespace Go.Proofs.Ytjddhnjjeomfjaa.PW
open Go.RowKit Go.Proofs.YtjddhnjjeomfjaaW.PrintWords Go.Proofs.YtjddhnjjeomfjaaW.PrintLast Go.Proofs.YtjddhnjjeomfjaaW.PrintMore
attribute [local go_sem] max2_int min2_int max_two min_two max_three min_three max_four min_four   -- for this text's walks alone
set_option linter.unusedVariables false
set_option linter.unusedSimpArgs false
def impl_isMode.f (a0 : Int) : Option (Bool) := if a0 ≥ 0 then (some (decide (a0 ≤ 4))) else (some false)
set_option maxHeartbeats 8000000 in
set_option maxRecDepth 100000 in
theorem impl_isMode.calls (a0 : Int) (r : Bool) (w : World) (h : impl_isMode.f a0 = some r) :
    Calls Try.prog 33 #[.int .i64 a0] w fun e w' => e = .returned (.bool r) ∧ Drawn0 w w' := by
  have H : (if a0 ≥ 0 then (some (decide (a0 ≤ 4))) else (some false)) = some r := h
  clear h
  by_cases c2 : a0 ≥ 0
  · rw [if_pos c2] at H
    have c2b0 : decide (0 ≤ a0) = true := decide_eq_true c2
    clear c2
    obtain rfl := Option.some.inj H
    go_enter Try.func33, Try.ntmps33
    go_wp2
    go_ret
    exact ⟨by first | rfl | (simp; done) | (simp [*]; done), by repeat (first | exact Drawn0.refl _ | apply Drawn0.step)⟩
  · rw [if_neg c2] at H
    have c2b0 : decide (0 ≤ a0) = false := decide_eq_false c2
    clear c2
    obtain rfl := Option.some.inj H
    go_enter Try.func33, Try.ntmps33
    go_wp2
    go_ret
    exact ⟨by first | rfl | (simp; done) | (simp [*]; done), by repeat (first | exact Drawn0.refl _ | apply Drawn0.step)⟩
end Go.Proofs.Ytjddhnjjeomfjaa.PW
end
section
namespace Go.Proofs.Ytjddhnjjeomfjaa.PW
open Go.RowKit Go.Proofs.YtjddhnjjeomfjaaW.PrintWords Go.Proofs.YtjddhnjjeomfjaaW.PrintLast Go.Proofs.YtjddhnjjeomfjaaW.PrintMore
attribute [local go_sem] max2_int min2_int max_two min_two max_three min_three max_four min_four   -- for this text's walks alone
set_option linter.unusedVariables false
set_option linter.unusedSimpArgs false
def spec_l03Mode.f (a0 : Int) : Option (Bool) := (spec_l01In.f a0 0 4).bind fun t113 => (some t113)
set_option maxHeartbeats 8000000 in
set_option maxRecDepth 100000 in
theorem spec_l03Mode.calls (a0 : Int) (r : Bool) (w : World) (h : spec_l03Mode.f a0 = some r) :
    Calls Try.prog 45 #[.int .i64 a0] w fun e w' => e = .returned (.bool r) ∧ Drawn0 w w' := by
  have H : ((spec_l01In.f a0 0 4).bind fun t113 => (some t113)) = some r := h
  clear h
  replace H := Option.bind_eq_some_iff.mp H
  obtain ⟨t113, A20, H⟩ := H
  replace H : (some t113) = some r := H
  have A2 := Aside0.mk A20
  clear A20
  obtain rfl := Option.some.inj H
  go_enter Try.func45, Try.ntmps45
  go_wp2_with (first | ((with_reducible refine gate_callee (f := 79) rfl ?_); refine goesL_ (some 4) rfl rfl Try.func79 (by kernel_rfl) rfl #[.int .i64 a0, .int .i64 0, .int .i64 4] rfl (by (try simp only [List.map_toArray, List.map_cons, List.map_nil]); first | done | rfl | (simp only [List.length_drop, List.length_take]; rfl)) ?_; (with_reducible refine (spec_l01In.calls a0 0 4 t113 _ A2.out).mono ?_); rintro e w' ⟨rfl, ⟨nd, rfl⟩⟩; refine ⟨_, rfl, ?_⟩))
  go_ret
  exact ⟨by first | rfl | (simp; done) | (simp [*]; done), by repeat (first | exact Drawn0.refl _ | apply Drawn0.step)⟩
end Go.Proofs.Ytjddhnjjeomfjaa.PW
end
section
namespace Go.Proofs.Ytjddhnjjeomfjaa.PW
open Go.RowKit Go.Proofs.YtjddhnjjeomfjaaW.PrintWords Go.Proofs.YtjddhnjjeomfjaaW.PrintLast Go.Proofs.YtjddhnjjeomfjaaW.PrintMore
attribute [local go_sem] max2_int min2_int max_two min_two max_three min_three max_four min_four   -- for this text's walks alone
set_option linter.unusedVariables false
set_option linter.unusedSimpArgs false
def spec_l03Code.f (k : Nat) (a0_0 : Int) (l0_1 : List Int) (a0_2 : Int) (a1 : Int) : Option (Int) := (spec_l03Is.f k a0_0 l0_1 a0_2).bind fun t115 => (if t115 = true then ((spec_l03Mode.f a1).bind fun t116 => (if t116 = true then (some 0) else (some 2))) else (some 1))
theorem spec_l03Code.mono : ∀ a0 a1 a2 a3 k, LeO (spec_l03Code.f k a0 a1 a2 a3) (spec_l03Code.f (k + 1) a0 a1 a2 a3) := by
  intro a0 a1 a2 a3 k
  unfold spec_l03Code.f
  repeat' first
      | (with_reducible exact spec_l03Is.mono _ _ _ _)
      | (with_reducible exact LeO.refl _)
      | (with_reducible exact LeO.none _)
      | (with_reducible refine LeO.ite ?_ ?_)
      | (with_reducible refine LeO.bind ?_ (fun _ => ?_))
      | exact spec_l03Is.mono _ _ _ _
      | exact LeO.none _
      | refine LeO.ite ?_ ?_
      | refine LeO.bind ?_ (fun _ => ?_)
end Go.Proofs.Ytjddhnjjeomfjaa.PW
end
