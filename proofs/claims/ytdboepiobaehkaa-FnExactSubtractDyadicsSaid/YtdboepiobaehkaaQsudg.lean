/- Lemmas of the claim: PWx77, PWx78, PWx79, PWx80, PWx81, PWx82, PWx128, PWx13. -/
import Derived.Test.YtdboepiobaehkaaQsudf
section
namespace Go.Proofs.Ytdboepiobaehkaa.PW
open Go.RowKit Go.Proofs.YtdboepiobaehkaaW.PrintWords Go.Proofs.YtdboepiobaehkaaW.PrintLast Go.Proofs.YtdboepiobaehkaaW.PrintMore
attribute [local go_sem] max2_int min2_int max_two min_two max_three min_three max_four min_four   -- for this text's walks alone
set_option linter.unusedVariables false
set_option linter.unusedSimpArgs false
def spec_l02Add.f (k : Nat) (a0_0 : Int) (l0_1 : List Int) (a1_0 : Int) (l1_1 : List Int) : Option (Int × List Int) := if a0_0 = 0 then ((spec_l02Make.f k a1_0 l1_1).bind fun bt384 => (some (bt384.1, bt384.2))) else (if a1_0 = 0 then ((spec_l02Make.f k a0_0 l0_1).bind fun bt388 => (some (bt388.1, bt388.2))) else (if a0_0 = a1_0 then ((spec_l02Plus.f k l0_1 l1_1).bind fun t392 => ((spec_l02Make.f k a0_0 t392).bind fun bt395 => (some (bt395.1, bt395.2)))) else ((spec_l02CompareLimbs.f k l0_1 l1_1).bind fun t399 => (if t399 ≥ 0 then ((spec_l02Minus.f k l0_1 l1_1).bind fun t400 => ((spec_l02Make.f k a0_0 t400).bind fun bt403 => (some (bt403.1, bt403.2)))) else ((spec_l02Minus.f k l1_1 l0_1).bind fun t407 => ((spec_l02Make.f k a1_0 t407).bind fun bt410 => (some (bt410.1, bt410.2))))))))
theorem spec_l02Add.mono : ∀ a0 a1 a2 a3 k, LeO (spec_l02Add.f k a0 a1 a2 a3) (spec_l02Add.f (k + 1) a0 a1 a2 a3) := by
 intro a0 a1 a2 a3 k
 unfold spec_l02Add.f
 repeat' first
   | (with_reducible exact spec_l02CompareLimbs.mono _ _ _)
   | (with_reducible exact spec_l02Make.mono _ _ _)
   | (with_reducible exact spec_l02Minus.mono _ _ _)
   | (with_reducible exact spec_l02Plus.mono _ _ _)
   | (with_reducible exact LeO.refl _)
   | (with_reducible exact LeO.none _)
   | (with_reducible refine LeO.ite ?_ ?_)
   | (with_reducible refine LeO.bind ?_ (fun _ => ?_))
   | exact spec_l02CompareLimbs.mono _ _ _
   | exact spec_l02Make.mono _ _ _
   | exact spec_l02Minus.mono _ _ _
   | exact spec_l02Plus.mono _ _ _
   | exact LeO.none _
   | refine LeO.ite ?_ ?_
   | refine LeO.bind ?_ (fun _ => ?_)
def spec_l02Add.T6 : Bool × List (List Nat × List Nat) := (true, [([], []), ([0], [0]), ([], []), ([2], [2]), ([], []), ([4], [4]), ([3, 5], [3, 5]), ([1, 6, 6], [1, 6]), ([7, 7, 0, 1, 2, 3, 4, 5, 6, 7], [7])])
def spec_l02Add.B6 : List Nat := [0, 1, 0, 4, 0, 16, 60, 127, 255]
theorem spec_l02Add.tab6 : rtab .any (opsOf Try.f150 6) = spec_l02Add.T6 := by kernel_rfl
theorem spec_l02Add.bits6 : waitsOk spec_l02Add.T6.2 spec_l02Add.B6 = true := by kernel_rfl
def spec_l02Add.T8 : Bool × List (List Nat × List Nat) := (true, [([], []), ([0], [0]), ([], []), ([2], [2]), ([], []), ([4], [4]), ([3, 5], [3, 5]), ([1, 6, 6], [1, 6]), ([7, 7, 0, 1, 2, 3, 4, 5, 6, 7], [7])])
def spec_l02Add.B8 : List Nat := [0, 1, 0, 4, 0, 16, 60, 127, 255]
theorem spec_l02Add.tab8 : rtab .any (opsOf Try.f150 8) = spec_l02Add.T8 := by kernel_rfl
theorem spec_l02Add.bits8 : waitsOk spec_l02Add.T8.2 spec_l02Add.B8 = true := by kernel_rfl
def spec_l02Add.T9 : Bool × List (List Nat × List Nat) := (true, [([], []), ([0], [0]), ([], []), ([2], [2]), ([], []), ([4], [4]), ([3, 5], [3, 5]), ([1, 6, 6], [1, 6]), ([7, 7, 0, 1, 2, 3, 4, 5, 6, 7], [7])])
def spec_l02Add.B9 : List Nat := [0, 1, 0, 4, 0, 16, 60, 127, 255]
theorem spec_l02Add.tab9 : rtab .any (opsOf Try.f150 9) = spec_l02Add.T9 := by kernel_rfl
theorem spec_l02Add.bits9 : waitsOk spec_l02Add.T9.2 spec_l02Add.B9 = true := by kernel_rfl
set_option maxHeartbeats 8000000 in
set_option maxRecDepth 100000 in
theorem spec_l02Add.calls (k : Nat) (a0_0 : Int) (A0_1 : Option Addr) (c0_1 : Nat) (l0_1 : List Int) (a1_0 : Int) (A1_1 : Option Addr) (c1_1 : Nat) (l1_1 : List Int) (r1 : Int) (r2 : List Int) (w : World) (hr0_1 : Kd.C (Kd.int .i64) w A0_1 l0_1.length l0_1) (hc0_1 : l0_1.length ≤ c0_1) (hr1_1 : Kd.C (Kd.int .i64) w A1_1 l1_1.length l1_1) (hc1_1 : l1_1.length ≤ c1_1) (h : spec_l02Add.f k a0_0 l0_1 a1_0 l1_1 = some (r1, r2)) :
  Calls Try.prog 150 #[.agg #[.int .i64 a0_0, .slice A0_1 l0_1.length c0_1], .agg #[.int .i64 a1_0, .slice A1_1 l1_1.length c1_1]] w fun e w' => ∃ v1_ : Value, e = .returned (.agg #[.int .i64 r1, v1_]) ∧ Kd.R (Kd.int .i64) 2 w' w.heap.size (fun _ => True) v1_ r2 ∧ Below w.heap.size w w' := by
 have hu29 := Try.underlying29
 have HR0_1 := Azq.mk hr0_1
 have HC0_1 := Azq.mk hc0_1
 clear hr0_1 hc0_1
 have HR1_1 := Azq.mk hr1_1
 have HC1_1 := Azq.mk hc1_1
 clear hr1_1 hc1_1
 have HB := Azq.mk (Below.refl w.heap.size w)
 have H : (if a0_0 = 0 then ((spec_l02Make.f k a1_0 l1_1).bind fun bt384 => (some (bt384.1, bt384.2))) else (if a1_0 = 0 then ((spec_l02Make.f k a0_0 l0_1).bind fun bt388 => (some (bt388.1, bt388.2))) else (if a0_0 = a1_0 then ((spec_l02Plus.f k l0_1 l1_1).bind fun t392 => ((spec_l02Make.f k a0_0 t392).bind fun bt395 => (some (bt395.1, bt395.2)))) else ((spec_l02CompareLimbs.f k l0_1 l1_1).bind fun t399 => (if t399 ≥ 0 then ((spec_l02Minus.f k l0_1 l1_1).bind fun t400 => ((spec_l02Make.f k a0_0 t400).bind fun bt403 => (some (bt403.1, bt403.2)))) else ((spec_l02Minus.f k l1_1 l0_1).bind fun t407 => ((spec_l02Make.f k a1_0 t407).bind fun bt410 => (some (bt410.1, bt410.2))))))))) = some (r1, r2) := h
 clear h
 by_cases c3 : a0_0 = 0
 ·rw [if_pos c3] at H
  have c3b0 : (a0_0 == 0) = true := beq_iff_eq.mpr c3
  have c3b1 : (a0_0 != 0) = false := bne_eq_false_iff_eq.mpr c3
  clear c3
  replace H := Option.bind_eq_some_iff.mp H
  obtain ⟨⟨t384, t385⟩, A40, H⟩ := H
  replace H : (some (t384, t385)) = some (r1, r2) := H
  have A4 := Azq.mk A40
  clear A40
  simp only [Option.some.injEq, Prod.mk.injEq] at H
  obtain ⟨rfl, rfl⟩ := H
  go_enter Try.func150, Try.ntmps150
  go_wp2_with (first | ((with_reducible refine gate_dst (N := 2) rfl ?_); refine box_event ?hg (N := 2) ?hd (cs := #[.int .i64 a0_0, .slice A0_1 l0_1.length c0_1]) (t := 29) ?hr ?_; (case hd => rfl); (case hg => rfl); (case hr => first | (go_simp; done) | (go_simp; rfl)); intro gb381 hg w5 hbox hb; have n0_ := Azq.mk (wtq (by repeat (first | (with_reducible first | exact HB.out | apply waq | apply wdq | apply wrq) | exact HB.out)) hb); have n1_ := Azq.mk (hbox); have n2_ := Azq.mk ((by rw [hg]; exact (wzq (by repeat (first | (with_reducible first | exact HB.out | apply waq | apply wdq | apply wrq) | exact HB.out))) : w.heap.size ≤ gb381)); have n3_ := Azq.mk ((by rw [hg]; exact (wzq (by repeat (first | (with_reducible first | exact HB.out | apply waq | apply wdq | apply wrq) | exact HB.out))) : w.heap.size ≤ gb381)); clear HB; have HB := n0_; have BK381 := n1_; have GW381 := n2_; have GE381 := n3_; clear n0_ n1_ n2_ n3_; clear hb hbox hg) | ((with_reducible refine gate_dst (N := 3) rfl ?_); refine box_event ?hg (N := 3) ?hd (cs := #[.int .i64 a1_0, .slice A1_1 l1_1.length c1_1]) (t := 29) ?hr ?_; (case hd => rfl); (case hg => rfl); (case hr => first | (go_simp; done) | (go_simp; rfl)); intro gb382 hg w6 hbox hb; have n0_ := Azq.mk (kbq (g := gb381) (o := .cells #[.int .i64 a0_0, .slice A0_1 l0_1.length c0_1] 29 (0, 0)) (by (with_reducible repeat (first | refine kdq ?_ _ | refine krq ?_ | refine kaq ?_ _)); exact BK381.out) hb); have n1_ := Azq.mk (wtq (by repeat (first | (with_reducible first | exact HB.out | apply waq | apply wdq | apply wrq | refine wsq ?_ GE381.out) | exact HB.out)) hb); have n2_ := Azq.mk (hbox); have n3_ := Azq.mk ((by rw [hg]; exact (wzq (by repeat (first | (with_reducible first | exact HB.out | apply waq | apply wdq | apply wrq | refine wsq ?_ GE381.out) | exact HB.out))) : w.heap.size ≤ gb382)); have n4_ := Azq.mk ((by rw [hg]; exact (wzq (by repeat (first | (with_reducible first | exact HB.out | apply waq | apply wdq | apply wrq | refine wsq ?_ GE381.out) | exact HB.out))) : w.heap.size ≤ gb382)); have n5_ := Azq.mk ((by rw [hg]; exact Nat.ne_of_lt (klq (g := gb381) (o := .cells #[.int .i64 a0_0, .slice A0_1 l0_1.length c0_1] 29 (0, 0)) (by (with_reducible repeat (first | refine kdq ?_ _ | refine krq ?_ | refine kaq ?_ _)); exact BK381.out)) : gb381 ≠ gb382)); have n6_ := Azq.mk ((by rw [hg]; exact Nat.ne_of_gt (klq (g := gb381) (o := .cells #[.int .i64 a0_0, .slice A0_1 l0_1.length c0_1] 29 (0, 0)) (by (with_reducible repeat (first | refine kdq ?_ _ | refine krq ?_ | refine kaq ?_ _)); exact BK381.out)) : gb382 ≠ gb381)); clear BK381; clear HB; have BK381 := n0_; have HB := n1_; have BK382 := n2_; have GW382 := n3_; have GE382 := n4_; have NB381_382 := n5_; have NB382_381 := n6_; clear n0_ n1_ n2_ n3_ n4_ n5_ n6_; clear hb hbox hg) | ((with_reducible refine gate_dst (N := 4) rfl ?_); refine box_event ?hg (N := 4) ?hd (cs := #[.int .i64 0, .slice none 0 0]) (t := 29) ?hr ?_; (case hd => rfl); (case hg => rfl); (case hr => first | (go_simp; done) | (go_simp; rfl)); intro gb383 hg w7 hbox hb; have n0_ := Azq.mk (kbq (g := gb381) (o := .cells #[.int .i64 a0_0, .slice A0_1 l0_1.length c0_1] 29 (0, 0)) (by (with_reducible repeat (first | refine kdq ?_ _ | refine krq ?_ | refine kaq ?_ _)); exact BK381.out) hb); have n1_ := Azq.mk (kbq (g := gb382) (o := .cells #[.int .i64 a1_0, .slice A1_1 l1_1.length c1_1] 29 (0, 0)) (by (with_reducible repeat (first | refine kdq ?_ _ | refine krq ?_ | refine kaq ?_ _)); exact BK382.out) hb); have n2_ := Azq.mk (wtq (by repeat (first | (with_reducible first | exact HB.out | apply waq | apply wdq | apply wrq | refine wsq ?_ GE381.out | refine wsq ?_ GE382.out) | exact HB.out)) hb); have n3_ := Azq.mk (hbox); have n4_ := Azq.mk ((by rw [hg]; exact (wzq (by repeat (first | (with_reducible first | exact HB.out | apply waq | apply wdq | apply wrq | refine wsq ?_ GE381.out | refine wsq ?_ GE382.out) | exact HB.out))) : w.heap.size ≤ gb383)); have n5_ := Azq.mk ((by rw [hg]; exact (wzq (by repeat (first | (with_reducible first | exact HB.out | apply waq | apply wdq | apply wrq | refine wsq ?_ GE381.out | refine wsq ?_ GE382.out) | exact HB.out))) : w.heap.size ≤ gb383)); have n6_ := Azq.mk ((by rw [hg]; exact Nat.ne_of_lt (klq (g := gb381) (o := .cells #[.int .i64 a0_0, .slice A0_1 l0_1.length c0_1] 29 (0, 0)) (by (with_reducible repeat (first | refine kdq ?_ _ | refine krq ?_ | refine kaq ?_ _)); exact BK381.out)) : gb381 ≠ gb383)); have n7_ := Azq.mk ((by rw [hg]; exact Nat.ne_of_gt (klq (g := gb381) (o := .cells #[.int .i64 a0_0, .slice A0_1 l0_1.length c0_1] 29 (0, 0)) (by (with_reducible repeat (first | refine kdq ?_ _ | refine krq ?_ | refine kaq ?_ _)); exact BK381.out)) : gb383 ≠ gb381)); have n8_ := Azq.mk ((by rw [hg]; exact Nat.ne_of_lt (klq (g := gb382) (o := .cells #[.int .i64 a1_0, .slice A1_1 l1_1.length c1_1] 29 (0, 0)) (by (with_reducible repeat (first | refine kdq ?_ _ | refine krq ?_ | refine kaq ?_ _)); exact BK382.out)) : gb382 ≠ gb383)); have n9_ := Azq.mk ((by rw [hg]; exact Nat.ne_of_gt (klq (g := gb382) (o := .cells #[.int .i64 a1_0, .slice A1_1 l1_1.length c1_1] 29 (0, 0)) (by (with_reducible repeat (first | refine kdq ?_ _ | refine krq ?_ | refine kaq ?_ _)); exact BK382.out)) : gb383 ≠ gb382)); clear BK381; clear BK382; clear HB; have BK381 := n0_; have BK382 := n1_; have HB := n2_; have BK383 := n3_; have GW383 := n4_; have GE383 := n5_; have NB381_383 := n6_; have NB383_381 := n7_; have NB382_383 := n8_; have NB383_382 := n9_; clear n0_ n1_ n2_ n3_ n4_ n5_ n6_ n7_ n8_ n9_; clear hb hbox hg; have hnb8 := NB381_382.out; have hnc8 := NB382_381.out; have hnb9 := NB381_383.out; have hnc9 := NB383_381.out; have hcz10_0 : w7.cell? ⟨gb381, 0, none⟩ = some (.int .i64 a0_0) := (kcq BK381.out 0).trans rfl; have hcz10_1 : w7.cell? ⟨gb381, 1, none⟩ = some (.slice A0_1 l0_1.length c0_1) := (kcq BK381.out 1).trans rfl; have hfz10_0 := kfq BK381.out 0; have hfz10_1 := kfq BK381.out 1; have hnb11 := NB382_383.out; have hnc11 := NB383_382.out; have hcz12_0 : w7.cell? ⟨gb382, 0, none⟩ = some (.int .i64 a1_0) := (kcq BK382.out 0).trans rfl; have hcz12_1 : w7.cell? ⟨gb382, 1, none⟩ = some (.slice A1_1 l1_1.length c1_1) := (kcq BK382.out 1).trans rfl; have hfz12_0 := kfq BK382.out 0; have hfz12_1 := kfq BK382.out 1) | ((with_reducible refine gate_callee (f := 189) rfl ?_); refine goesL_ (some 13) rfl rfl Try.func189 (by kernel_rfl) rfl #[.int .i64 a1_0, .slice A1_1 l1_1.length c1_1] rfl (by (try simp only [List.map_toArray, List.map_cons, List.map_nil]); first | done | rfl | (simp only [List.length_drop, List.length_take]; rfl)) ?_; (with_reducible refine (spec_l02Make.calls k a1_0 _ _ l1_1 t384 t385 _ ?side1 ?side2 A4.out).mono ?_); (case side1 => repeat (first | exact (Kd.C_below HR1_1.out HB.out) | (with_reducible refine Kd.C_alloc ?_ _) | (with_reducible refine Kd.C_drewN ?_ _) | (with_reducible refine Kd.C_drew ?_))); (case side2 => exact HC1_1.out); rintro e w13 ⟨v386, rfl, ho0, hb⟩; refine ⟨_, rfl, ?_⟩; have n0_ := Azq.mk (Kd.R_lower ho0 (wzq (by repeat (first | (with_reducible first | exact HB.out | apply waq | apply wdq | apply wrq | refine wsq ?_ GE381.out | refine wsq ?_ GE382.out | refine wsq ?_ GE383.out) | exact HB.out)))); have n1_ := Azq.mk (kbq (g := gb381) (o := .cells #[.int .i64 a0_0, .slice A0_1 l0_1.length c0_1] 29 (0, 0)) (by (with_reducible repeat (first | refine kdq ?_ _ | refine krq ?_ | refine kaq ?_ _)); exact BK381.out) hb); have n2_ := Azq.mk (kbq (g := gb382) (o := .cells #[.int .i64 a1_0, .slice A1_1 l1_1.length c1_1] 29 (0, 0)) (by (with_reducible repeat (first | refine kdq ?_ _ | refine krq ?_ | refine kaq ?_ _)); exact BK382.out) hb); have n3_ := Azq.mk (kbq (g := gb383) (o := .cells #[.int .i64 0, .slice none 0 0] 29 (0, 0)) (by (with_reducible repeat (first | refine kdq ?_ _ | refine krq ?_ | refine kaq ?_ _)); exact BK383.out) hb); have n4_ := Azq.mk (wtq (by repeat (first | (with_reducible first | exact HB.out | apply waq | apply wdq | apply wrq | refine wsq ?_ GE381.out | refine wsq ?_ GE382.out | refine wsq ?_ GE383.out) | exact HB.out)) hb); clear BK381; clear BK382; clear BK383; clear HB; have HO387 := n0_; have BK381 := n1_; have BK382 := n2_; have BK383 := n3_; have HB := n4_; clear n0_ n1_ n2_ n3_ n4_; (try clear hb); (try clear hb2); (try clear hk); (try clear hi); (try clear ho0); have hcz14_0 : w13.cell? ⟨gb383, 0, none⟩ = some (.int .i64 0) := (kcq BK383.out 0).trans rfl; have hcz14_1 : w13.cell? ⟨gb383, 1, none⟩ = some (.slice none 0 0) := (kcq BK383.out 1).trans rfl; have hfz14_0 := kfq BK383.out 0; have hfz14_1 := kfq BK383.out 1; obtain ⟨Ao15, co15, eo15⟩ := Kd.R_slice HO387.out; subst eo15))
  refine bodyPost_ret (results_cell_row rfl _ _ gb383 29 #[.int .i64 t384, .slice Ao15 t385.length co15] (0, 0) _ rfl (by (with_reducible repeat (first | refine kdq ?_ _ | refine krq ?_ | refine kaq ?_ _)); refine blk_put (cs := #[.int .i64 t384, .slice none 0 0]) ?_ 1 _ rfl; (with_reducible repeat (first | refine kdq ?_ _ | refine krq ?_ | refine kaq ?_ _)); refine blk_put (cs := #[.int .i64 0, .slice none 0 0]) ?_ 0 _ rfl; (with_reducible repeat (first | refine kdq ?_ _ | refine krq ?_ | refine kaq ?_ _)); exact BK383.out) Try.underlying29 rfl (by kernel_rfl)) rfl ?_
  exact ⟨_, by first | rfl | (simp [errW_none, errW_some] <;> rfl) | (simp [*, errW_none, errW_some] <;> rfl), by (with_reducible repeat (first | apply Kd.R_alloc | apply Kd.R_drewN | apply Kd.R_drew)); exact Kd.R_mono (Kd.R_far (p := ⟨gb383, 1, none⟩) (Kd.R_far (p := ⟨gb383, 0, none⟩) (Kd.R_types HO387.out BK383.out (by decide)) (fun _ hk => hk.2) (.int .i64 t384)) (fun _ hk => hk.2) (.slice Ao15 t385.length co15)) (fun _ hk => trivial), by repeat (first | (with_reducible first | exact HB.out | apply waq | apply wdq | apply wrq | refine wsq ?_ GE381.out | refine wsq ?_ GE382.out | refine wsq ?_ GE383.out) | exact HB.out)⟩
 ·rw [if_neg c3] at H
  have c3b0 : (a0_0 == 0) = false := beq_eq_false_iff_ne.mpr c3
  have c3b1 : (a0_0 != 0) = true := bne_iff_ne.mpr c3
  by_cases c16 : a1_0 = 0
  ·rw [if_pos c16] at H
   have c16b0 : (a1_0 == 0) = true := beq_iff_eq.mpr c16
   have c16b1 : (a1_0 != 0) = false := bne_eq_false_iff_eq.mpr c16
   clear c16
   replace H := Option.bind_eq_some_iff.mp H
   obtain ⟨⟨t388, t389⟩, A170, H⟩ := H
   replace H : (some (t388, t389)) = some (r1, r2) := H
   have A17 := Azq.mk A170
   clear A170
   simp only [Option.some.injEq, Prod.mk.injEq] at H
   obtain ⟨rfl, rfl⟩ := H
   go_enter Try.func150, Try.ntmps150
   go_wp2_with (first | ((with_reducible refine gate_dst (N := 2) rfl ?_); refine box_event ?hg (N := 2) ?hd (cs := #[.int .i64 a0_0, .slice A0_1 l0_1.length c0_1]) (t := 29) ?hr ?_; (case hd => rfl); (case hg => rfl); (case hr => first | (go_simp; done) | (go_simp; rfl)); intro gb381 hg w18 hbox hb; have n0_ := Azq.mk (wtq (by repeat (first | (with_reducible first | exact HB.out | apply waq | apply wdq | apply wrq) | exact HB.out)) hb); have n1_ := Azq.mk (hbox); have n2_ := Azq.mk ((by rw [hg]; exact (wzq (by repeat (first | (with_reducible first | exact HB.out | apply waq | apply wdq | apply wrq) | exact HB.out))) : w.heap.size ≤ gb381)); have n3_ := Azq.mk ((by rw [hg]; exact (wzq (by repeat (first | (with_reducible first | exact HB.out | apply waq | apply wdq | apply wrq) | exact HB.out))) : w.heap.size ≤ gb381)); clear HB; have HB := n0_; have BK381 := n1_; have GW381 := n2_; have GE381 := n3_; clear n0_ n1_ n2_ n3_; clear hb hbox hg) | ((with_reducible refine gate_dst (N := 3) rfl ?_); refine box_event ?hg (N := 3) ?hd (cs := #[.int .i64 a1_0, .slice A1_1 l1_1.length c1_1]) (t := 29) ?hr ?_; (case hd => rfl); (case hg => rfl); (case hr => first | (go_simp; done) | (go_simp; rfl)); intro gb382 hg w19 hbox hb; have n0_ := Azq.mk (kbq (g := gb381) (o := .cells #[.int .i64 a0_0, .slice A0_1 l0_1.length c0_1] 29 (0, 0)) (by (with_reducible repeat (first | refine kdq ?_ _ | refine krq ?_ | refine kaq ?_ _)); exact BK381.out) hb); have n1_ := Azq.mk (wtq (by repeat (first | (with_reducible first | exact HB.out | apply waq | apply wdq | apply wrq | refine wsq ?_ GE381.out) | exact HB.out)) hb); have n2_ := Azq.mk (hbox); have n3_ := Azq.mk ((by rw [hg]; exact (wzq (by repeat (first | (with_reducible first | exact HB.out | apply waq | apply wdq | apply wrq | refine wsq ?_ GE381.out) | exact HB.out))) : w.heap.size ≤ gb382)); have n4_ := Azq.mk ((by rw [hg]; exact (wzq (by repeat (first | (with_reducible first | exact HB.out | apply waq | apply wdq | apply wrq | refine wsq ?_ GE381.out) | exact HB.out))) : w.heap.size ≤ gb382)); have n5_ := Azq.mk ((by rw [hg]; exact Nat.ne_of_lt (klq (g := gb381) (o := .cells #[.int .i64 a0_0, .slice A0_1 l0_1.length c0_1] 29 (0, 0)) (by (with_reducible repeat (first | refine kdq ?_ _ | refine krq ?_ | refine kaq ?_ _)); exact BK381.out)) : gb381 ≠ gb382)); have n6_ := Azq.mk ((by rw [hg]; exact Nat.ne_of_gt (klq (g := gb381) (o := .cells #[.int .i64 a0_0, .slice A0_1 l0_1.length c0_1] 29 (0, 0)) (by (with_reducible repeat (first | refine kdq ?_ _ | refine krq ?_ | refine kaq ?_ _)); exact BK381.out)) : gb382 ≠ gb381)); clear BK381; clear HB; have BK381 := n0_; have HB := n1_; have BK382 := n2_; have GW382 := n3_; have GE382 := n4_; have NB381_382 := n5_; have NB382_381 := n6_; clear n0_ n1_ n2_ n3_ n4_ n5_ n6_; clear hb hbox hg) | ((with_reducible refine gate_dst (N := 4) rfl ?_); refine box_event ?hg (N := 4) ?hd (cs := #[.int .i64 0, .slice none 0 0]) (t := 29) ?hr ?_; (case hd => rfl); (case hg => rfl); (case hr => first | (go_simp; done) | (go_simp; rfl)); intro gb383 hg w20 hbox hb; have n0_ := Azq.mk (kbq (g := gb381) (o := .cells #[.int .i64 a0_0, .slice A0_1 l0_1.length c0_1] 29 (0, 0)) (by (with_reducible repeat (first | refine kdq ?_ _ | refine krq ?_ | refine kaq ?_ _)); exact BK381.out) hb); have n1_ := Azq.mk (kbq (g := gb382) (o := .cells #[.int .i64 a1_0, .slice A1_1 l1_1.length c1_1] 29 (0, 0)) (by (with_reducible repeat (first | refine kdq ?_ _ | refine krq ?_ | refine kaq ?_ _)); exact BK382.out) hb); have n2_ := Azq.mk (wtq (by repeat (first | (with_reducible first | exact HB.out | apply waq | apply wdq | apply wrq | refine wsq ?_ GE381.out | refine wsq ?_ GE382.out) | exact HB.out)) hb); have n3_ := Azq.mk (hbox); have n4_ := Azq.mk ((by rw [hg]; exact (wzq (by repeat (first | (with_reducible first | exact HB.out | apply waq | apply wdq | apply wrq | refine wsq ?_ GE381.out | refine wsq ?_ GE382.out) | exact HB.out))) : w.heap.size ≤ gb383)); have n5_ := Azq.mk ((by rw [hg]; exact (wzq (by repeat (first | (with_reducible first | exact HB.out | apply waq | apply wdq | apply wrq | refine wsq ?_ GE381.out | refine wsq ?_ GE382.out) | exact HB.out))) : w.heap.size ≤ gb383)); have n6_ := Azq.mk ((by rw [hg]; exact Nat.ne_of_lt (klq (g := gb381) (o := .cells #[.int .i64 a0_0, .slice A0_1 l0_1.length c0_1] 29 (0, 0)) (by (with_reducible repeat (first | refine kdq ?_ _ | refine krq ?_ | refine kaq ?_ _)); exact BK381.out)) : gb381 ≠ gb383)); have n7_ := Azq.mk ((by rw [hg]; exact Nat.ne_of_gt (klq (g := gb381) (o := .cells #[.int .i64 a0_0, .slice A0_1 l0_1.length c0_1] 29 (0, 0)) (by (with_reducible repeat (first | refine kdq ?_ _ | refine krq ?_ | refine kaq ?_ _)); exact BK381.out)) : gb383 ≠ gb381)); have n8_ := Azq.mk ((by rw [hg]; exact Nat.ne_of_lt (klq (g := gb382) (o := .cells #[.int .i64 a1_0, .slice A1_1 l1_1.length c1_1] 29 (0, 0)) (by (with_reducible repeat (first | refine kdq ?_ _ | refine krq ?_ | refine kaq ?_ _)); exact BK382.out)) : gb382 ≠ gb383)); have n9_ := Azq.mk ((by rw [hg]; exact Nat.ne_of_gt (klq (g := gb382) (o := .cells #[.int .i64 a1_0, .slice A1_1 l1_1.length c1_1] 29 (0, 0)) (by (with_reducible repeat (first | refine kdq ?_ _ | refine krq ?_ | refine kaq ?_ _)); exact BK382.out)) : gb383 ≠ gb382)); clear BK381; clear BK382; clear HB; have BK381 := n0_; have BK382 := n1_; have HB := n2_; have BK383 := n3_; have GW383 := n4_; have GE383 := n5_; have NB381_383 := n6_; have NB383_381 := n7_; have NB382_383 := n8_; have NB383_382 := n9_; clear n0_ n1_ n2_ n3_ n4_ n5_ n6_ n7_ n8_ n9_; clear hb hbox hg; have hnb21 := NB381_382.out; have hnc21 := NB382_381.out; have hnb22 := NB381_383.out; have hnc22 := NB383_381.out; have hcz23_0 : w20.cell? ⟨gb381, 0, none⟩ = some (.int .i64 a0_0) := (kcq BK381.out 0).trans rfl; have hcz23_1 : w20.cell? ⟨gb381, 1, none⟩ = some (.slice A0_1 l0_1.length c0_1) := (kcq BK381.out 1).trans rfl; have hfz23_0 := kfq BK381.out 0; have hfz23_1 := kfq BK381.out 1; have hnb24 := NB382_383.out; have hnc24 := NB383_382.out; have hcz25_0 : w20.cell? ⟨gb382, 0, none⟩ = some (.int .i64 a1_0) := (kcq BK382.out 0).trans rfl; have hcz25_1 : w20.cell? ⟨gb382, 1, none⟩ = some (.slice A1_1 l1_1.length c1_1) := (kcq BK382.out 1).trans rfl; have hfz25_0 := kfq BK382.out 0; have hfz25_1 := kfq BK382.out 1) | ((with_reducible refine gate_callee (f := 189) rfl ?_); refine goesL_ (some 22) rfl rfl Try.func189 (by kernel_rfl) rfl #[.int .i64 a0_0, .slice A0_1 l0_1.length c0_1] rfl (by (try simp only [List.map_toArray, List.map_cons, List.map_nil]); first | done | rfl | (simp only [List.length_drop, List.length_take]; rfl)) ?_; (with_reducible refine (spec_l02Make.calls k a0_0 _ _ l0_1 t388 t389 _ ?side1 ?side2 A17.out).mono ?_); (case side1 => repeat (first | exact (Kd.C_below HR0_1.out HB.out) | (with_reducible refine Kd.C_alloc ?_ _) | (with_reducible refine Kd.C_drewN ?_ _) | (with_reducible refine Kd.C_drew ?_))); (case side2 => exact HC0_1.out); rintro e w26 ⟨v390, rfl, ho0, hb⟩; refine ⟨_, rfl, ?_⟩; have n0_ := Azq.mk (Kd.R_lower ho0 (wzq (by repeat (first | (with_reducible first | exact HB.out | apply waq | apply wdq | apply wrq | refine wsq ?_ GE381.out | refine wsq ?_ GE382.out | refine wsq ?_ GE383.out) | exact HB.out)))); have n1_ := Azq.mk (kbq (g := gb381) (o := .cells #[.int .i64 a0_0, .slice A0_1 l0_1.length c0_1] 29 (0, 0)) (by (with_reducible repeat (first | refine kdq ?_ _ | refine krq ?_ | refine kaq ?_ _)); exact BK381.out) hb); have n2_ := Azq.mk (kbq (g := gb382) (o := .cells #[.int .i64 a1_0, .slice A1_1 l1_1.length c1_1] 29 (0, 0)) (by (with_reducible repeat (first | refine kdq ?_ _ | refine krq ?_ | refine kaq ?_ _)); exact BK382.out) hb); have n3_ := Azq.mk (kbq (g := gb383) (o := .cells #[.int .i64 0, .slice none 0 0] 29 (0, 0)) (by (with_reducible repeat (first | refine kdq ?_ _ | refine krq ?_ | refine kaq ?_ _)); exact BK383.out) hb); have n4_ := Azq.mk (wtq (by repeat (first | (with_reducible first | exact HB.out | apply waq | apply wdq | apply wrq | refine wsq ?_ GE381.out | refine wsq ?_ GE382.out | refine wsq ?_ GE383.out) | exact HB.out)) hb); clear BK381; clear BK382; clear BK383; clear HB; have HO391 := n0_; have BK381 := n1_; have BK382 := n2_; have BK383 := n3_; have HB := n4_; clear n0_ n1_ n2_ n3_ n4_; (try clear hb); (try clear hb2); (try clear hk); (try clear hi); (try clear ho0); have hcz27_0 : w26.cell? ⟨gb383, 0, none⟩ = some (.int .i64 0) := (kcq BK383.out 0).trans rfl; have hcz27_1 : w26.cell? ⟨gb383, 1, none⟩ = some (.slice none 0 0) := (kcq BK383.out 1).trans rfl; have hfz27_0 := kfq BK383.out 0; have hfz27_1 := kfq BK383.out 1; obtain ⟨Ao28, co28, eo28⟩ := Kd.R_slice HO391.out; subst eo28))
   refine bodyPost_ret (results_cell_row rfl _ _ gb383 29 #[.int .i64 t388, .slice Ao28 t389.length co28] (0, 0) _ rfl (by (with_reducible repeat (first | refine kdq ?_ _ | refine krq ?_ | refine kaq ?_ _)); refine blk_put (cs := #[.int .i64 t388, .slice none 0 0]) ?_ 1 _ rfl; (with_reducible repeat (first | refine kdq ?_ _ | refine krq ?_ | refine kaq ?_ _)); refine blk_put (cs := #[.int .i64 0, .slice none 0 0]) ?_ 0 _ rfl; (with_reducible repeat (first | refine kdq ?_ _ | refine krq ?_ | refine kaq ?_ _)); exact BK383.out) Try.underlying29 rfl (by kernel_rfl)) rfl ?_
   exact ⟨_, by first | rfl | (simp [errW_none, errW_some] <;> rfl) | (simp [*, errW_none, errW_some] <;> rfl), by (with_reducible repeat (first | apply Kd.R_alloc | apply Kd.R_drewN | apply Kd.R_drew)); exact Kd.R_mono (Kd.R_far (p := ⟨gb383, 1, none⟩) (Kd.R_far (p := ⟨gb383, 0, none⟩) (Kd.R_types HO391.out BK383.out (by decide)) (fun _ hk => hk.2) (.int .i64 t388)) (fun _ hk => hk.2) (.slice Ao28 t389.length co28)) (fun _ hk => trivial), by repeat (first | (with_reducible first | exact HB.out | apply waq | apply wdq | apply wrq | refine wsq ?_ GE381.out | refine wsq ?_ GE382.out | refine wsq ?_ GE383.out) | exact HB.out)⟩
  ·rw [if_neg c16] at H
   have c16b0 : (a1_0 == 0) = false := beq_eq_false_iff_ne.mpr c16
   have c16b1 : (a1_0 != 0) = true := bne_iff_ne.mpr c16
   by_cases c29 : a0_0 = a1_0
   ·rw [if_pos c29] at H
    have c29b0 : (a0_0 == a1_0) = true := beq_iff_eq.mpr c29
    have c29b1 : (a0_0 != a1_0) = false := bne_eq_false_iff_eq.mpr c29
    clear c29
    replace H := Option.bind_eq_some_iff.mp H
    obtain ⟨t392, A300, H⟩ := H
    replace H : ((spec_l02Make.f k a0_0 t392).bind fun bt395 => (some (bt395.1, bt395.2))) = some (r1, r2) := H
    have A30 := Azq.mk A300
    clear A300
    replace H := Option.bind_eq_some_iff.mp H
    obtain ⟨⟨t395, t396⟩, A310, H⟩ := H
    replace H : (some (t395, t396)) = some (r1, r2) := H
    have A31 := Azq.mk A310
    clear A310
    simp only [Option.some.injEq, Prod.mk.injEq] at H
    obtain ⟨rfl, rfl⟩ := H
    go_enter Try.func150, Try.ntmps150
    try go_wp2_with (first | ((with_reducible refine gate_dst (N := 2) rfl ?_); refine box_event ?hg (N := 2) ?hd (cs := #[.int .i64 a0_0, .slice A0_1 l0_1.length c0_1]) (t := 29) ?hr ?_; (case hd => rfl); (case hg => rfl); (case hr => first | (go_simp; done) | (go_simp; rfl)); intro gb381 hg w32 hbox hb; have n0_ := Azq.mk (wtq (by repeat (first | (with_reducible first | exact HB.out | apply waq | apply wdq | apply wrq) | exact HB.out)) hb); have n1_ := Azq.mk (hbox); have n2_ := Azq.mk ((by rw [hg]; exact (wzq (by repeat (first | (with_reducible first | exact HB.out | apply waq | apply wdq | apply wrq) | exact HB.out))) : w.heap.size ≤ gb381)); have n3_ := Azq.mk ((by rw [hg]; exact (wzq (by repeat (first | (with_reducible first | exact HB.out | apply waq | apply wdq | apply wrq) | exact HB.out))) : w.heap.size ≤ gb381)); clear HB; have HB := n0_; have BK381 := n1_; have GW381 := n2_; have GE381 := n3_; clear n0_ n1_ n2_ n3_; clear hb hbox hg) | ((with_reducible refine gate_dst (N := 3) rfl ?_); refine box_event ?hg (N := 3) ?hd (cs := #[.int .i64 a1_0, .slice A1_1 l1_1.length c1_1]) (t := 29) ?hr ?_; (case hd => rfl); (case hg => rfl); (case hr => first | (go_simp; done) | (go_simp; rfl)); intro gb382 hg w33 hbox hb; have n0_ := Azq.mk (kbq (g := gb381) (o := .cells #[.int .i64 a0_0, .slice A0_1 l0_1.length c0_1] 29 (0, 0)) (by (with_reducible repeat (first | refine kdq ?_ _ | refine krq ?_ | refine kaq ?_ _)); exact BK381.out) hb); have n1_ := Azq.mk (wtq (by repeat (first | (with_reducible first | exact HB.out | apply waq | apply wdq | apply wrq | refine wsq ?_ GE381.out) | exact HB.out)) hb); have n2_ := Azq.mk (hbox); have n3_ := Azq.mk ((by rw [hg]; exact (wzq (by repeat (first | (with_reducible first | exact HB.out | apply waq | apply wdq | apply wrq | refine wsq ?_ GE381.out) | exact HB.out))) : w.heap.size ≤ gb382)); have n4_ := Azq.mk ((by rw [hg]; exact (wzq (by repeat (first | (with_reducible first | exact HB.out | apply waq | apply wdq | apply wrq | refine wsq ?_ GE381.out) | exact HB.out))) : w.heap.size ≤ gb382)); have n5_ := Azq.mk ((by rw [hg]; exact Nat.ne_of_lt (klq (g := gb381) (o := .cells #[.int .i64 a0_0, .slice A0_1 l0_1.length c0_1] 29 (0, 0)) (by (with_reducible repeat (first | refine kdq ?_ _ | refine krq ?_ | refine kaq ?_ _)); exact BK381.out)) : gb381 ≠ gb382)); have n6_ := Azq.mk ((by rw [hg]; exact Nat.ne_of_gt (klq (g := gb381) (o := .cells #[.int .i64 a0_0, .slice A0_1 l0_1.length c0_1] 29 (0, 0)) (by (with_reducible repeat (first | refine kdq ?_ _ | refine krq ?_ | refine kaq ?_ _)); exact BK381.out)) : gb382 ≠ gb381)); clear BK381; clear HB; have BK381 := n0_; have HB := n1_; have BK382 := n2_; have GW382 := n3_; have GE382 := n4_; have NB381_382 := n5_; have NB382_381 := n6_; clear n0_ n1_ n2_ n3_ n4_ n5_ n6_; clear hb hbox hg) | ((with_reducible refine gate_dst (N := 4) rfl ?_); refine box_event ?hg (N := 4) ?hd (cs := #[.int .i64 0, .slice none 0 0]) (t := 29) ?hr ?_; (case hd => rfl); (case hg => rfl); (case hr => first | (go_simp; done) | (go_simp; rfl)); intro gb383 hg w34 hbox hb; have n0_ := Azq.mk (kbq (g := gb381) (o := .cells #[.int .i64 a0_0, .slice A0_1 l0_1.length c0_1] 29 (0, 0)) (by (with_reducible repeat (first | refine kdq ?_ _ | refine krq ?_ | refine kaq ?_ _)); exact BK381.out) hb); have n1_ := Azq.mk (kbq (g := gb382) (o := .cells #[.int .i64 a1_0, .slice A1_1 l1_1.length c1_1] 29 (0, 0)) (by (with_reducible repeat (first | refine kdq ?_ _ | refine krq ?_ | refine kaq ?_ _)); exact BK382.out) hb); have n2_ := Azq.mk (wtq (by repeat (first | (with_reducible first | exact HB.out | apply waq | apply wdq | apply wrq | refine wsq ?_ GE381.out | refine wsq ?_ GE382.out) | exact HB.out)) hb); have n3_ := Azq.mk (hbox); have n4_ := Azq.mk ((by rw [hg]; exact (wzq (by repeat (first | (with_reducible first | exact HB.out | apply waq | apply wdq | apply wrq | refine wsq ?_ GE381.out | refine wsq ?_ GE382.out) | exact HB.out))) : w.heap.size ≤ gb383)); have n5_ := Azq.mk ((by rw [hg]; exact (wzq (by repeat (first | (with_reducible first | exact HB.out | apply waq | apply wdq | apply wrq | refine wsq ?_ GE381.out | refine wsq ?_ GE382.out) | exact HB.out))) : w.heap.size ≤ gb383)); have n6_ := Azq.mk ((by rw [hg]; exact Nat.ne_of_lt (klq (g := gb381) (o := .cells #[.int .i64 a0_0, .slice A0_1 l0_1.length c0_1] 29 (0, 0)) (by (with_reducible repeat (first | refine kdq ?_ _ | refine krq ?_ | refine kaq ?_ _)); exact BK381.out)) : gb381 ≠ gb383)); have n7_ := Azq.mk ((by rw [hg]; exact Nat.ne_of_gt (klq (g := gb381) (o := .cells #[.int .i64 a0_0, .slice A0_1 l0_1.length c0_1] 29 (0, 0)) (by (with_reducible repeat (first | refine kdq ?_ _ | refine krq ?_ | refine kaq ?_ _)); exact BK381.out)) : gb383 ≠ gb381)); have n8_ := Azq.mk ((by rw [hg]; exact Nat.ne_of_lt (klq (g := gb382) (o := .cells #[.int .i64 a1_0, .slice A1_1 l1_1.length c1_1] 29 (0, 0)) (by (with_reducible repeat (first | refine kdq ?_ _ | refine krq ?_ | refine kaq ?_ _)); exact BK382.out)) : gb382 ≠ gb383)); have n9_ := Azq.mk ((by rw [hg]; exact Nat.ne_of_gt (klq (g := gb382) (o := .cells #[.int .i64 a1_0, .slice A1_1 l1_1.length c1_1] 29 (0, 0)) (by (with_reducible repeat (first | refine kdq ?_ _ | refine krq ?_ | refine kaq ?_ _)); exact BK382.out)) : gb383 ≠ gb382)); clear BK381; clear BK382; clear HB; have BK381 := n0_; have BK382 := n1_; have HB := n2_; have BK383 := n3_; have GW383 := n4_; have GE383 := n5_; have NB381_383 := n6_; have NB383_381 := n7_; have NB382_383 := n8_; have NB383_382 := n9_; clear n0_ n1_ n2_ n3_ n4_ n5_ n6_ n7_ n8_ n9_; clear hb hbox hg; have hnb35 := NB381_382.out; have hnc35 := NB382_381.out; have hnb36 := NB381_383.out; have hnc36 := NB383_381.out; have hcz37_0 : w34.cell? ⟨gb381, 0, none⟩ = some (.int .i64 a0_0) := (kcq BK381.out 0).trans rfl; have hcz37_1 : w34.cell? ⟨gb381, 1, none⟩ = some (.slice A0_1 l0_1.length c0_1) := (kcq BK381.out 1).trans rfl; have hfz37_0 := kfq BK381.out 0; have hfz37_1 := kfq BK381.out 1; have hnb38 := NB382_383.out; have hnc38 := NB383_382.out; have hcz39_0 : w34.cell? ⟨gb382, 0, none⟩ = some (.int .i64 a1_0) := (kcq BK382.out 0).trans rfl; have hcz39_1 : w34.cell? ⟨gb382, 1, none⟩ = some (.slice A1_1 l1_1.length c1_1) := (kcq BK382.out 1).trans rfl; have hfz39_0 := kfq BK382.out 0; have hfz39_1 := kfq BK382.out 1))
    have n0_ := Azq.mk (krq BK381.out)
    have n1_ := Azq.mk (krq BK382.out)
    have n2_ := Azq.mk (krq BK383.out)
    have n3_ := Azq.mk (wrq HB.out)
    clear BK381
    clear BK382
    clear BK383
    clear HB
    have BK381 := n0_
    have BK382 := n1_
    have BK383 := n2_
    have HB := n3_
    clear n0_ n1_ n2_ n3_
    refine start_ (n := 9) (S := fun w' => w'.cell? ⟨gb381, 0, none⟩ = some (.int .i64 a0_0) ∧ w'.cell? ⟨gb381, 1, none⟩ = some (.slice A0_1 l0_1.length c0_1) ∧ w'.cell? ⟨gb382, 0, none⟩ = some (.int .i64 a1_0) ∧ w'.cell? ⟨gb382, 1, none⟩ = some (.slice A1_1 l1_1.length c1_1)) (ds := []) #[false, false, false, false, false, false, false, false, false] (by kernel_rfl) rfl rfl ⟨(kcq BK381.out 0).trans rfl, (kcq BK381.out 1).trans rfl, (kcq BK382.out 0).trans rfl, (kcq BK382.out 1).trans rfl⟩ (fun hHeld => ?_); refine with_tabW spec_l02Add.tab6 spec_l02Add.bits6 (fun HT_ HW_ => ?_)
    generalize w34.drew = w40 at BK381 BK382 BK383 HB hHeld ⊢
    refine pure_ (i := 0) (N := some 29) (v := ?_) (a' := ?_) #[true, false, false, false, false, false, false, false, false] rfl rfl (any_of HT_.out (by kernel_rfl)) (fun _ _ _ h => h) (Or.inl ⟨by rfl, ?_⟩) ?_ ?_
    rotate_left
    ·intro w'
     go_simp
     with_reducible rfl
    rotate_left
    ·simp only [Act.put, List.setIfInBounds_toArray, List.set_cons_zero, List.set_cons_succ, i64_w, i32_w]
     rfl
    refine pure_ (i := 2) (N := some 31) (v := ?_) (a' := ?_) #[true, false, true, false, false, false, false, false, false] rfl rfl (any_of HT_.out (by kernel_rfl)) (fun _ _ _ h => h) (Or.inl ⟨by rfl, ?_⟩) ?_ ?_
    rotate_left
    ·intro w'
     go_simp
     with_reducible rfl
    rotate_left
    ·simp only [Act.put, List.setIfInBounds_toArray, List.set_cons_zero, List.set_cons_succ, i64_w, i32_w]
     rfl
    refine pure_ (i := 4) (N := some 33) (v := ?_) (a' := ?_) #[true, false, true, false, true, false, false, false, false] rfl rfl (any_of HT_.out (by kernel_rfl)) (fun _ _ _ h => h) (Or.inl ⟨by rfl, ?_⟩) ?_ ?_
    rotate_left
    ·intro w'
     go_simp
     with_reducible rfl
    rotate_left
    ·simp only [Act.put, List.setIfInBounds_toArray, List.set_cons_zero, List.set_cons_succ, i64_w, i32_w]
     rfl
    refine take_ (i := 1) (N := some 30) (v := ?_) (a' := ?_) #[true, true, true, false, true, false, false, false, false] rfl rfl (take_ofW HT_.out HW_.out (by kernel_rfl)) (fun _ _ _ h => h) (Or.inl ⟨by rfl, ?_⟩) hHeld ?_ ?_
    rotate_left
    ·rintro w' ⟨s0, s1, s2, s3⟩
     go_simp
     with_reducible rfl
    rotate_left
    ·simp only [Act.put, List.setIfInBounds_toArray, List.set_cons_zero, List.set_cons_succ, i64_w, i32_w]
     rfl
    refine take_ (i := 3) (N := some 32) (v := ?_) (a' := ?_) #[true, true, true, true, true, false, false, false, false] rfl rfl (take_ofW HT_.out HW_.out (by kernel_rfl)) (fun _ _ _ h => h) (Or.inl ⟨by rfl, ?_⟩) hHeld ?_ ?_
    rotate_left
    ·rintro w' ⟨s0, s1, s2, s3⟩
     go_simp
     with_reducible rfl
    rotate_left
    ·simp only [Act.put, List.setIfInBounds_toArray, List.set_cons_zero, List.set_cons_succ, i64_w, i32_w]
     rfl
    refine take_ (i := 5) (N := some 34) (v := ?_) (a' := ?_) #[true, true, true, true, true, true, false, false, false] rfl rfl (take_ofW HT_.out HW_.out (by kernel_rfl)) (fun _ _ _ h => h) (Or.inl ⟨by rfl, ?_⟩) hHeld ?_ ?_
    rotate_left
    ·rintro w' ⟨s0, s1, s2, s3⟩
     go_simp
     with_reducible rfl
    rotate_left
    ·simp only [Act.put, List.setIfInBounds_toArray, List.set_cons_zero, List.set_cons_succ, i64_w, i32_w]
     rfl
    refine one_ (i := 6) (N := some 35) #[true, true, true, true, true, true, true, false, false] rfl rfl (one_of HT_.out (by kernel_rfl)) (by decide) (fun K hK => ?_)
    refine goes_ Try.func197 (by kernel_rfl) rfl #[.slice A0_1 l0_1.length c0_1, .slice A1_1 l1_1.length c1_1] (by rfl) rfl rfl (by (try simp only [List.map_toArray, List.map_cons, List.map_nil]); first | done | rfl | (simp only [List.length_drop, List.length_take]; rfl)) ?_
    with_reducible refine (spec_l02Plus.calls k _ _ l0_1 _ _ l1_1 t392 _ ?side1 ?side2 ?side3 ?side4 A30.out).mono ?_
    (case side1 => repeat (first | exact (Kd.C_below HR0_1.out HB.out) | (with_reducible refine Kd.C_alloc ?_ _) | (with_reducible refine Kd.C_drewN ?_ _) | (with_reducible refine Kd.C_drew ?_)))
    (case side2 => exact HC0_1.out)
    (case side3 => repeat (first | exact (Kd.C_below HR1_1.out HB.out) | (with_reducible refine Kd.C_alloc ?_ _) | (with_reducible refine Kd.C_drewN ?_ _) | (with_reducible refine Kd.C_drew ?_)))
    (case side4 => exact HC1_1.out)
    rintro e w41 ⟨v393, rfl, ho0, hb⟩
    refine ⟨_, rfl, ?_⟩
    have n0_ := Azq.mk (Kd.R_lower ho0 (wzq (by repeat (first | (with_reducible first | exact HB.out | apply waq | apply wdq | apply wrq | refine wsq ?_ GE381.out | refine wsq ?_ GE382.out | refine wsq ?_ GE383.out) | exact HB.out))))
    have n1_ := Azq.mk (kbq (g := gb381) (o := .cells #[.int .i64 a0_0, .slice A0_1 l0_1.length c0_1] 29 (0, 0)) (by (with_reducible repeat (first | refine kdq ?_ _ | refine krq ?_ | refine kaq ?_ _)); exact BK381.out) hb)
    have n2_ := Azq.mk (kbq (g := gb382) (o := .cells #[.int .i64 a1_0, .slice A1_1 l1_1.length c1_1] 29 (0, 0)) (by (with_reducible repeat (first | refine kdq ?_ _ | refine krq ?_ | refine kaq ?_ _)); exact BK382.out) hb)
    have n3_ := Azq.mk (kbq (g := gb383) (o := .cells #[.int .i64 0, .slice none 0 0] 29 (0, 0)) (by (with_reducible repeat (first | refine kdq ?_ _ | refine krq ?_ | refine kaq ?_ _)); exact BK383.out) hb)
    have n4_ := Azq.mk (wtq (by repeat (first | (with_reducible first | exact HB.out | apply waq | apply wdq | apply wrq | refine wsq ?_ GE381.out | refine wsq ?_ GE382.out | refine wsq ?_ GE383.out) | exact HB.out)) hb)
    clear BK381
    clear BK382
    clear BK383
    clear HB
    have HO394 := n0_
    have BK381 := n1_
    have BK382 := n2_
    have BK383 := n3_
    have HB := n4_
    clear n0_ n1_ n2_ n3_ n4_
    (try clear hb)
    (try clear hb2)
    (try clear hk)
    (try clear hi)
    (try clear ho0)
    obtain ⟨Ao42, co42, eo42⟩ := Kd.R_slice HO394.out
    (first | subst eo42 | (injection eo42 with f1_ f2_ f3_; have f4_ := f1_.symm; have f5_ := f3_.symm; clear f1_ f2_ f3_; subst f4_; subst f5_))
    refine hK.out _ _ ⟨(kcq BK381.out 0).trans rfl, (kcq BK381.out 1).trans rfl, (kcq BK382.out 0).trans rfl, (kcq BK382.out 1).trans rfl⟩ (fun hHeld => ?_)
    clear hK K
    refine norm_ (a' := ?_) ?_ ?_
    rotate_left
    ·show Act.put _ (some 35) _ = _
     simp only [Act.put, List.setIfInBounds_toArray, List.set_cons_zero, List.set_cons_succ, i64_w, i32_w]
     rfl
    refine one_ (i := 7) (N := some 36) #[true, true, true, true, true, true, true, true, false] rfl rfl (one_of HT_.out (by kernel_rfl)) (by decide) (fun K hK => ?_)
    refine goes_ Try.func189 (by kernel_rfl) rfl #[.int .i64 a0_0, .slice Ao42 t392.length co42] (by rfl) rfl rfl (by (try simp only [List.map_toArray, List.map_cons, List.map_nil]); first | done | rfl | (simp only [List.length_drop, List.length_take]; rfl)) ?_
    with_reducible refine (spec_l02Make.calls k a0_0 _ _ t392 t395 t396 _ ?side1 ?side2 A31.out).mono ?_
    (case side1 => repeat (first | exact (Kd.R_reads' HO394.out).2.2 | (with_reducible refine Kd.C_alloc ?_ _) | (with_reducible refine Kd.C_drewN ?_ _) | (with_reducible refine Kd.C_drew ?_)))
    (case side2 => exact (Kd.R_reads' HO394.out).2.1)
    rintro e w43 ⟨v397, rfl, ho0, hb⟩
    refine ⟨_, rfl, ?_⟩
    have n0_ := Azq.mk (Kd.R_elder' (by (with_reducible repeat (first | apply Kd.R_alloc | apply Kd.R_drewN | apply Kd.R_drew)); exact HO394.out) (Kd.R_base ho0) hb)
    have n1_ := Azq.mk (Kd.R_lower (Kd.R_new' ho0 (Kd.R_lt (by (with_reducible repeat (first | apply Kd.R_alloc | apply Kd.R_drewN | apply Kd.R_drew)); exact HO394.out))) (wzq (by repeat (first | (with_reducible first | exact HB.out | apply waq | apply wdq | apply wrq | refine wsq ?_ GE381.out | refine wsq ?_ GE382.out | refine wsq ?_ GE383.out) | exact HB.out))))
    have n2_ := Azq.mk (kbq (g := gb381) (o := .cells #[.int .i64 a0_0, .slice A0_1 l0_1.length c0_1] 29 (0, 0)) (by (with_reducible repeat (first | refine kdq ?_ _ | refine krq ?_ | refine kaq ?_ _)); exact BK381.out) hb)
    have n3_ := Azq.mk (kbq (g := gb382) (o := .cells #[.int .i64 a1_0, .slice A1_1 l1_1.length c1_1] 29 (0, 0)) (by (with_reducible repeat (first | refine kdq ?_ _ | refine krq ?_ | refine kaq ?_ _)); exact BK382.out) hb)
    have n4_ := Azq.mk (kbq (g := gb383) (o := .cells #[.int .i64 0, .slice none 0 0] 29 (0, 0)) (by (with_reducible repeat (first | refine kdq ?_ _ | refine krq ?_ | refine kaq ?_ _)); exact BK383.out) hb)
    have n5_ := Azq.mk (wtq (by repeat (first | (with_reducible first | exact HB.out | apply waq | apply wdq | apply wrq | refine wsq ?_ GE381.out | refine wsq ?_ GE382.out | refine wsq ?_ GE383.out) | exact HB.out)) hb)
    clear HO394
    clear BK381
    clear BK382
    clear BK383
    clear HB
    have HO394 := n0_
    have HO398 := n1_
    have BK381 := n2_
    have BK382 := n3_
    have BK383 := n4_
    have HB := n5_
    clear n0_ n1_ n2_ n3_ n4_ n5_
    (try clear hb)
    (try clear hb2)
    (try clear hk)
    (try clear hi)
    (try clear ho0)
    obtain ⟨Ao45, co45, eo45⟩ := Kd.R_slice HO398.out
    (first | subst eo45 | (injection eo45 with f1_ f2_ f3_; have f4_ := f1_.symm; have f5_ := f3_.symm; clear f1_ f2_ f3_; subst f4_; subst f5_))
    refine hK.out _ _ ⟨(kcq BK381.out 0).trans rfl, (kcq BK381.out 1).trans rfl, (kcq BK382.out 0).trans rfl, (kcq BK382.out 1).trans rfl⟩ (fun hHeld => ?_)
    clear hK K
    refine norm_ (a' := ?_) ?_ ?_
    rotate_left
    ·show Act.put _ (some 36) _ = _
     simp only [Act.put, List.setIfInBounds_toArray, List.set_cons_zero, List.set_cons_succ, i64_w, i32_w]
     rfl
    refine one_ (i := 8) (N := none) #[true, true, true, true, true, true, true, true, true] rfl rfl (one_of HT_.out (by kernel_rfl)) (by decide) (fun K hK => ?_)
    have hs44 : w43.cell? ⟨gb383, 0, none⟩ = some (.int .i64 0) := (kcq BK383.out 0).trans rfl
    have hfs44 := kfq BK383.out 0
    have hns44_0 := NB381_383.out
    have hns44_1 := NB382_383.out
    have hms44_0 := NB383_381.out
    have hms44_1 := NB383_382.out
    have hs46 : w43.cell? ⟨gb383, 1, none⟩ = some (.slice none 0 0) := (kcq BK383.out 1).trans rfl
    have hfs46 := kfq BK383.out 1
    have hns46_0 := NB381_383.out
    have hns46_1 := NB382_383.out
    have hms46_0 := NB383_381.out
    have hms46_1 := NB383_382.out
    refine skip_ (w1 := ?_) (by rfl) rfl ?_ ?_
    rotate_left
    ·go_simp
     rfl
    refine hK.out _ _ ⟨((cell_far (p := ⟨gb383, _, none⟩) NB381_383.out _).trans (((cell_far (p := ⟨gb383, _, none⟩) NB381_383.out _).trans (hHeld.1)))), ((cell_far (p := ⟨gb383, _, none⟩) NB381_383.out _).trans (((cell_far (p := ⟨gb383, _, none⟩) NB381_383.out _).trans (hHeld.2.1)))), ((cell_far (p := ⟨gb383, _, none⟩) NB382_383.out _).trans (((cell_far (p := ⟨gb383, _, none⟩) NB382_383.out _).trans (hHeld.2.2.1)))), ((cell_far (p := ⟨gb383, _, none⟩) NB382_383.out _).trans (((cell_far (p := ⟨gb383, _, none⟩) NB382_383.out _).trans (hHeld.2.2.2))))⟩ (fun hHeld => ?_)
    clear hK K
    refine done_ (done_of HT_.out (by kernel_rfl)) ?_
    try go_wp2
    refine bodyPost_ret (results_cell_row rfl _ _ gb383 29 #[.int .i64 t395, .slice Ao45 t396.length co45] (0, 0) _ rfl (by (with_reducible repeat (first | refine kdq ?_ _ | refine krq ?_ | refine kaq ?_ _)); refine blk_put (cs := #[.int .i64 t395, .slice none 0 0]) ?_ 1 _ rfl; (with_reducible repeat (first | refine kdq ?_ _ | refine krq ?_ | refine kaq ?_ _)); refine blk_put (cs := #[.int .i64 0, .slice none 0 0]) ?_ 0 _ rfl; (with_reducible repeat (first | refine kdq ?_ _ | refine krq ?_ | refine kaq ?_ _)); exact BK383.out) Try.underlying29 rfl (by kernel_rfl)) rfl ?_
    exact ⟨_, by first | rfl | (simp [errW_none, errW_some] <;> rfl) | (simp [*, errW_none, errW_some] <;> rfl), by (with_reducible repeat (first | apply Kd.R_alloc | apply Kd.R_drewN | apply Kd.R_drew)); exact Kd.R_mono (Kd.R_far (p := ⟨gb383, 1, none⟩) (Kd.R_far (p := ⟨gb383, 0, none⟩) (Kd.R_types HO398.out BK383.out (by decide)) (fun _ hk => hk.2) (.int .i64 t395)) (fun _ hk => hk.2) (.slice Ao45 t396.length co45)) (fun _ hk => trivial), by repeat (first | (with_reducible first | exact HB.out | apply waq | apply wdq | apply wrq | refine wsq ?_ GE381.out | refine wsq ?_ GE382.out | refine wsq ?_ GE383.out) | exact HB.out)⟩
   ·rw [if_neg c29] at H
    have c29b0 : (a0_0 == a1_0) = false := beq_eq_false_iff_ne.mpr c29
    have c29b1 : (a0_0 != a1_0) = true := bne_iff_ne.mpr c29
    replace H := Option.bind_eq_some_iff.mp H
    obtain ⟨t399, A470, H⟩ := H
    replace H : (if t399 ≥ 0 then ((spec_l02Minus.f k l0_1 l1_1).bind fun t400 => ((spec_l02Make.f k a0_0 t400).bind fun bt403 => (some (bt403.1, bt403.2)))) else ((spec_l02Minus.f k l1_1 l0_1).bind fun t407 => ((spec_l02Make.f k a1_0 t407).bind fun bt410 => (some (bt410.1, bt410.2))))) = some (r1, r2) := H
    have A47 := Azq.mk A470
    clear A470
    by_cases c48 : t399 ≥ 0
    ·rw [if_pos c48] at H
     have c48b0 : decide (0 ≤ t399) = true := decide_eq_true c48
     clear c48
     replace H := Option.bind_eq_some_iff.mp H
     obtain ⟨t400, A490, H⟩ := H
     replace H : ((spec_l02Make.f k a0_0 t400).bind fun bt403 => (some (bt403.1, bt403.2))) = some (r1, r2) := H
     have A49 := Azq.mk A490
     clear A490
     replace H := Option.bind_eq_some_iff.mp H
     obtain ⟨⟨t403, t404⟩, A500, H⟩ := H
     replace H : (some (t403, t404)) = some (r1, r2) := H
     have A50 := Azq.mk A500
     clear A500
     simp only [Option.some.injEq, Prod.mk.injEq] at H
     obtain ⟨rfl, rfl⟩ := H
     go_enter Try.func150, Try.ntmps150
     try go_wp2_with (first | ((with_reducible refine gate_dst (N := 2) rfl ?_); refine box_event ?hg (N := 2) ?hd (cs := #[.int .i64 a0_0, .slice A0_1 l0_1.length c0_1]) (t := 29) ?hr ?_; (case hd => rfl); (case hg => rfl); (case hr => first | (go_simp; done) | (go_simp; rfl)); intro gb381 hg w51 hbox hb; have n0_ := Azq.mk (wtq (by repeat (first | (with_reducible first | exact HB.out | apply waq | apply wdq | apply wrq) | exact HB.out)) hb); have n1_ := Azq.mk (hbox); have n2_ := Azq.mk ((by rw [hg]; exact (wzq (by repeat (first | (with_reducible first | exact HB.out | apply waq | apply wdq | apply wrq) | exact HB.out))) : w.heap.size ≤ gb381)); have n3_ := Azq.mk ((by rw [hg]; exact (wzq (by repeat (first | (with_reducible first | exact HB.out | apply waq | apply wdq | apply wrq) | exact HB.out))) : w.heap.size ≤ gb381)); clear HB; have HB := n0_; have BK381 := n1_; have GW381 := n2_; have GE381 := n3_; clear n0_ n1_ n2_ n3_; clear hb hbox hg) | ((with_reducible refine gate_dst (N := 3) rfl ?_); refine box_event ?hg (N := 3) ?hd (cs := #[.int .i64 a1_0, .slice A1_1 l1_1.length c1_1]) (t := 29) ?hr ?_; (case hd => rfl); (case hg => rfl); (case hr => first | (go_simp; done) | (go_simp; rfl)); intro gb382 hg w52 hbox hb; have n0_ := Azq.mk (kbq (g := gb381) (o := .cells #[.int .i64 a0_0, .slice A0_1 l0_1.length c0_1] 29 (0, 0)) (by (with_reducible repeat (first | refine kdq ?_ _ | refine krq ?_ | refine kaq ?_ _)); exact BK381.out) hb); have n1_ := Azq.mk (wtq (by repeat (first | (with_reducible first | exact HB.out | apply waq | apply wdq | apply wrq | refine wsq ?_ GE381.out) | exact HB.out)) hb); have n2_ := Azq.mk (hbox); have n3_ := Azq.mk ((by rw [hg]; exact (wzq (by repeat (first | (with_reducible first | exact HB.out | apply waq | apply wdq | apply wrq | refine wsq ?_ GE381.out) | exact HB.out))) : w.heap.size ≤ gb382)); have n4_ := Azq.mk ((by rw [hg]; exact (wzq (by repeat (first | (with_reducible first | exact HB.out | apply waq | apply wdq | apply wrq | refine wsq ?_ GE381.out) | exact HB.out))) : w.heap.size ≤ gb382)); have n5_ := Azq.mk ((by rw [hg]; exact Nat.ne_of_lt (klq (g := gb381) (o := .cells #[.int .i64 a0_0, .slice A0_1 l0_1.length c0_1] 29 (0, 0)) (by (with_reducible repeat (first | refine kdq ?_ _ | refine krq ?_ | refine kaq ?_ _)); exact BK381.out)) : gb381 ≠ gb382)); have n6_ := Azq.mk ((by rw [hg]; exact Nat.ne_of_gt (klq (g := gb381) (o := .cells #[.int .i64 a0_0, .slice A0_1 l0_1.length c0_1] 29 (0, 0)) (by (with_reducible repeat (first | refine kdq ?_ _ | refine krq ?_ | refine kaq ?_ _)); exact BK381.out)) : gb382 ≠ gb381)); clear BK381; clear HB; have BK381 := n0_; have HB := n1_; have BK382 := n2_; have GW382 := n3_; have GE382 := n4_; have NB381_382 := n5_; have NB382_381 := n6_; clear n0_ n1_ n2_ n3_ n4_ n5_ n6_; clear hb hbox hg) | ((with_reducible refine gate_dst (N := 4) rfl ?_); refine box_event ?hg (N := 4) ?hd (cs := #[.int .i64 0, .slice none 0 0]) (t := 29) ?hr ?_; (case hd => rfl); (case hg => rfl); (case hr => first | (go_simp; done) | (go_simp; rfl)); intro gb383 hg w53 hbox hb; have n0_ := Azq.mk (kbq (g := gb381) (o := .cells #[.int .i64 a0_0, .slice A0_1 l0_1.length c0_1] 29 (0, 0)) (by (with_reducible repeat (first | refine kdq ?_ _ | refine krq ?_ | refine kaq ?_ _)); exact BK381.out) hb); have n1_ := Azq.mk (kbq (g := gb382) (o := .cells #[.int .i64 a1_0, .slice A1_1 l1_1.length c1_1] 29 (0, 0)) (by (with_reducible repeat (first | refine kdq ?_ _ | refine krq ?_ | refine kaq ?_ _)); exact BK382.out) hb); have n2_ := Azq.mk (wtq (by repeat (first | (with_reducible first | exact HB.out | apply waq | apply wdq | apply wrq | refine wsq ?_ GE381.out | refine wsq ?_ GE382.out) | exact HB.out)) hb); have n3_ := Azq.mk (hbox); have n4_ := Azq.mk ((by rw [hg]; exact (wzq (by repeat (first | (with_reducible first | exact HB.out | apply waq | apply wdq | apply wrq | refine wsq ?_ GE381.out | refine wsq ?_ GE382.out) | exact HB.out))) : w.heap.size ≤ gb383)); have n5_ := Azq.mk ((by rw [hg]; exact (wzq (by repeat (first | (with_reducible first | exact HB.out | apply waq | apply wdq | apply wrq | refine wsq ?_ GE381.out | refine wsq ?_ GE382.out) | exact HB.out))) : w.heap.size ≤ gb383)); have n6_ := Azq.mk ((by rw [hg]; exact Nat.ne_of_lt (klq (g := gb381) (o := .cells #[.int .i64 a0_0, .slice A0_1 l0_1.length c0_1] 29 (0, 0)) (by (with_reducible repeat (first | refine kdq ?_ _ | refine krq ?_ | refine kaq ?_ _)); exact BK381.out)) : gb381 ≠ gb383)); have n7_ := Azq.mk ((by rw [hg]; exact Nat.ne_of_gt (klq (g := gb381) (o := .cells #[.int .i64 a0_0, .slice A0_1 l0_1.length c0_1] 29 (0, 0)) (by (with_reducible repeat (first | refine kdq ?_ _ | refine krq ?_ | refine kaq ?_ _)); exact BK381.out)) : gb383 ≠ gb381)); have n8_ := Azq.mk ((by rw [hg]; exact Nat.ne_of_lt (klq (g := gb382) (o := .cells #[.int .i64 a1_0, .slice A1_1 l1_1.length c1_1] 29 (0, 0)) (by (with_reducible repeat (first | refine kdq ?_ _ | refine krq ?_ | refine kaq ?_ _)); exact BK382.out)) : gb382 ≠ gb383)); have n9_ := Azq.mk ((by rw [hg]; exact Nat.ne_of_gt (klq (g := gb382) (o := .cells #[.int .i64 a1_0, .slice A1_1 l1_1.length c1_1] 29 (0, 0)) (by (with_reducible repeat (first | refine kdq ?_ _ | refine krq ?_ | refine kaq ?_ _)); exact BK382.out)) : gb383 ≠ gb382)); clear BK381; clear BK382; clear HB; have BK381 := n0_; have BK382 := n1_; have HB := n2_; have BK383 := n3_; have GW383 := n4_; have GE383 := n5_; have NB381_383 := n6_; have NB383_381 := n7_; have NB382_383 := n8_; have NB383_382 := n9_; clear n0_ n1_ n2_ n3_ n4_ n5_ n6_ n7_ n8_ n9_; clear hb hbox hg; have hnb54 := NB381_382.out; have hnc54 := NB382_381.out; have hnb55 := NB381_383.out; have hnc55 := NB383_381.out; have hcz56_0 : w53.cell? ⟨gb381, 0, none⟩ = some (.int .i64 a0_0) := (kcq BK381.out 0).trans rfl; have hcz56_1 : w53.cell? ⟨gb381, 1, none⟩ = some (.slice A0_1 l0_1.length c0_1) := (kcq BK381.out 1).trans rfl; have hfz56_0 := kfq BK381.out 0; have hfz56_1 := kfq BK381.out 1; have hnb57 := NB382_383.out; have hnc57 := NB383_382.out; have hcz58_0 : w53.cell? ⟨gb382, 0, none⟩ = some (.int .i64 a1_0) := (kcq BK382.out 0).trans rfl; have hcz58_1 : w53.cell? ⟨gb382, 1, none⟩ = some (.slice A1_1 l1_1.length c1_1) := (kcq BK382.out 1).trans rfl; have hfz58_0 := kfq BK382.out 0; have hfz58_1 := kfq BK382.out 1) | ((with_reducible refine gate_callee (f := 198) rfl ?_); refine goesL_ (some 42) rfl rfl Try.func198 (by kernel_rfl) rfl #[.slice A0_1 l0_1.length c0_1, .slice A1_1 l1_1.length c1_1] rfl (by (try simp only [List.map_toArray, List.map_cons, List.map_nil]); first | done | rfl | (simp only [List.length_drop, List.length_take]; rfl)) ?_; (with_reducible refine (spec_l02CompareLimbs.calls k _ _ l0_1 _ _ l1_1 t399 _ ?side1 ?side2 ?side3 ?side4 A47.out).mono ?_); (case side1 => repeat (first | exact (Kd.C_below HR0_1.out HB.out) | (with_reducible refine Kd.C_alloc ?_ _) | (with_reducible refine Kd.C_drewN ?_ _) | (with_reducible refine Kd.C_drew ?_))); (case side2 => exact HC0_1.out); (case side3 => repeat (first | exact (Kd.C_below HR1_1.out HB.out) | (with_reducible refine Kd.C_alloc ?_ _) | (with_reducible refine Kd.C_drewN ?_ _) | (with_reducible refine Kd.C_drew ?_))); (case side4 => exact HC1_1.out); rintro e w' ⟨rfl, ⟨nd, rfl⟩⟩; refine ⟨_, rfl, ?_⟩; (try (rw [drewN_self w53]; generalize hq_ : World.drewN w53 _ = w53; have n0_ : Azq (w53.heap[gb381]? = some (.cells #[.int .i64 a0_0, .slice A0_1 l0_1.length c0_1] 29 (0, 0))) := ⟨by rw [← hq_]; exact (by (with_reducible repeat (first | refine kdq ?_ _ | refine krq ?_ | refine kaq ?_ _)); exact BK381.out)⟩; have n1_ : Azq (w53.heap[gb382]? = some (.cells #[.int .i64 a1_0, .slice A1_1 l1_1.length c1_1] 29 (0, 0))) := ⟨by rw [← hq_]; exact (by (with_reducible repeat (first | refine kdq ?_ _ | refine krq ?_ | refine kaq ?_ _)); exact BK382.out)⟩; have n2_ : Azq (w53.heap[gb383]? = some (.cells #[.int .i64 0, .slice none 0 0] 29 (0, 0))) := ⟨by rw [← hq_]; exact (by (with_reducible repeat (first | refine kdq ?_ _ | refine krq ?_ | refine kaq ?_ _)); exact BK383.out)⟩; have n3_ : Azq (Below w.heap.size w w53) := ⟨by rw [← hq_]; exact (by repeat (first | (with_reducible first | exact HB.out | apply waq | apply wdq | apply wrq | refine wsq ?_ GE381.out | refine wsq ?_ GE382.out | refine wsq ?_ GE383.out) | exact HB.out))⟩; clear BK381 BK382 BK383 HB hq_; have BK381 := n0_; have BK382 := n1_; have BK383 := n2_; have HB := n3_; clear n0_ n1_ n2_ n3_))))
     have n0_ := Azq.mk (krq BK381.out)
     have n1_ := Azq.mk (krq BK382.out)
     have n2_ := Azq.mk (krq BK383.out)
     have n3_ := Azq.mk (wrq HB.out)
     clear BK381
     clear BK382
     clear BK383
     clear HB
     have BK381 := n0_
     have BK382 := n1_
     have BK383 := n2_
     have HB := n3_
     clear n0_ n1_ n2_ n3_
     refine start_ (n := 9) (S := fun w' => w'.cell? ⟨gb381, 0, none⟩ = some (.int .i64 a0_0) ∧ w'.cell? ⟨gb381, 1, none⟩ = some (.slice A0_1 l0_1.length c0_1) ∧ w'.cell? ⟨gb382, 0, none⟩ = some (.int .i64 a1_0) ∧ w'.cell? ⟨gb382, 1, none⟩ = some (.slice A1_1 l1_1.length c1_1)) (ds := []) #[false, false, false, false, false, false, false, false, false] (by kernel_rfl) rfl rfl ⟨(kcq BK381.out 0).trans rfl, (kcq BK381.out 1).trans rfl, (kcq BK382.out 0).trans rfl, (kcq BK382.out 1).trans rfl⟩ (fun hHeld => ?_); refine with_tabW spec_l02Add.tab8 spec_l02Add.bits8 (fun HT_ HW_ => ?_)
     generalize w53.drew = w59 at BK381 BK382 BK383 HB hHeld ⊢
     refine pure_ (i := 0) (N := some 44) (v := ?_) (a' := ?_) #[true, false, false, false, false, false, false, false, false] rfl rfl (any_of HT_.out (by kernel_rfl)) (fun _ _ _ h => h) (Or.inl ⟨by rfl, ?_⟩) ?_ ?_
     rotate_left
     ·intro w'
      go_simp
      with_reducible rfl
     rotate_left
     ·simp only [Act.put, List.setIfInBounds_toArray, List.set_cons_zero, List.set_cons_succ, i64_w, i32_w]
      rfl
     refine pure_ (i := 2) (N := some 46) (v := ?_) (a' := ?_) #[true, false, true, false, false, false, false, false, false] rfl rfl (any_of HT_.out (by kernel_rfl)) (fun _ _ _ h => h) (Or.inl ⟨by rfl, ?_⟩) ?_ ?_
     rotate_left
     ·intro w'
      go_simp
      with_reducible rfl
     rotate_left
     ·simp only [Act.put, List.setIfInBounds_toArray, List.set_cons_zero, List.set_cons_succ, i64_w, i32_w]
      rfl
     refine pure_ (i := 4) (N := some 48) (v := ?_) (a' := ?_) #[true, false, true, false, true, false, false, false, false] rfl rfl (any_of HT_.out (by kernel_rfl)) (fun _ _ _ h => h) (Or.inl ⟨by rfl, ?_⟩) ?_ ?_
     rotate_left
     ·intro w'
      go_simp
      with_reducible rfl
     rotate_left
     ·simp only [Act.put, List.setIfInBounds_toArray, List.set_cons_zero, List.set_cons_succ, i64_w, i32_w]
      rfl
     refine take_ (i := 1) (N := some 45) (v := ?_) (a' := ?_) #[true, true, true, false, true, false, false, false, false] rfl rfl (take_ofW HT_.out HW_.out (by kernel_rfl)) (fun _ _ _ h => h) (Or.inl ⟨by rfl, ?_⟩) hHeld ?_ ?_
     rotate_left
     ·rintro w' ⟨s0, s1, s2, s3⟩
      go_simp
      with_reducible rfl
     rotate_left
     ·simp only [Act.put, List.setIfInBounds_toArray, List.set_cons_zero, List.set_cons_succ, i64_w, i32_w]
      rfl
     refine take_ (i := 3) (N := some 47) (v := ?_) (a' := ?_) #[true, true, true, true, true, false, false, false, false] rfl rfl (take_ofW HT_.out HW_.out (by kernel_rfl)) (fun _ _ _ h => h) (Or.inl ⟨by rfl, ?_⟩) hHeld ?_ ?_
     rotate_left
     ·rintro w' ⟨s0, s1, s2, s3⟩
      go_simp
      with_reducible rfl
     rotate_left
     ·simp only [Act.put, List.setIfInBounds_toArray, List.set_cons_zero, List.set_cons_succ, i64_w, i32_w]
      rfl
     refine take_ (i := 5) (N := some 49) (v := ?_) (a' := ?_) #[true, true, true, true, true, true, false, false, false] rfl rfl (take_ofW HT_.out HW_.out (by kernel_rfl)) (fun _ _ _ h => h) (Or.inl ⟨by rfl, ?_⟩) hHeld ?_ ?_
     rotate_left
     ·rintro w' ⟨s0, s1, s2, s3⟩
      go_simp
      with_reducible rfl
     rotate_left
     ·simp only [Act.put, List.setIfInBounds_toArray, List.set_cons_zero, List.set_cons_succ, i64_w, i32_w]
      rfl
     refine one_ (i := 6) (N := some 50) #[true, true, true, true, true, true, true, false, false] rfl rfl (one_of HT_.out (by kernel_rfl)) (by decide) (fun K hK => ?_)
     refine goes_ Try.func199 (by kernel_rfl) rfl #[.slice A0_1 l0_1.length c0_1, .slice A1_1 l1_1.length c1_1] (by rfl) rfl rfl (by (try simp only [List.map_toArray, List.map_cons, List.map_nil]); first | done | rfl | (simp only [List.length_drop, List.length_take]; rfl)) ?_
     with_reducible refine (spec_l02Minus.calls k _ _ l0_1 _ _ l1_1 t400 _ ?side1 ?side2 ?side3 ?side4 A49.out).mono ?_
     (case side1 => repeat (first | exact (Kd.C_below HR0_1.out HB.out) | (with_reducible refine Kd.C_alloc ?_ _) | (with_reducible refine Kd.C_drewN ?_ _) | (with_reducible refine Kd.C_drew ?_)))
     (case side2 => exact HC0_1.out)
     (case side3 => repeat (first | exact (Kd.C_below HR1_1.out HB.out) | (with_reducible refine Kd.C_alloc ?_ _) | (with_reducible refine Kd.C_drewN ?_ _) | (with_reducible refine Kd.C_drew ?_)))
     (case side4 => exact HC1_1.out)
     rintro e w60 ⟨v401, rfl, ho0, hb⟩
     refine ⟨_, rfl, ?_⟩
     have n0_ := Azq.mk (Kd.R_lower ho0 (wzq (by repeat (first | (with_reducible first | exact HB.out | apply waq | apply wdq | apply wrq | refine wsq ?_ GE381.out | refine wsq ?_ GE382.out | refine wsq ?_ GE383.out) | exact HB.out))))
     have n1_ := Azq.mk (kbq (g := gb381) (o := .cells #[.int .i64 a0_0, .slice A0_1 l0_1.length c0_1] 29 (0, 0)) (by (with_reducible repeat (first | refine kdq ?_ _ | refine krq ?_ | refine kaq ?_ _)); exact BK381.out) hb)
     have n2_ := Azq.mk (kbq (g := gb382) (o := .cells #[.int .i64 a1_0, .slice A1_1 l1_1.length c1_1] 29 (0, 0)) (by (with_reducible repeat (first | refine kdq ?_ _ | refine krq ?_ | refine kaq ?_ _)); exact BK382.out) hb)
     have n3_ := Azq.mk (kbq (g := gb383) (o := .cells #[.int .i64 0, .slice none 0 0] 29 (0, 0)) (by (with_reducible repeat (first | refine kdq ?_ _ | refine krq ?_ | refine kaq ?_ _)); exact BK383.out) hb)
     have n4_ := Azq.mk (wtq (by repeat (first | (with_reducible first | exact HB.out | apply waq | apply wdq | apply wrq | refine wsq ?_ GE381.out | refine wsq ?_ GE382.out | refine wsq ?_ GE383.out) | exact HB.out)) hb)
     clear BK381
     clear BK382
     clear BK383
     clear HB
     have HO402 := n0_
     have BK381 := n1_
     have BK382 := n2_
     have BK383 := n3_
     have HB := n4_
     clear n0_ n1_ n2_ n3_ n4_
     (try clear hb)
     (try clear hb2)
     (try clear hk)
     (try clear hi)
     (try clear ho0)
     obtain ⟨Ao61, co61, eo61⟩ := Kd.R_slice HO402.out
     (first | subst eo61 | (injection eo61 with f1_ f2_ f3_; have f4_ := f1_.symm; have f5_ := f3_.symm; clear f1_ f2_ f3_; subst f4_; subst f5_))
     refine hK.out _ _ ⟨(kcq BK381.out 0).trans rfl, (kcq BK381.out 1).trans rfl, (kcq BK382.out 0).trans rfl, (kcq BK382.out 1).trans rfl⟩ (fun hHeld => ?_)
     clear hK K
     refine norm_ (a' := ?_) ?_ ?_
     rotate_left
     ·show Act.put _ (some 50) _ = _
      simp only [Act.put, List.setIfInBounds_toArray, List.set_cons_zero, List.set_cons_succ, i64_w, i32_w]
      rfl
     refine one_ (i := 7) (N := some 51) #[true, true, true, true, true, true, true, true, false] rfl rfl (one_of HT_.out (by kernel_rfl)) (by decide) (fun K hK => ?_)
     refine goes_ Try.func189 (by kernel_rfl) rfl #[.int .i64 a0_0, .slice Ao61 t400.length co61] (by rfl) rfl rfl (by (try simp only [List.map_toArray, List.map_cons, List.map_nil]); first | done | rfl | (simp only [List.length_drop, List.length_take]; rfl)) ?_
     with_reducible refine (spec_l02Make.calls k a0_0 _ _ t400 t403 t404 _ ?side1 ?side2 A50.out).mono ?_
     (case side1 => repeat (first | exact (Kd.R_reads' HO402.out).2.2 | (with_reducible refine Kd.C_alloc ?_ _) | (with_reducible refine Kd.C_drewN ?_ _) | (with_reducible refine Kd.C_drew ?_)))
     (case side2 => exact (Kd.R_reads' HO402.out).2.1)
     rintro e w62 ⟨v405, rfl, ho0, hb⟩
     refine ⟨_, rfl, ?_⟩
     have n0_ := Azq.mk (Kd.R_elder' (by (with_reducible repeat (first | apply Kd.R_alloc | apply Kd.R_drewN | apply Kd.R_drew)); exact HO402.out) (Kd.R_base ho0) hb)
     have n1_ := Azq.mk (Kd.R_lower (Kd.R_new' ho0 (Kd.R_lt (by (with_reducible repeat (first | apply Kd.R_alloc | apply Kd.R_drewN | apply Kd.R_drew)); exact HO402.out))) (wzq (by repeat (first | (with_reducible first | exact HB.out | apply waq | apply wdq | apply wrq | refine wsq ?_ GE381.out | refine wsq ?_ GE382.out | refine wsq ?_ GE383.out) | exact HB.out))))
     have n2_ := Azq.mk (kbq (g := gb381) (o := .cells #[.int .i64 a0_0, .slice A0_1 l0_1.length c0_1] 29 (0, 0)) (by (with_reducible repeat (first | refine kdq ?_ _ | refine krq ?_ | refine kaq ?_ _)); exact BK381.out) hb)
     have n3_ := Azq.mk (kbq (g := gb382) (o := .cells #[.int .i64 a1_0, .slice A1_1 l1_1.length c1_1] 29 (0, 0)) (by (with_reducible repeat (first | refine kdq ?_ _ | refine krq ?_ | refine kaq ?_ _)); exact BK382.out) hb)
     have n4_ := Azq.mk (kbq (g := gb383) (o := .cells #[.int .i64 0, .slice none 0 0] 29 (0, 0)) (by (with_reducible repeat (first | refine kdq ?_ _ | refine krq ?_ | refine kaq ?_ _)); exact BK383.out) hb)
     have n5_ := Azq.mk (wtq (by repeat (first | (with_reducible first | exact HB.out | apply waq | apply wdq | apply wrq | refine wsq ?_ GE381.out | refine wsq ?_ GE382.out | refine wsq ?_ GE383.out) | exact HB.out)) hb)
     clear HO402
     clear BK381
     clear BK382
     clear BK383
     clear HB
     have HO402 := n0_
     have HO406 := n1_
     have BK381 := n2_
     have BK382 := n3_
     have BK383 := n4_
     have HB := n5_
     clear n0_ n1_ n2_ n3_ n4_ n5_
     (try clear hb)
     (try clear hb2)
     (try clear hk)
     (try clear hi)
     (try clear ho0)
     obtain ⟨Ao64, co64, eo64⟩ := Kd.R_slice HO406.out
     (first | subst eo64 | (injection eo64 with f1_ f2_ f3_; have f4_ := f1_.symm; have f5_ := f3_.symm; clear f1_ f2_ f3_; subst f4_; subst f5_))
     refine hK.out _ _ ⟨(kcq BK381.out 0).trans rfl, (kcq BK381.out 1).trans rfl, (kcq BK382.out 0).trans rfl, (kcq BK382.out 1).trans rfl⟩ (fun hHeld => ?_)
     clear hK K
     refine norm_ (a' := ?_) ?_ ?_
     rotate_left
     ·show Act.put _ (some 51) _ = _
      simp only [Act.put, List.setIfInBounds_toArray, List.set_cons_zero, List.set_cons_succ, i64_w, i32_w]
      rfl
     refine one_ (i := 8) (N := none) #[true, true, true, true, true, true, true, true, true] rfl rfl (one_of HT_.out (by kernel_rfl)) (by decide) (fun K hK => ?_)
     have hs63 : w62.cell? ⟨gb383, 0, none⟩ = some (.int .i64 0) := (kcq BK383.out 0).trans rfl
     have hfs63 := kfq BK383.out 0
     have hns63_0 := NB381_383.out
     have hns63_1 := NB382_383.out
     have hms63_0 := NB383_381.out
     have hms63_1 := NB383_382.out
     have hs65 : w62.cell? ⟨gb383, 1, none⟩ = some (.slice none 0 0) := (kcq BK383.out 1).trans rfl
     have hfs65 := kfq BK383.out 1
     have hns65_0 := NB381_383.out
     have hns65_1 := NB382_383.out
     have hms65_0 := NB383_381.out
     have hms65_1 := NB383_382.out
     refine skip_ (w1 := ?_) (by rfl) rfl ?_ ?_
     rotate_left
     ·go_simp
      rfl
     refine hK.out _ _ ⟨((cell_far (p := ⟨gb383, _, none⟩) NB381_383.out _).trans (((cell_far (p := ⟨gb383, _, none⟩) NB381_383.out _).trans (hHeld.1)))), ((cell_far (p := ⟨gb383, _, none⟩) NB381_383.out _).trans (((cell_far (p := ⟨gb383, _, none⟩) NB381_383.out _).trans (hHeld.2.1)))), ((cell_far (p := ⟨gb383, _, none⟩) NB382_383.out _).trans (((cell_far (p := ⟨gb383, _, none⟩) NB382_383.out _).trans (hHeld.2.2.1)))), ((cell_far (p := ⟨gb383, _, none⟩) NB382_383.out _).trans (((cell_far (p := ⟨gb383, _, none⟩) NB382_383.out _).trans (hHeld.2.2.2))))⟩ (fun hHeld => ?_)
     clear hK K
     refine done_ (done_of HT_.out (by kernel_rfl)) ?_
     try go_wp2
     refine bodyPost_ret (results_cell_row rfl _ _ gb383 29 #[.int .i64 t403, .slice Ao64 t404.length co64] (0, 0) _ rfl (by (with_reducible repeat (first | refine kdq ?_ _ | refine krq ?_ | refine kaq ?_ _)); refine blk_put (cs := #[.int .i64 t403, .slice none 0 0]) ?_ 1 _ rfl; (with_reducible repeat (first | refine kdq ?_ _ | refine krq ?_ | refine kaq ?_ _)); refine blk_put (cs := #[.int .i64 0, .slice none 0 0]) ?_ 0 _ rfl; (with_reducible repeat (first | refine kdq ?_ _ | refine krq ?_ | refine kaq ?_ _)); exact BK383.out) Try.underlying29 rfl (by kernel_rfl)) rfl ?_
     exact ⟨_, by first | rfl | (simp [errW_none, errW_some] <;> rfl) | (simp [*, errW_none, errW_some] <;> rfl), by (with_reducible repeat (first | apply Kd.R_alloc | apply Kd.R_drewN | apply Kd.R_drew)); exact Kd.R_mono (Kd.R_far (p := ⟨gb383, 1, none⟩) (Kd.R_far (p := ⟨gb383, 0, none⟩) (Kd.R_types HO406.out BK383.out (by decide)) (fun _ hk => hk.2) (.int .i64 t403)) (fun _ hk => hk.2) (.slice Ao64 t404.length co64)) (fun _ hk => trivial), by repeat (first | (with_reducible first | exact HB.out | apply waq | apply wdq | apply wrq | refine wsq ?_ GE381.out | refine wsq ?_ GE382.out | refine wsq ?_ GE383.out) | exact HB.out)⟩
    ·rw [if_neg c48] at H
     have c48b0 : decide (0 ≤ t399) = false := decide_eq_false c48
     clear c48
     replace H := Option.bind_eq_some_iff.mp H
     obtain ⟨t407, A660, H⟩ := H
     replace H : ((spec_l02Make.f k a1_0 t407).bind fun bt410 => (some (bt410.1, bt410.2))) = some (r1, r2) := H
     have A66 := Azq.mk A660
     clear A660
     replace H := Option.bind_eq_some_iff.mp H
     obtain ⟨⟨t410, t411⟩, A670, H⟩ := H
     replace H : (some (t410, t411)) = some (r1, r2) := H
     have A67 := Azq.mk A670
     clear A670
     simp only [Option.some.injEq, Prod.mk.injEq] at H
     obtain ⟨rfl, rfl⟩ := H
     go_enter Try.func150, Try.ntmps150
     try go_wp2_with (first | ((with_reducible refine gate_dst (N := 2) rfl ?_); refine box_event ?hg (N := 2) ?hd (cs := #[.int .i64 a0_0, .slice A0_1 l0_1.length c0_1]) (t := 29) ?hr ?_; (case hd => rfl); (case hg => rfl); (case hr => first | (go_simp; done) | (go_simp; rfl)); intro gb381 hg w68 hbox hb; have n0_ := Azq.mk (wtq (by repeat (first | (with_reducible first | exact HB.out | apply waq | apply wdq | apply wrq) | exact HB.out)) hb); have n1_ := Azq.mk (hbox); have n2_ := Azq.mk ((by rw [hg]; exact (wzq (by repeat (first | (with_reducible first | exact HB.out | apply waq | apply wdq | apply wrq) | exact HB.out))) : w.heap.size ≤ gb381)); have n3_ := Azq.mk ((by rw [hg]; exact (wzq (by repeat (first | (with_reducible first | exact HB.out | apply waq | apply wdq | apply wrq) | exact HB.out))) : w.heap.size ≤ gb381)); clear HB; have HB := n0_; have BK381 := n1_; have GW381 := n2_; have GE381 := n3_; clear n0_ n1_ n2_ n3_; clear hb hbox hg) | ((with_reducible refine gate_dst (N := 3) rfl ?_); refine box_event ?hg (N := 3) ?hd (cs := #[.int .i64 a1_0, .slice A1_1 l1_1.length c1_1]) (t := 29) ?hr ?_; (case hd => rfl); (case hg => rfl); (case hr => first | (go_simp; done) | (go_simp; rfl)); intro gb382 hg w69 hbox hb; have n0_ := Azq.mk (kbq (g := gb381) (o := .cells #[.int .i64 a0_0, .slice A0_1 l0_1.length c0_1] 29 (0, 0)) (by (with_reducible repeat (first | refine kdq ?_ _ | refine krq ?_ | refine kaq ?_ _)); exact BK381.out) hb); have n1_ := Azq.mk (wtq (by repeat (first | (with_reducible first | exact HB.out | apply waq | apply wdq | apply wrq | refine wsq ?_ GE381.out) | exact HB.out)) hb); have n2_ := Azq.mk (hbox); have n3_ := Azq.mk ((by rw [hg]; exact (wzq (by repeat (first | (with_reducible first | exact HB.out | apply waq | apply wdq | apply wrq | refine wsq ?_ GE381.out) | exact HB.out))) : w.heap.size ≤ gb382)); have n4_ := Azq.mk ((by rw [hg]; exact (wzq (by repeat (first | (with_reducible first | exact HB.out | apply waq | apply wdq | apply wrq | refine wsq ?_ GE381.out) | exact HB.out))) : w.heap.size ≤ gb382)); have n5_ := Azq.mk ((by rw [hg]; exact Nat.ne_of_lt (klq (g := gb381) (o := .cells #[.int .i64 a0_0, .slice A0_1 l0_1.length c0_1] 29 (0, 0)) (by (with_reducible repeat (first | refine kdq ?_ _ | refine krq ?_ | refine kaq ?_ _)); exact BK381.out)) : gb381 ≠ gb382)); have n6_ := Azq.mk ((by rw [hg]; exact Nat.ne_of_gt (klq (g := gb381) (o := .cells #[.int .i64 a0_0, .slice A0_1 l0_1.length c0_1] 29 (0, 0)) (by (with_reducible repeat (first | refine kdq ?_ _ | refine krq ?_ | refine kaq ?_ _)); exact BK381.out)) : gb382 ≠ gb381)); clear BK381; clear HB; have BK381 := n0_; have HB := n1_; have BK382 := n2_; have GW382 := n3_; have GE382 := n4_; have NB381_382 := n5_; have NB382_381 := n6_; clear n0_ n1_ n2_ n3_ n4_ n5_ n6_; clear hb hbox hg) | ((with_reducible refine gate_dst (N := 4) rfl ?_); refine box_event ?hg (N := 4) ?hd (cs := #[.int .i64 0, .slice none 0 0]) (t := 29) ?hr ?_; (case hd => rfl); (case hg => rfl); (case hr => first | (go_simp; done) | (go_simp; rfl)); intro gb383 hg w70 hbox hb; have n0_ := Azq.mk (kbq (g := gb381) (o := .cells #[.int .i64 a0_0, .slice A0_1 l0_1.length c0_1] 29 (0, 0)) (by (with_reducible repeat (first | refine kdq ?_ _ | refine krq ?_ | refine kaq ?_ _)); exact BK381.out) hb); have n1_ := Azq.mk (kbq (g := gb382) (o := .cells #[.int .i64 a1_0, .slice A1_1 l1_1.length c1_1] 29 (0, 0)) (by (with_reducible repeat (first | refine kdq ?_ _ | refine krq ?_ | refine kaq ?_ _)); exact BK382.out) hb); have n2_ := Azq.mk (wtq (by repeat (first | (with_reducible first | exact HB.out | apply waq | apply wdq | apply wrq | refine wsq ?_ GE381.out | refine wsq ?_ GE382.out) | exact HB.out)) hb); have n3_ := Azq.mk (hbox); have n4_ := Azq.mk ((by rw [hg]; exact (wzq (by repeat (first | (with_reducible first | exact HB.out | apply waq | apply wdq | apply wrq | refine wsq ?_ GE381.out | refine wsq ?_ GE382.out) | exact HB.out))) : w.heap.size ≤ gb383)); have n5_ := Azq.mk ((by rw [hg]; exact (wzq (by repeat (first | (with_reducible first | exact HB.out | apply waq | apply wdq | apply wrq | refine wsq ?_ GE381.out | refine wsq ?_ GE382.out) | exact HB.out))) : w.heap.size ≤ gb383)); have n6_ := Azq.mk ((by rw [hg]; exact Nat.ne_of_lt (klq (g := gb381) (o := .cells #[.int .i64 a0_0, .slice A0_1 l0_1.length c0_1] 29 (0, 0)) (by (with_reducible repeat (first | refine kdq ?_ _ | refine krq ?_ | refine kaq ?_ _)); exact BK381.out)) : gb381 ≠ gb383)); have n7_ := Azq.mk ((by rw [hg]; exact Nat.ne_of_gt (klq (g := gb381) (o := .cells #[.int .i64 a0_0, .slice A0_1 l0_1.length c0_1] 29 (0, 0)) (by (with_reducible repeat (first | refine kdq ?_ _ | refine krq ?_ | refine kaq ?_ _)); exact BK381.out)) : gb383 ≠ gb381)); have n8_ := Azq.mk ((by rw [hg]; exact Nat.ne_of_lt (klq (g := gb382) (o := .cells #[.int .i64 a1_0, .slice A1_1 l1_1.length c1_1] 29 (0, 0)) (by (with_reducible repeat (first | refine kdq ?_ _ | refine krq ?_ | refine kaq ?_ _)); exact BK382.out)) : gb382 ≠ gb383)); have n9_ := Azq.mk ((by rw [hg]; exact Nat.ne_of_gt (klq (g := gb382) (o := .cells #[.int .i64 a1_0, .slice A1_1 l1_1.length c1_1] 29 (0, 0)) (by (with_reducible repeat (first | refine kdq ?_ _ | refine krq ?_ | refine kaq ?_ _)); exact BK382.out)) : gb383 ≠ gb382)); clear BK381; clear BK382; clear HB; have BK381 := n0_; have BK382 := n1_; have HB := n2_; have BK383 := n3_; have GW383 := n4_; have GE383 := n5_; have NB381_383 := n6_; have NB383_381 := n7_; have NB382_383 := n8_; have NB383_382 := n9_; clear n0_ n1_ n2_ n3_ n4_ n5_ n6_ n7_ n8_ n9_; clear hb hbox hg; have hnb71 := NB381_382.out; have hnc71 := NB382_381.out; have hnb72 := NB381_383.out; have hnc72 := NB383_381.out; have hcz73_0 : w70.cell? ⟨gb381, 0, none⟩ = some (.int .i64 a0_0) := (kcq BK381.out 0).trans rfl; have hcz73_1 : w70.cell? ⟨gb381, 1, none⟩ = some (.slice A0_1 l0_1.length c0_1) := (kcq BK381.out 1).trans rfl; have hfz73_0 := kfq BK381.out 0; have hfz73_1 := kfq BK381.out 1; have hnb74 := NB382_383.out; have hnc74 := NB383_382.out; have hcz75_0 : w70.cell? ⟨gb382, 0, none⟩ = some (.int .i64 a1_0) := (kcq BK382.out 0).trans rfl; have hcz75_1 : w70.cell? ⟨gb382, 1, none⟩ = some (.slice A1_1 l1_1.length c1_1) := (kcq BK382.out 1).trans rfl; have hfz75_0 := kfq BK382.out 0; have hfz75_1 := kfq BK382.out 1) | ((with_reducible refine gate_callee (f := 198) rfl ?_); refine goesL_ (some 42) rfl rfl Try.func198 (by kernel_rfl) rfl #[.slice A0_1 l0_1.length c0_1, .slice A1_1 l1_1.length c1_1] rfl (by (try simp only [List.map_toArray, List.map_cons, List.map_nil]); first | done | rfl | (simp only [List.length_drop, List.length_take]; rfl)) ?_; (with_reducible refine (spec_l02CompareLimbs.calls k _ _ l0_1 _ _ l1_1 t399 _ ?side1 ?side2 ?side3 ?side4 A47.out).mono ?_); (case side1 => repeat (first | exact (Kd.C_below HR0_1.out HB.out) | (with_reducible refine Kd.C_alloc ?_ _) | (with_reducible refine Kd.C_drewN ?_ _) | (with_reducible refine Kd.C_drew ?_))); (case side2 => exact HC0_1.out); (case side3 => repeat (first | exact (Kd.C_below HR1_1.out HB.out) | (with_reducible refine Kd.C_alloc ?_ _) | (with_reducible refine Kd.C_drewN ?_ _) | (with_reducible refine Kd.C_drew ?_))); (case side4 => exact HC1_1.out); rintro e w' ⟨rfl, ⟨nd, rfl⟩⟩; refine ⟨_, rfl, ?_⟩; (try (rw [drewN_self w70]; generalize hq_ : World.drewN w70 _ = w70; have n0_ : Azq (w70.heap[gb381]? = some (.cells #[.int .i64 a0_0, .slice A0_1 l0_1.length c0_1] 29 (0, 0))) := ⟨by rw [← hq_]; exact (by (with_reducible repeat (first | refine kdq ?_ _ | refine krq ?_ | refine kaq ?_ _)); exact BK381.out)⟩; have n1_ : Azq (w70.heap[gb382]? = some (.cells #[.int .i64 a1_0, .slice A1_1 l1_1.length c1_1] 29 (0, 0))) := ⟨by rw [← hq_]; exact (by (with_reducible repeat (first | refine kdq ?_ _ | refine krq ?_ | refine kaq ?_ _)); exact BK382.out)⟩; have n2_ : Azq (w70.heap[gb383]? = some (.cells #[.int .i64 0, .slice none 0 0] 29 (0, 0))) := ⟨by rw [← hq_]; exact (by (with_reducible repeat (first | refine kdq ?_ _ | refine krq ?_ | refine kaq ?_ _)); exact BK383.out)⟩; have n3_ : Azq (Below w.heap.size w w70) := ⟨by rw [← hq_]; exact (by repeat (first | (with_reducible first | exact HB.out | apply waq | apply wdq | apply wrq | refine wsq ?_ GE381.out | refine wsq ?_ GE382.out | refine wsq ?_ GE383.out) | exact HB.out))⟩; clear BK381 BK382 BK383 HB hq_; have BK381 := n0_; have BK382 := n1_; have BK383 := n2_; have HB := n3_; clear n0_ n1_ n2_ n3_))))
     have n0_ := Azq.mk (krq BK381.out)
     have n1_ := Azq.mk (krq BK382.out)
     have n2_ := Azq.mk (krq BK383.out)
     have n3_ := Azq.mk (wrq HB.out)
     clear BK381
     clear BK382
     clear BK383
     clear HB
     have BK381 := n0_
     have BK382 := n1_
     have BK383 := n2_
     have HB := n3_
     clear n0_ n1_ n2_ n3_
     refine start_ (n := 9) (S := fun w' => w'.cell? ⟨gb382, 0, none⟩ = some (.int .i64 a1_0) ∧ w'.cell? ⟨gb382, 1, none⟩ = some (.slice A1_1 l1_1.length c1_1) ∧ w'.cell? ⟨gb381, 0, none⟩ = some (.int .i64 a0_0) ∧ w'.cell? ⟨gb381, 1, none⟩ = some (.slice A0_1 l0_1.length c0_1)) (ds := []) #[false, false, false, false, false, false, false, false, false] (by kernel_rfl) rfl rfl ⟨(kcq BK382.out 0).trans rfl, (kcq BK382.out 1).trans rfl, (kcq BK381.out 0).trans rfl, (kcq BK381.out 1).trans rfl⟩ (fun hHeld => ?_); refine with_tabW spec_l02Add.tab9 spec_l02Add.bits9 (fun HT_ HW_ => ?_)
     generalize w70.drew = w76 at BK381 BK382 BK383 HB hHeld ⊢
     refine pure_ (i := 0) (N := some 52) (v := ?_) (a' := ?_) #[true, false, false, false, false, false, false, false, false] rfl rfl (any_of HT_.out (by kernel_rfl)) (fun _ _ _ h => h) (Or.inl ⟨by rfl, ?_⟩) ?_ ?_
     rotate_left
     ·intro w'
      go_simp
      with_reducible rfl
     rotate_left
     ·simp only [Act.put, List.setIfInBounds_toArray, List.set_cons_zero, List.set_cons_succ, i64_w, i32_w]
      rfl
     refine pure_ (i := 2) (N := some 54) (v := ?_) (a' := ?_) #[true, false, true, false, false, false, false, false, false] rfl rfl (any_of HT_.out (by kernel_rfl)) (fun _ _ _ h => h) (Or.inl ⟨by rfl, ?_⟩) ?_ ?_
     rotate_left
     ·intro w'
      go_simp
      with_reducible rfl
     rotate_left
     ·simp only [Act.put, List.setIfInBounds_toArray, List.set_cons_zero, List.set_cons_succ, i64_w, i32_w]
      rfl
     refine pure_ (i := 4) (N := some 56) (v := ?_) (a' := ?_) #[true, false, true, false, true, false, false, false, false] rfl rfl (any_of HT_.out (by kernel_rfl)) (fun _ _ _ h => h) (Or.inl ⟨by rfl, ?_⟩) ?_ ?_
     rotate_left
     ·intro w'
      go_simp
      with_reducible rfl
     rotate_left
     ·simp only [Act.put, List.setIfInBounds_toArray, List.set_cons_zero, List.set_cons_succ, i64_w, i32_w]
      rfl
     refine take_ (i := 1) (N := some 53) (v := ?_) (a' := ?_) #[true, true, true, false, true, false, false, false, false] rfl rfl (take_ofW HT_.out HW_.out (by kernel_rfl)) (fun _ _ _ h => h) (Or.inl ⟨by rfl, ?_⟩) hHeld ?_ ?_
     rotate_left
     ·rintro w' ⟨s0, s1, s2, s3⟩
      go_simp
      with_reducible rfl
     rotate_left
     ·simp only [Act.put, List.setIfInBounds_toArray, List.set_cons_zero, List.set_cons_succ, i64_w, i32_w]
      rfl
     refine take_ (i := 3) (N := some 55) (v := ?_) (a' := ?_) #[true, true, true, true, true, false, false, false, false] rfl rfl (take_ofW HT_.out HW_.out (by kernel_rfl)) (fun _ _ _ h => h) (Or.inl ⟨by rfl, ?_⟩) hHeld ?_ ?_
     rotate_left
     ·rintro w' ⟨s0, s1, s2, s3⟩
      go_simp
      with_reducible rfl
     rotate_left
     ·simp only [Act.put, List.setIfInBounds_toArray, List.set_cons_zero, List.set_cons_succ, i64_w, i32_w]
      rfl
     refine take_ (i := 5) (N := some 57) (v := ?_) (a' := ?_) #[true, true, true, true, true, true, false, false, false] rfl rfl (take_ofW HT_.out HW_.out (by kernel_rfl)) (fun _ _ _ h => h) (Or.inl ⟨by rfl, ?_⟩) hHeld ?_ ?_
     rotate_left
     ·rintro w' ⟨s0, s1, s2, s3⟩
      go_simp
      with_reducible rfl
     rotate_left
     ·simp only [Act.put, List.setIfInBounds_toArray, List.set_cons_zero, List.set_cons_succ, i64_w, i32_w]
      rfl
     refine one_ (i := 6) (N := some 58) #[true, true, true, true, true, true, true, false, false] rfl rfl (one_of HT_.out (by kernel_rfl)) (by decide) (fun K hK => ?_)
     refine goes_ Try.func199 (by kernel_rfl) rfl #[.slice A1_1 l1_1.length c1_1, .slice A0_1 l0_1.length c0_1] (by rfl) rfl rfl (by (try simp only [List.map_toArray, List.map_cons, List.map_nil]); first | done | rfl | (simp only [List.length_drop, List.length_take]; rfl)) ?_
     with_reducible refine (spec_l02Minus.calls k _ _ l1_1 _ _ l0_1 t407 _ ?side1 ?side2 ?side3 ?side4 A66.out).mono ?_
     (case side1 => repeat (first | exact (Kd.C_below HR1_1.out HB.out) | (with_reducible refine Kd.C_alloc ?_ _) | (with_reducible refine Kd.C_drewN ?_ _) | (with_reducible refine Kd.C_drew ?_)))
     (case side2 => exact HC1_1.out)
     (case side3 => repeat (first | exact (Kd.C_below HR0_1.out HB.out) | (with_reducible refine Kd.C_alloc ?_ _) | (with_reducible refine Kd.C_drewN ?_ _) | (with_reducible refine Kd.C_drew ?_)))
     (case side4 => exact HC0_1.out)
     rintro e w77 ⟨v408, rfl, ho0, hb⟩
     refine ⟨_, rfl, ?_⟩
     have n0_ := Azq.mk (Kd.R_lower ho0 (wzq (by repeat (first | (with_reducible first | exact HB.out | apply waq | apply wdq | apply wrq | refine wsq ?_ GE381.out | refine wsq ?_ GE382.out | refine wsq ?_ GE383.out) | exact HB.out))))
     have n1_ := Azq.mk (kbq (g := gb381) (o := .cells #[.int .i64 a0_0, .slice A0_1 l0_1.length c0_1] 29 (0, 0)) (by (with_reducible repeat (first | refine kdq ?_ _ | refine krq ?_ | refine kaq ?_ _)); exact BK381.out) hb)
     have n2_ := Azq.mk (kbq (g := gb382) (o := .cells #[.int .i64 a1_0, .slice A1_1 l1_1.length c1_1] 29 (0, 0)) (by (with_reducible repeat (first | refine kdq ?_ _ | refine krq ?_ | refine kaq ?_ _)); exact BK382.out) hb)
     have n3_ := Azq.mk (kbq (g := gb383) (o := .cells #[.int .i64 0, .slice none 0 0] 29 (0, 0)) (by (with_reducible repeat (first | refine kdq ?_ _ | refine krq ?_ | refine kaq ?_ _)); exact BK383.out) hb)
     have n4_ := Azq.mk (wtq (by repeat (first | (with_reducible first | exact HB.out | apply waq | apply wdq | apply wrq | refine wsq ?_ GE381.out | refine wsq ?_ GE382.out | refine wsq ?_ GE383.out) | exact HB.out)) hb)
     clear BK381
     clear BK382
     clear BK383
     clear HB
     have HO409 := n0_
     have BK381 := n1_
     have BK382 := n2_
     have BK383 := n3_
     have HB := n4_
     clear n0_ n1_ n2_ n3_ n4_
     (try clear hb)
     (try clear hb2)
     (try clear hk)
     (try clear hi)
     (try clear ho0)
     obtain ⟨Ao78, co78, eo78⟩ := Kd.R_slice HO409.out
     (first | subst eo78 | (injection eo78 with f1_ f2_ f3_; have f4_ := f1_.symm; have f5_ := f3_.symm; clear f1_ f2_ f3_; subst f4_; subst f5_))
     refine hK.out _ _ ⟨(kcq BK382.out 0).trans rfl, (kcq BK382.out 1).trans rfl, (kcq BK381.out 0).trans rfl, (kcq BK381.out 1).trans rfl⟩ (fun hHeld => ?_)
     clear hK K
     refine norm_ (a' := ?_) ?_ ?_
     rotate_left
     ·show Act.put _ (some 58) _ = _
      simp only [Act.put, List.setIfInBounds_toArray, List.set_cons_zero, List.set_cons_succ, i64_w, i32_w]
      rfl
     refine one_ (i := 7) (N := some 59) #[true, true, true, true, true, true, true, true, false] rfl rfl (one_of HT_.out (by kernel_rfl)) (by decide) (fun K hK => ?_)
     refine goes_ Try.func189 (by kernel_rfl) rfl #[.int .i64 a1_0, .slice Ao78 t407.length co78] (by rfl) rfl rfl (by (try simp only [List.map_toArray, List.map_cons, List.map_nil]); first | done | rfl | (simp only [List.length_drop, List.length_take]; rfl)) ?_
     with_reducible refine (spec_l02Make.calls k a1_0 _ _ t407 t410 t411 _ ?side1 ?side2 A67.out).mono ?_
     (case side1 => repeat (first | exact (Kd.R_reads' HO409.out).2.2 | (with_reducible refine Kd.C_alloc ?_ _) | (with_reducible refine Kd.C_drewN ?_ _) | (with_reducible refine Kd.C_drew ?_)))
     (case side2 => exact (Kd.R_reads' HO409.out).2.1)
     rintro e w79 ⟨v412, rfl, ho0, hb⟩
     refine ⟨_, rfl, ?_⟩
     have n0_ := Azq.mk (Kd.R_elder' (by (with_reducible repeat (first | apply Kd.R_alloc | apply Kd.R_drewN | apply Kd.R_drew)); exact HO409.out) (Kd.R_base ho0) hb)
     have n1_ := Azq.mk (Kd.R_lower (Kd.R_new' ho0 (Kd.R_lt (by (with_reducible repeat (first | apply Kd.R_alloc | apply Kd.R_drewN | apply Kd.R_drew)); exact HO409.out))) (wzq (by repeat (first | (with_reducible first | exact HB.out | apply waq | apply wdq | apply wrq | refine wsq ?_ GE381.out | refine wsq ?_ GE382.out | refine wsq ?_ GE383.out) | exact HB.out))))
     have n2_ := Azq.mk (kbq (g := gb381) (o := .cells #[.int .i64 a0_0, .slice A0_1 l0_1.length c0_1] 29 (0, 0)) (by (with_reducible repeat (first | refine kdq ?_ _ | refine krq ?_ | refine kaq ?_ _)); exact BK381.out) hb)
     have n3_ := Azq.mk (kbq (g := gb382) (o := .cells #[.int .i64 a1_0, .slice A1_1 l1_1.length c1_1] 29 (0, 0)) (by (with_reducible repeat (first | refine kdq ?_ _ | refine krq ?_ | refine kaq ?_ _)); exact BK382.out) hb)
     have n4_ := Azq.mk (kbq (g := gb383) (o := .cells #[.int .i64 0, .slice none 0 0] 29 (0, 0)) (by (with_reducible repeat (first | refine kdq ?_ _ | refine krq ?_ | refine kaq ?_ _)); exact BK383.out) hb)
     have n5_ := Azq.mk (wtq (by repeat (first | (with_reducible first | exact HB.out | apply waq | apply wdq | apply wrq | refine wsq ?_ GE381.out | refine wsq ?_ GE382.out | refine wsq ?_ GE383.out) | exact HB.out)) hb)
     clear HO409
     clear BK381
     clear BK382
     clear BK383
     clear HB
     have HO409 := n0_
     have HO413 := n1_
     have BK381 := n2_
     have BK382 := n3_
     have BK383 := n4_
     have HB := n5_
     clear n0_ n1_ n2_ n3_ n4_ n5_
     (try clear hb)
     (try clear hb2)
     (try clear hk)
     (try clear hi)
     (try clear ho0)
     obtain ⟨Ao81, co81, eo81⟩ := Kd.R_slice HO413.out
     (first | subst eo81 | (injection eo81 with f1_ f2_ f3_; have f4_ := f1_.symm; have f5_ := f3_.symm; clear f1_ f2_ f3_; subst f4_; subst f5_))
     refine hK.out _ _ ⟨(kcq BK382.out 0).trans rfl, (kcq BK382.out 1).trans rfl, (kcq BK381.out 0).trans rfl, (kcq BK381.out 1).trans rfl⟩ (fun hHeld => ?_)
     clear hK K
     refine norm_ (a' := ?_) ?_ ?_
     rotate_left
     ·show Act.put _ (some 59) _ = _
      simp only [Act.put, List.setIfInBounds_toArray, List.set_cons_zero, List.set_cons_succ, i64_w, i32_w]
      rfl
     refine one_ (i := 8) (N := none) #[true, true, true, true, true, true, true, true, true] rfl rfl (one_of HT_.out (by kernel_rfl)) (by decide) (fun K hK => ?_)
     have hs80 : w79.cell? ⟨gb383, 0, none⟩ = some (.int .i64 0) := (kcq BK383.out 0).trans rfl
     have hfs80 := kfq BK383.out 0
     have hns80_0 := NB381_383.out
     have hns80_1 := NB382_383.out
     have hms80_0 := NB383_381.out
     have hms80_1 := NB383_382.out
     have hs82 : w79.cell? ⟨gb383, 1, none⟩ = some (.slice none 0 0) := (kcq BK383.out 1).trans rfl
     have hfs82 := kfq BK383.out 1
     have hns82_0 := NB381_383.out
     have hns82_1 := NB382_383.out
     have hms82_0 := NB383_381.out
     have hms82_1 := NB383_382.out
     refine skip_ (w1 := ?_) (by rfl) rfl ?_ ?_
     rotate_left
     ·go_simp
      rfl
     refine hK.out _ _ ⟨((cell_far (p := ⟨gb383, _, none⟩) NB382_383.out _).trans (((cell_far (p := ⟨gb383, _, none⟩) NB382_383.out _).trans (hHeld.1)))), ((cell_far (p := ⟨gb383, _, none⟩) NB382_383.out _).trans (((cell_far (p := ⟨gb383, _, none⟩) NB382_383.out _).trans (hHeld.2.1)))), ((cell_far (p := ⟨gb383, _, none⟩) NB381_383.out _).trans (((cell_far (p := ⟨gb383, _, none⟩) NB381_383.out _).trans (hHeld.2.2.1)))), ((cell_far (p := ⟨gb383, _, none⟩) NB381_383.out _).trans (((cell_far (p := ⟨gb383, _, none⟩) NB381_383.out _).trans (hHeld.2.2.2))))⟩ (fun hHeld => ?_)
     clear hK K
     refine done_ (done_of HT_.out (by kernel_rfl)) ?_
     try go_wp2
     refine bodyPost_ret (results_cell_row rfl _ _ gb383 29 #[.int .i64 t410, .slice Ao81 t411.length co81] (0, 0) _ rfl (by (with_reducible repeat (first | refine kdq ?_ _ | refine krq ?_ | refine kaq ?_ _)); refine blk_put (cs := #[.int .i64 t410, .slice none 0 0]) ?_ 1 _ rfl; (with_reducible repeat (first | refine kdq ?_ _ | refine krq ?_ | refine kaq ?_ _)); refine blk_put (cs := #[.int .i64 0, .slice none 0 0]) ?_ 0 _ rfl; (with_reducible repeat (first | refine kdq ?_ _ | refine krq ?_ | refine kaq ?_ _)); exact BK383.out) Try.underlying29 rfl (by kernel_rfl)) rfl ?_
     exact ⟨_, by first | rfl | (simp [errW_none, errW_some] <;> rfl) | (simp [*, errW_none, errW_some] <;> rfl), by (with_reducible repeat (first | apply Kd.R_alloc | apply Kd.R_drewN | apply Kd.R_drew)); exact Kd.R_mono (Kd.R_far (p := ⟨gb383, 1, none⟩) (Kd.R_far (p := ⟨gb383, 0, none⟩) (Kd.R_types HO413.out BK383.out (by decide)) (fun _ hk => hk.2) (.int .i64 t410)) (fun _ hk => hk.2) (.slice Ao81 t411.length co81)) (fun _ hk => trivial), by repeat (first | (with_reducible first | exact HB.out | apply waq | apply wdq | apply wrq | refine wsq ?_ GE381.out | refine wsq ?_ GE382.out | refine wsq ?_ GE383.out) | exact HB.out)⟩
end Go.Proofs.Ytdboepiobaehkaa.PW
end
section
namespace Go.Proofs.Ytdboepiobaehkaa.PW
open Go.RowKit Go.Proofs.YtdboepiobaehkaaW.PrintWords Go.Proofs.YtdboepiobaehkaaW.PrintLast Go.Proofs.YtdboepiobaehkaaW.PrintMore
attribute [local go_sem] max2_int min2_int max_two min_two max_three min_three max_four min_four   -- for this text's walks alone
set_option linter.unusedVariables false
set_option linter.unusedSimpArgs false
def spec_l02Left.l0 : Nat → Int → List Int → Int → Int → Int → List Int → Option (Int × List Int)
 | 0, _, _, _, _, _, _ => none
 | k + 1, x1, x5, x6, x7, x415000, x415001 => if x7 < (x415001.length : Int) then (if 0 ≤ x7 then (if 0 ≤ (IntKind.u64.wrap (Int.tmod x1 24)) then (if x5.length < 17592186044416 then (spec_l02Left.l0 k x1 (x5 ++ [Int.tmod (wrap64 (x6 + (shl .i64 (rd x415001 x7) (IntKind.u64.wrap (Int.tmod x1 24))))) 16777216]) (wrap64 (Int.tdiv (wrap64 (x6 + (shl .i64 (rd x415001 x7) (IntKind.u64.wrap (Int.tmod x1 24))))) 16777216)) (wrap64 (x7 + 1)) x415000 x415001) else (none)) else (none)) else (none)) else (if x5.length < 17592186044416 then ((spec_l02Make.f k x415000 (x5 ++ [x6])).bind fun bt426 => (some (bt426.1, bt426.2))) else (none))
def spec_l02Left.f (k : Nat) (a0_0 : Int) (l0_1 : List Int) (a1 : Int) : Option (Int × List Int) := if 0 ≤ (wrap64 (Int.tdiv a1 24)) then (if (wrap64 (Int.tdiv a1 24) : Int).toNat ≤ 35184372088832 then (spec_l02Left.l0 k a1 (List.replicate (wrap64 (Int.tdiv a1 24) : Int).toNat 0) 0 0 a0_0 l0_1) else (none)) else (none)
theorem spec_l02Left.mono_l : ∀ k, (∀ y0 y1 y2 y3 y4 y5, LeO (spec_l02Left.l0 k y0 y1 y2 y3 y4 y5) (spec_l02Left.l0 (k + 1) y0 y1 y2 y3 y4 y5))
 | 0 => fun _ _ _ _ _ _ r h => by simp [spec_l02Left.l0] at h
 | k + 1 => by
  have ih0 := spec_l02Left.mono_l k
  ·intro y0 y1 y2 y3 y4 y5
   unfold spec_l02Left.l0
   repeat' first
   | (with_reducible exact ih0 _ _ _ _ _ _)
   | (with_reducible exact spec_l02Make.mono _ _ _)
   | (with_reducible exact LeO.refl _)
   | (with_reducible exact LeO.none _)
   | (with_reducible refine LeO.ite ?_ ?_)
   | (with_reducible refine LeO.bind ?_ (fun _ => ?_))
   | exact ih0 _ _ _ _ _ _
   | exact spec_l02Make.mono _ _ _
   | exact LeO.none _
   | refine LeO.ite ?_ ?_
   | refine LeO.bind ?_ (fun _ => ?_)
theorem spec_l02Left.mono : ∀ a0 a1 a2 k, LeO (spec_l02Left.f k a0 a1 a2) (spec_l02Left.f (k + 1) a0 a1 a2) := by
 intro a0 a1 a2 k
 have ih0 := spec_l02Left.mono_l k
 unfold spec_l02Left.f
 repeat' first
   | (with_reducible exact ih0 _ _ _ _ _ _)
   | (with_reducible exact spec_l02Make.mono _ _ _)
   | (with_reducible exact LeO.refl _)
   | (with_reducible exact LeO.none _)
   | (with_reducible refine LeO.ite ?_ ?_)
   | (with_reducible refine LeO.bind ?_ (fun _ => ?_))
   | exact ih0 _ _ _ _ _ _
   | exact spec_l02Make.mono _ _ _
   | exact LeO.none _
   | refine LeO.ite ?_ ?_
   | refine LeO.bind ?_ (fun _ => ?_)
def spec_l02Left.T9 : Bool × List (List Nat × List Nat) := (true, [([], []), ([0], [0]), ([], []), ([], []), ([3], [3]), ([2, 4], [2, 4]), ([1, 5, 5], [1, 5]), ([6, 6, 0, 1, 2, 3, 4, 5, 6], [6])])
def spec_l02Left.B9 : List Nat := [0, 1, 0, 0, 8, 28, 63, 127]
theorem spec_l02Left.tab9 : rtab .any (opsOf Try.f151 9) = spec_l02Left.T9 := by kernel_rfl
theorem spec_l02Left.bits9 : waitsOk spec_l02Left.T9.2 spec_l02Left.B9 = true := by kernel_rfl
set_option maxHeartbeats 8000000 in
set_option maxRecDepth 100000 in
theorem spec_l02Left.calls (k : Nat) (a0_0 : Int) (A0_1 : Option Addr) (c0_1 : Nat) (l0_1 : List Int) (a1 : Int) (r1 : Int) (r2 : List Int) (w : World) (hr0_1 : Kd.C (Kd.int .i64) w A0_1 l0_1.length l0_1) (hc0_1 : l0_1.length ≤ c0_1) (h : spec_l02Left.f k a0_0 l0_1 a1 = some (r1, r2)) :
  Calls Try.prog 151 #[.agg #[.int .i64 a0_0, .slice A0_1 l0_1.length c0_1], .int .i64 a1] w fun e w' => ∃ v1_ : Value, e = .returned (.agg #[.int .i64 r1, v1_]) ∧ Kd.R (Kd.int .i64) 2 w' w.heap.size (fun _ => True) v1_ r2 ∧ Below w.heap.size w w' := by
 have hu29 := Try.underlying29
 have HR0_1 := Azq.mk hr0_1
 have HC0_1 := Azq.mk hc0_1
 clear hr0_1 hc0_1
 have HB := Azq.mk (Below.refl w.heap.size w)
 have H : (if 0 ≤ (wrap64 (Int.tdiv a1 24)) then (if (wrap64 (Int.tdiv a1 24) : Int).toNat ≤ 35184372088832 then (spec_l02Left.l0 k a1 (List.replicate (wrap64 (Int.tdiv a1 24) : Int).toNat 0) 0 0 a0_0 l0_1) else (none)) else (none)) = some (r1, r2) := h
 clear h
 obtain ⟨ji3, hji3⟩ : ∃ j_ : Int, (wrap64 (Int.tdiv a1 24)) = j_ := ⟨_, rfl⟩
 replace H : (if 0 ≤ (ji3) then (if (ji3 : Int).toNat ≤ 35184372088832 then (spec_l02Left.l0 k a1 (List.replicate (ji3 : Int).toNat 0) 0 0 a0_0 l0_1) else (none)) else (none)) = some (r1, r2) := by first | (rw [hji3] at H; exact H) | (simp only [hji3] at H ⊢; exact H)
 have hji3w : (IntKind.i64.wrap (Int.tdiv a1 24)) = ji3 := (i64_w _).trans hji3
 by_cases c4 : 0 ≤ (ji3)
 ·rw [if_pos c4] at H
  have c4b0 := eq_true c4
  have c4b1 : decide (0 ≤ (ji3)) = true := decide_eq_true c4
  clear c4
  by_cases c5 : (ji3 : Int).toNat ≤ 35184372088832
  ·rw [if_pos c5] at H
   have c5b0 := eq_true c5
   have c5b1 : decide ((ji3 : Int).toNat ≤ 35184372088832) = true := decide_eq_true c5
   clear c5
   obtain ⟨y416, hy416⟩ : ∃ y_ : List Int, y_ = (List.replicate (ji3 : Int).toNat 0) := ⟨_, rfl⟩
   replace H : (spec_l02Left.l0 k a1 y416 0 0 a0_0 l0_1) = some (r1, r2) := by first | (rw [hy416]; with_reducible exact H) | (have H2_ := (Option.bind_some _ _).symm.trans H; rw [hy416]; with_reducible exact H2_) | (have H2_ := (Option.bind_some _ _).symm.trans H; with_reducible exact H2_) | with_reducible exact H | (rw [hy416]; exact H) | exact H
   have Ny416 := Azq.mk hy416
   clear hy416
   have H' := Azq.mk H
   clear H
   go_enter Try.func151, Try.ntmps151
   go_wp2_with (first | ((with_reducible refine gate_dst (N := 2) rfl ?_); refine box_event ?hg (N := 2) ?hd (cs := #[.int .i64 a0_0, .slice A0_1 l0_1.length c0_1]) (t := 29) ?hr ?_; (case hd => rfl); (case hg => rfl); (case hr => first | (go_simp; done) | (go_simp; rfl)); intro gb414 hg w6 hbox hb; have n0_ := Azq.mk (wtq (by repeat (first | (with_reducible first | exact HB.out | apply waq | apply wdq | apply wrq) | exact HB.out)) hb); have n1_ := Azq.mk (hbox); have n2_ := Azq.mk ((by rw [hg]; exact (wzq (by repeat (first | (with_reducible first | exact HB.out | apply waq | apply wdq | apply wrq) | exact HB.out))) : w.heap.size ≤ gb414)); have n3_ := Azq.mk ((by rw [hg]; exact (wzq (by repeat (first | (with_reducible first | exact HB.out | apply waq | apply wdq | apply wrq) | exact HB.out))) : w.heap.size ≤ gb414)); clear HB; have HB := n0_; have BK414 := n1_; have GW414 := n2_; have GE414 := n3_; clear n0_ n1_ n2_ n3_; clear hb hbox hg) | ((with_reducible refine gate_dst (N := 4) rfl ?_); refine box_event ?hg (N := 4) ?hd (cs := #[.int .i64 0, .slice none 0 0]) (t := 29) ?hr ?_; (case hd => rfl); (case hg => rfl); (case hr => first | (go_simp; done) | (go_simp; rfl)); intro gb415 hg w7 hbox hb; have n0_ := Azq.mk (kbq (g := gb414) (o := .cells #[.int .i64 a0_0, .slice A0_1 l0_1.length c0_1] 29 (0, 0)) (by (with_reducible repeat (first | refine kdq ?_ _ | refine krq ?_ | refine kaq ?_ _)); exact BK414.out) hb); have n1_ := Azq.mk (wtq (by repeat (first | (with_reducible first | exact HB.out | apply waq | apply wdq | apply wrq | refine wsq ?_ GE414.out) | exact HB.out)) hb); have n2_ := Azq.mk (hbox); have n3_ := Azq.mk ((by rw [hg]; exact (wzq (by repeat (first | (with_reducible first | exact HB.out | apply waq | apply wdq | apply wrq | refine wsq ?_ GE414.out) | exact HB.out))) : w.heap.size ≤ gb415)); have n4_ := Azq.mk ((by rw [hg]; exact (wzq (by repeat (first | (with_reducible first | exact HB.out | apply waq | apply wdq | apply wrq | refine wsq ?_ GE414.out) | exact HB.out))) : w.heap.size ≤ gb415)); have n5_ := Azq.mk ((by rw [hg]; exact Nat.ne_of_lt (klq (g := gb414) (o := .cells #[.int .i64 a0_0, .slice A0_1 l0_1.length c0_1] 29 (0, 0)) (by (with_reducible repeat (first | refine kdq ?_ _ | refine krq ?_ | refine kaq ?_ _)); exact BK414.out)) : gb414 ≠ gb415)); have n6_ := Azq.mk ((by rw [hg]; exact Nat.ne_of_gt (klq (g := gb414) (o := .cells #[.int .i64 a0_0, .slice A0_1 l0_1.length c0_1] 29 (0, 0)) (by (with_reducible repeat (first | refine kdq ?_ _ | refine krq ?_ | refine kaq ?_ _)); exact BK414.out)) : gb415 ≠ gb414)); clear BK414; clear HB; have BK414 := n0_; have HB := n1_; have BK415 := n2_; have GW415 := n3_; have GE415 := n4_; have NB414_415 := n5_; have NB415_414 := n6_; clear n0_ n1_ n2_ n3_ n4_ n5_ n6_; clear hb hbox hg) | ((with_reducible refine gate_dst (N := 10) rfl ?_); refine Kd.R_make (Kd.int .i64) _ 2 rfl (N := 10) rfl 22 _ _ rfl ji3 rfl rfl Try.underlying22 (.int .i64 0) 8 info2 rfl (by decide) (by omega) 0 (ok := fun _ => True) (okp := fun _ => True) rfl (fun _ hk => hk) trivial (of_decide_eq_true (by first | (with_reducible assumption) | assumption)) (Nat.le_trans (Nat.mul_le_mul_right _ (of_decide_eq_true (by first | (with_reducible assumption) | assumption) : ji3.toNat ≤ 35184372088832)) (by omega)) (Below.refl _ _) (Nat.le_refl _) ?_; intro v417 w8 ho9 hb hg_ hnew_; clear hg_ hnew_; (first | rw [← Ny416.out] at ho9 | (simp only [Int.reduceToNat] at ho9; rw [← Ny416.out] at ho9)); have n0_ := Azq.mk (Kd.R_lower ho9 (wzq (by repeat (first | (with_reducible first | exact HB.out | apply waq | apply wdq | apply wrq | refine wsq ?_ GE414.out | refine wsq ?_ GE415.out) | exact HB.out)))); have n1_ := Azq.mk (kbq (g := gb414) (o := .cells #[.int .i64 a0_0, .slice A0_1 l0_1.length c0_1] 29 (0, 0)) (by (with_reducible repeat (first | refine kdq ?_ _ | refine krq ?_ | refine kaq ?_ _)); exact BK414.out) hb); have n2_ := Azq.mk (kbq (g := gb415) (o := .cells #[.int .i64 0, .slice none 0 0] 29 (0, 0)) (by (with_reducible repeat (first | refine kdq ?_ _ | refine krq ?_ | refine kaq ?_ _)); exact BK415.out) hb); have n3_ := Azq.mk (wtq (by repeat (first | (with_reducible first | exact HB.out | apply waq | apply wdq | apply wrq | refine wsq ?_ GE414.out | refine wsq ?_ GE415.out) | exact HB.out)) hb); clear BK414; clear BK415; clear HB; have HO418 := n0_; have BK414 := n1_; have BK415 := n2_; have HB := n3_; clear n0_ n1_ n2_ n3_; clear hb ho9))
   go_loopg [5, 6, 7] k (fun kq v5 v6 v7 w' => ∃ (x5_1 : List Int) (x6_1 : Int) (x7_1 : Int), v6 = .int .i64 x6_1 ∧ v7 = .int .i64 x7_1 ∧ Azq (spec_l02Left.l0 kq a1 x5_1 x6_1 x7_1 a0_0 l0_1 = some (r1, r2)) ∧ Azq (kq ≤ k) ∧ Azq (Kd.R (Kd.int .i64) 2 w' w.heap.size (fun _ => True) v5 x5_1) ∧ Azq (w'.heap[gb414]? = some (.cells #[.int .i64 a0_0, (.slice A0_1 l0_1.length c0_1)] 29 (0, 0))) ∧ Azq (w'.heap[gb415]? = some (.cells #[.int .i64 0, (.slice none 0 0)] 29 (0, 0))) ∧ Azq (Below w.heap.size w w'))
   case atStart => exact ⟨(y416), (0), (0), (by first | rfl | (simp; done) | (simp [*]; done)), (by first | rfl | (simp; done) | (simp [*]; done)), H', ⟨Nat.le_refl _⟩, ⟨by (with_reducible repeat (first | apply Kd.R_alloc | apply Kd.R_drewN | apply Kd.R_drew)); exact HO418.out⟩, ⟨by (with_reducible repeat (first | refine kdq ?_ _ | refine krq ?_ | refine kaq ?_ _)); exact BK414.out⟩, ⟨by (with_reducible repeat (first | refine kdq ?_ _ | refine krq ?_ | refine kaq ?_ _)); exact BK415.out⟩, ⟨by repeat (first | (with_reducible first | exact HB.out | apply waq | apply wdq | apply wrq | refine wsq ?_ GE414.out | refine wsq ?_ GE415.out) | exact HB.out)⟩⟩
   case round =>
    clear H'
    try clear c1
    try clear p2
    try clear c4
    try clear c4b0
    try clear c4b1
    try clear c5
    try clear c5b0
    try clear c5b1
    try clear p6
    obtain ⟨x5_1, x6_1, x7_1, rfl, rfl, HA, HK1, HO_5, BK414, BK415, HB⟩ := hrel
    cases gk with
    | zero => exact absurd HA.out (by simp [spec_l02Left.l0])
    | succ k1 =>
     have H := HA.out
     clear HA
     simp only [spec_l02Left.l0] at H
     by_cases c10 : x7_1 < (l0_1.length : Int)
     ·rw [if_pos c10] at H
      have c10b0 : decide (x7_1 < (l0_1.length : Int)) = true := decide_eq_true c10
      clear c10
      by_cases c11 : 0 ≤ x7_1
      ·rw [if_pos c11] at H
       have c11b0 : decide (0 ≤ x7_1) = true := decide_eq_true c11
       clear c11
       obtain ⟨ji12, hji12⟩ : ∃ j_ : Int, (IntKind.u64.wrap (Int.tmod a1 24)) = j_ := ⟨_, rfl⟩
       replace H : (if 0 ≤ (ji12) then (if x5_1.length < 17592186044416 then (spec_l02Left.l0 k1 a1 (x5_1 ++ [Int.tmod (wrap64 (x6_1 + (shl .i64 (rd l0_1 x7_1) (ji12)))) 16777216]) (wrap64 (Int.tdiv (wrap64 (x6_1 + (shl .i64 (rd l0_1 x7_1) (ji12)))) 16777216)) (wrap64 (x7_1 + 1)) a0_0 l0_1) else (none)) else (none)) = some (r1, r2) := by first | (rw [hji12] at H; exact H) | (simp only [hji12] at H ⊢; exact H)
       by_cases c13 : 0 ≤ (ji12)
       ·rw [if_pos c13] at H
        have c13b0 := eq_true c13
        have c13b1 : decide (0 ≤ (ji12)) = true := decide_eq_true c13
        clear c13
        obtain ⟨ji14, hji14⟩ : ∃ j_ : Int, (shl .i64 (rd l0_1 x7_1) (ji12)) = j_ := ⟨_, rfl⟩
        replace H : (if x5_1.length < 17592186044416 then (spec_l02Left.l0 k1 a1 (x5_1 ++ [Int.tmod (wrap64 (x6_1 + (ji14))) 16777216]) (wrap64 (Int.tdiv (wrap64 (x6_1 + (ji14))) 16777216)) (wrap64 (x7_1 + 1)) a0_0 l0_1) else (none)) = some (r1, r2) := by first | (rw [hji14] at H; exact H) | (simp only [hji14] at H ⊢; exact H)
        have hji14_ : (IntKind.i64.wrap ((rd l0_1 x7_1) * 2 ^ min (ji12).toNat 64)) = ji14 := hji14
        have hji14z : (ji12) ≤ 64 → (IntKind.i64.wrap ((rd l0_1 x7_1) * 2 ^ (ji12).toNat)) = ji14 := shl_small hji14
        have hji14y : (wrap64 ((rd l0_1 x7_1) * 2 ^ min (ji12).toNat 64)) = ji14 := (i64_w _).symm.trans hji14_
        have hji14x : (ji12) ≤ 64 → (wrap64 ((rd l0_1 x7_1) * 2 ^ (ji12).toNat)) = ji14 := fun h_ => (i64_w _).symm.trans (hji14z h_)
        by_cases c15 : x5_1.length < 17592186044416
        ·rw [if_pos c15] at H
         have LMc15 := Azq.mk c15
         clear c15
         obtain ⟨y420, hy420⟩ : ∃ y_ : List Int, y_ = (x5_1 ++ [Int.tmod (wrap64 (x6_1 + (ji14))) 16777216]) := ⟨_, rfl⟩
         replace H : (spec_l02Left.l0 k1 a1 y420 (wrap64 (Int.tdiv (wrap64 (x6_1 + (ji14))) 16777216)) (wrap64 (x7_1 + 1)) a0_0 l0_1) = some (r1, r2) := by first | (rw [hy420]; with_reducible exact H) | (have H2_ := (Option.bind_some _ _).symm.trans H; rw [hy420]; with_reducible exact H2_) | (have H2_ := (Option.bind_some _ _).symm.trans H; with_reducible exact H2_) | with_reducible exact H | (rw [hy420]; exact H) | exact H
         have Ny420 := Azq.mk hy420
         clear hy420
         have H' := Azq.mk H
         clear H
         have hnb16 := NB414_415.out
         have hnc16 := NB415_414.out
         have hcz17_0 : wr.cell? ⟨gb414, 0, none⟩ = some (.int .i64 a0_0) := (kcq BK414.out 0).trans rfl
         have hcz17_1 : wr.cell? ⟨gb414, 1, none⟩ = some (.slice A0_1 l0_1.length c0_1) := (kcq BK414.out 1).trans rfl
         have hfz17_0 := kfq BK414.out 0
         have hfz17_1 := kfq BK414.out 1
         have p419 : 0 ≤ (x7_1 : Int) := of_decide_eq_true (by first | (with_reducible assumption) | assumption)
         have q419 : x7_1 < (l0_1.length : Int) := of_decide_eq_true (by first | (with_reducible assumption) | assumption)
         obtain ⟨ad419, e419, hx419_0⟩ := Kd.at_int HR0_1.out x7_1 p419 q419
         cases e419
         replace hx419_0 := (HB.out.cell (World.block_lt_of_cell? w _ hx419_0)).trans hx419_0
         replace p419 := eq_true p419
         replace q419 := eq_true q419
         go_wp2_with (first | ((with_reducible refine gate_builtin (b := .append) (xs := #[.tmp 29, .tmp 32]) rfl ?_); at_builtin; refine Kd.R_append (Kd.int .i64) (w0 := w) w.heap.size rfl (.tmp 29) (.tmp 32) 22 2 (.int .i64 0) 8 rfl Try.underlying22 info2 rfl (by decide) (by omega) u5 x5_1 (Int.tmod (wrap64 (x6_1 + (ji14))) 16777216) [.int .i64 (Int.tmod (wrap64 (x6_1 + (ji14))) 16777216)] (fun _ => True) (fun _ => False) rfl rfl ?aP (fun _ hk => hk.elim) ?aF ?aO ?aB ?aS ?aL ?_; (case aP => exact rfl); (case aB => exact (by repeat (first | (with_reducible first | exact HB.out | apply waq | apply wdq | apply wrq | refine wsq ?_ GE414.out | refine wsq ?_ GE415.out) | exact HB.out))); (case aF => exact (fun _ _ => trivial)); (case aO => exact (by (with_reducible repeat (first | apply Kd.R_alloc | apply Kd.R_drewN | apply Kd.R_drew)); exact HO_5.out)); (case aS => exact (wzq (by repeat (first | (with_reducible first | exact HB.out | apply waq | apply wdq | apply wrq | refine wsq ?_ GE414.out | refine wsq ?_ GE415.out) | exact HB.out)))); (case aL => have := LMc15.out; omega); intro v421 w18 ho hb hg hat; rw [← Ny420.out] at ho; have n0_ := Azq.mk (blk_grown (g := gb414) (o := .cells #[.int .i64 a0_0, .slice (some ad419) l0_1.length c0_1] 29 (0, 0)) (by (with_reducible repeat (first | refine kdq ?_ _ | refine krq ?_ | refine kaq ?_ _)); exact BK414.out) hg (Kd.R_ne HO_5.out BK414.out (by decide))); have n1_ := Azq.mk (blk_grown (g := gb415) (o := .cells #[.int .i64 0, .slice none 0 0] 29 (0, 0)) (by (with_reducible repeat (first | refine kdq ?_ _ | refine krq ?_ | refine kaq ?_ _)); exact BK415.out) hg (Kd.R_ne HO_5.out BK415.out (by decide))); have n2_ := Azq.mk (hb); have n3_ := Azq.mk (ho); clear BK414; clear BK415; clear HB; clear HO_5; have BK414 := n0_; have BK415 := n1_; have HB := n2_; have HO422 := n3_; clear n0_ n1_ n2_ n3_; clear ho hb hg hat))
         go_roundg k1
         case measure => have := HK1.out; omega
         case rel => exact ⟨(y420), (wrap64 (Int.tdiv (wrap64 (x6_1 + (ji14))) 16777216)), (wrap64 (x7_1 + 1)), (by first | rfl | (simp; done) | (simp only [← hji14] <;> (first | rfl | simp)) | (simp [*]; done)), (by first | rfl | (simp; done) | (simp [*]; done)), H', ⟨by have := HK1.out; omega⟩, ⟨by (with_reducible repeat (first | apply Kd.R_alloc | apply Kd.R_drewN | apply Kd.R_drew)); exact HO422.out⟩, ⟨by (with_reducible repeat (first | refine kdq ?_ _ | refine krq ?_ | refine kaq ?_ _)); exact BK414.out⟩, ⟨by (with_reducible repeat (first | refine kdq ?_ _ | refine krq ?_ | refine kaq ?_ _)); exact BK415.out⟩, ⟨by repeat (first | (with_reducible first | exact HB.out | apply waq | apply wdq | apply wrq | refine wsq ?_ GE414.out | refine wsq ?_ GE415.out) | exact HB.out)⟩⟩
        ·rw [if_neg c15] at H
         exact absurd H (by simp)
       ·rw [if_neg c13] at H
        exact absurd H (by simp)
      ·rw [if_neg c11] at H
       exact absurd H (by simp)
     ·rw [if_neg c10] at H
      have c10b0 : decide (x7_1 < (l0_1.length : Int)) = false := decide_eq_false c10
      clear c10
      by_cases c19 : x5_1.length < 17592186044416
      ·rw [if_pos c19] at H
       have LMc19 := Azq.mk c19
       clear c19
       obtain ⟨y423, hy423⟩ : ∃ y_ : List Int, y_ = (x5_1 ++ [x6_1]) := ⟨_, rfl⟩
       replace H : ((spec_l02Make.f k1 a0_0 y423).bind fun bt426 => (some (bt426.1, bt426.2))) = some (r1, r2) := by first | (rw [hy423]; with_reducible exact H) | (have H2_ := (Option.bind_some _ _).symm.trans H; rw [hy423]; with_reducible exact H2_) | (have H2_ := (Option.bind_some _ _).symm.trans H; with_reducible exact H2_) | with_reducible exact H | (rw [hy423]; exact H) | exact H
       have Ny423 := Azq.mk hy423
       clear hy423
       replace H := Option.bind_eq_some_iff.mp H
       obtain ⟨⟨t426, t427⟩, A200, H⟩ := H
       replace H : (some (t426, t427)) = some (r1, r2) := H
       have A20 := Azq.mk A200
       clear A200
       simp only [Option.some.injEq, Prod.mk.injEq] at H
       obtain ⟨rfl, rfl⟩ := H
       have hnb21 := NB414_415.out
       have hnc21 := NB415_414.out
       have hcz22_0 : wr.cell? ⟨gb414, 0, none⟩ = some (.int .i64 a0_0) := (kcq BK414.out 0).trans rfl
       have hcz22_1 : wr.cell? ⟨gb414, 1, none⟩ = some (.slice A0_1 l0_1.length c0_1) := (kcq BK414.out 1).trans rfl
       have hfz22_0 := kfq BK414.out 0
       have hfz22_1 := kfq BK414.out 1
       try go_wp2
       have n0_ := Azq.mk (Kd.R_drew HO_5.out)
       have n1_ := Azq.mk (krq BK414.out)
       have n2_ := Azq.mk (krq BK415.out)
       have n3_ := Azq.mk (wrq HB.out)
       clear HO_5
       clear BK414
       clear BK415
       clear HB
       have HO_5 := n0_
       have BK414 := n1_
       have BK415 := n2_
       have HB := n3_
       clear n0_ n1_ n2_ n3_
       refine start_ (n := 8) (S := fun w' => w'.cell? ⟨gb414, 0, none⟩ = some (.int .i64 a0_0) ∧ w'.cell? ⟨gb414, 1, none⟩ = some (.slice A0_1 l0_1.length c0_1)) (ds := []) #[false, false, false, false, false, false, false, false] (by kernel_rfl) rfl rfl ⟨(kcq BK414.out 0).trans rfl, (kcq BK414.out 1).trans rfl⟩ (fun hHeld => ?_); refine with_tabW spec_l02Left.tab9 spec_l02Left.bits9 (fun HT_ HW_ => ?_)
       generalize wr.drew = w23 at HO_5 BK414 BK415 HB hHeld ⊢
       refine pure_ (i := 0) (N := some 36) (v := ?_) (a' := ?_) #[true, false, false, false, false, false, false, false] rfl rfl (any_of HT_.out (by kernel_rfl)) (fun _ _ _ h => h) (Or.inl ⟨by rfl, ?_⟩) ?_ ?_
       rotate_left
       ·intro w'
        go_simp
        with_reducible rfl
       rotate_left
       ·simp only [Act.put, List.setIfInBounds_toArray, List.set_cons_zero, List.set_cons_succ, i64_w, i32_w]
        rfl
       refine pure_ (i := 2) (N := some 38) (v := ?_) (a' := ?_) #[true, false, true, false, false, false, false, false] rfl rfl (any_of HT_.out (by kernel_rfl)) (fun _ _ _ h => h) (Or.inl ⟨by rfl, ?_⟩) ?_ ?_
       rotate_left
       ·intro w'
        go_simp
        with_reducible rfl
       rotate_left
       ·simp only [Act.put, List.setIfInBounds_toArray, List.set_cons_zero, List.set_cons_succ, i64_w, i32_w]
        rfl
       refine pure_ (i := 3) (N := some 39) (v := ?_) (a' := ?_) #[true, false, true, true, false, false, false, false] rfl rfl (any_of HT_.out (by kernel_rfl)) (fun _ _ _ h => h) (Or.inl ⟨by rfl, ?_⟩) ?_ ?_
       rotate_left
       ·intro w'
        go_simp
        with_reducible rfl
       rotate_left
       ·simp only [Act.put, List.setIfInBounds_toArray, List.set_cons_zero, List.set_cons_succ, i64_w, i32_w]
        rfl
       refine take_ (i := 1) (N := some 37) (v := ?_) (a' := ?_) #[true, true, true, true, false, false, false, false] rfl rfl (take_ofW HT_.out HW_.out (by kernel_rfl)) (fun _ _ _ h => h) (Or.inl ⟨by rfl, ?_⟩) hHeld ?_ ?_
       rotate_left
       ·rintro w' ⟨s0, s1⟩
        go_simp
        with_reducible rfl
       rotate_left
       ·simp only [Act.put, List.setIfInBounds_toArray, List.set_cons_zero, List.set_cons_succ, i64_w, i32_w]
        rfl
       refine one_ (i := 4) (N := some 40) #[true, true, true, true, true, false, false, false] rfl rfl (one_of HT_.out (by kernel_rfl)) (by decide) (fun K hK => ?_)
       refine value_ (w1 := ?_) (v := ?_) (by rfl) rfl ?_ ?_
       rotate_left 2
       ·go_simp
        constructor
        ·rfl
        ·rfl
       refine hK.out _ _ ⟨(kcq (kaq BK414.out _) 0).trans rfl, (kcq (kaq BK414.out _) 1).trans rfl⟩ (fun hHeld => ?_)
       clear hK K
       refine norm_ (a' := ?_) ?_ ?_
       rotate_left
       ·show Act.put _ (some 40) _ = _
        simp only [Act.put, List.setIfInBounds_toArray, List.set_cons_zero, List.set_cons_succ, i64_w, i32_w]
        rfl
       refine one_ (i := 5) (N := some 41) #[true, true, true, true, true, true, false, false] rfl rfl (one_of HT_.out (by kernel_rfl)) (by decide) (fun K hK => ?_)
       refine Kd.R_append_step (Kd.int .i64) (w0 := w) w.heap.size (by rfl) (.tmp 38) (.tmp 40) 22 2 (.int .i64 0) 8 rfl Try.underlying22 info2 rfl (by decide) (by omega) u5 x5_1 x6_1 [.int .i64 x6_1] (fun _ => True) (fun _ => False) rfl rfl ?aP (fun _ hk => hk.elim) ?aF ?aO ?aB ?aS ?aL ?_
       (case aP => exact rfl)
       (case aB => exact (by repeat (first | (with_reducible first | exact HB.out | apply waq | apply wdq | apply wrq | refine wsq ?_ GE414.out | refine wsq ?_ GE415.out) | exact HB.out)))
       (case aF => exact (fun _ _ => trivial))
       (case aO => exact (by (with_reducible repeat (first | apply Kd.R_alloc | apply Kd.R_drewN | apply Kd.R_drew)); exact HO_5.out))
       (case aS => exact (wzq (by repeat (first | (with_reducible first | exact HB.out | apply waq | apply wdq | apply wrq | refine wsq ?_ GE414.out | refine wsq ?_ GE415.out) | exact HB.out))))
       (case aL => have := LMc19.out; omega)
       intro v424 w24 ho hb hg hat
       rw [← Ny423.out] at ho
       have n0_ := Azq.mk (blk_grown (g := gb414) (o := .cells #[.int .i64 a0_0, .slice A0_1 l0_1.length c0_1] 29 (0, 0)) (by (with_reducible repeat (first | refine kdq ?_ _ | refine krq ?_ | refine kaq ?_ _)); exact BK414.out) hg (Kd.R_ne HO_5.out BK414.out (by decide)))
       have n1_ := Azq.mk (blk_grown (g := gb415) (o := .cells #[.int .i64 0, .slice none 0 0] 29 (0, 0)) (by (with_reducible repeat (first | refine kdq ?_ _ | refine krq ?_ | refine kaq ?_ _)); exact BK415.out) hg (Kd.R_ne HO_5.out BK415.out (by decide)))
       have n2_ := Azq.mk (hb)
       have n3_ := Azq.mk (ho)
       clear BK414
       clear BK415
       clear HB
       clear HO_5
       have BK414 := n0_
       have BK415 := n1_
       have HB := n2_
       have HO425 := n3_
       clear n0_ n1_ n2_ n3_
       clear ho hb hg hat
       obtain ⟨Ao25, co25, eo25⟩ := Kd.R_slice HO425.out
       (first | subst eo25 | (injection eo25 with f1_ f2_ f3_; have f4_ := f1_.symm; have f5_ := f3_.symm; clear f1_ f2_ f3_; subst f4_; subst f5_))
       refine hK.out _ _ ⟨(kcq BK414.out 0).trans rfl, (kcq BK414.out 1).trans rfl⟩ (fun hHeld => ?_)
       clear hK K
       refine norm_ (a' := ?_) ?_ ?_
       rotate_left
       ·show Act.put _ (some 41) _ = _
        simp only [Act.put, List.setIfInBounds_toArray, List.set_cons_zero, List.set_cons_succ, i64_w, i32_w]
        rfl
       refine one_ (i := 6) (N := some 42) #[true, true, true, true, true, true, true, false] rfl rfl (one_of HT_.out (by kernel_rfl)) (by decide) (fun K hK => ?_)
       refine goes_ Try.func189 (by kernel_rfl) rfl #[.int .i64 a0_0, .slice Ao25 y423.length co25] (by rfl) rfl rfl (by (try simp only [List.map_toArray, List.map_cons, List.map_nil]); first | done | rfl | (simp only [List.length_drop, List.length_take]; rfl)) ?_
       with_reducible refine (spec_l02Make.calls k1 a0_0 _ _ y423 t426 t427 _ ?side1 ?side2 A20.out).mono ?_
       (case side1 => repeat (first | exact (Kd.R_reads' HO425.out).2.2 | (with_reducible refine Kd.C_alloc ?_ _) | (with_reducible refine Kd.C_drewN ?_ _) | (with_reducible refine Kd.C_drew ?_)))
       (case side2 => exact (Kd.R_reads' HO425.out).2.1)
       rintro e w26 ⟨v428, rfl, ho0, hb⟩
       refine ⟨_, rfl, ?_⟩
       have n0_ := Azq.mk (Kd.R_elder' (by (with_reducible repeat (first | apply Kd.R_alloc | apply Kd.R_drewN | apply Kd.R_drew)); exact HO425.out) (Kd.R_base ho0) hb)
       have n1_ := Azq.mk (Kd.R_lower (Kd.R_new' ho0 (Kd.R_lt (by (with_reducible repeat (first | apply Kd.R_alloc | apply Kd.R_drewN | apply Kd.R_drew)); exact HO425.out))) (wzq (by repeat (first | (with_reducible first | exact HB.out | apply waq | apply wdq | apply wrq | refine wsq ?_ GE414.out | refine wsq ?_ GE415.out) | exact HB.out))))
       have n2_ := Azq.mk (kbq (g := gb414) (o := .cells #[.int .i64 a0_0, .slice A0_1 l0_1.length c0_1] 29 (0, 0)) (by (with_reducible repeat (first | refine kdq ?_ _ | refine krq ?_ | refine kaq ?_ _)); exact BK414.out) hb)
       have n3_ := Azq.mk (kbq (g := gb415) (o := .cells #[.int .i64 0, .slice none 0 0] 29 (0, 0)) (by (with_reducible repeat (first | refine kdq ?_ _ | refine krq ?_ | refine kaq ?_ _)); exact BK415.out) hb)
       have n4_ := Azq.mk (wtq (by repeat (first | (with_reducible first | exact HB.out | apply waq | apply wdq | apply wrq | refine wsq ?_ GE414.out | refine wsq ?_ GE415.out) | exact HB.out)) hb)
       clear HO425
       clear BK414
       clear BK415
       clear HB
       have HO425 := n0_
       have HO429 := n1_
       have BK414 := n2_
       have BK415 := n3_
       have HB := n4_
       clear n0_ n1_ n2_ n3_ n4_
       (try clear hb)
       (try clear hb2)
       (try clear hk)
       (try clear hi)
       (try clear ho0)
       obtain ⟨Ao28, co28, eo28⟩ := Kd.R_slice HO429.out
       (first | subst eo28 | (injection eo28 with f1_ f2_ f3_; have f4_ := f1_.symm; have f5_ := f3_.symm; clear f1_ f2_ f3_; subst f4_; subst f5_))
       refine hK.out _ _ ⟨(kcq BK414.out 0).trans rfl, (kcq BK414.out 1).trans rfl⟩ (fun hHeld => ?_)
       clear hK K
       refine norm_ (a' := ?_) ?_ ?_
       rotate_left
       ·show Act.put _ (some 42) _ = _
        simp only [Act.put, List.setIfInBounds_toArray, List.set_cons_zero, List.set_cons_succ, i64_w, i32_w]
        rfl
       refine one_ (i := 7) (N := none) #[true, true, true, true, true, true, true, true] rfl rfl (one_of HT_.out (by kernel_rfl)) (by decide) (fun K hK => ?_)
       have hs27 : w26.cell? ⟨gb415, 0, none⟩ = some (.int .i64 0) := (kcq BK415.out 0).trans rfl
       have hfs27 := kfq BK415.out 0
       have hns27_0 := NB414_415.out
       have hms27_0 := NB415_414.out
       have hs29 : w26.cell? ⟨gb415, 1, none⟩ = some (.slice none 0 0) := (kcq BK415.out 1).trans rfl
       have hfs29 := kfq BK415.out 1
       have hns29_0 := NB414_415.out
       have hms29_0 := NB415_414.out
       refine skip_ (w1 := ?_) (by rfl) rfl ?_ ?_
       rotate_left
       ·go_simp
        rfl
       refine hK.out _ _ ⟨((cell_far (p := ⟨gb415, _, none⟩) NB414_415.out _).trans (((cell_far (p := ⟨gb415, _, none⟩) NB414_415.out _).trans (hHeld.1)))), ((cell_far (p := ⟨gb415, _, none⟩) NB414_415.out _).trans (((cell_far (p := ⟨gb415, _, none⟩) NB414_415.out _).trans (hHeld.2))))⟩ (fun hHeld => ?_)
       clear hK K
       refine done_ (done_of HT_.out (by kernel_rfl)) ?_
       try go_wp2
       refine bodyPost_ret (results_cell_row rfl _ _ gb415 29 #[.int .i64 t426, .slice Ao28 t427.length co28] (0, 0) _ rfl (by (with_reducible repeat (first | refine kdq ?_ _ | refine krq ?_ | refine kaq ?_ _)); refine blk_put (cs := #[.int .i64 t426, .slice none 0 0]) ?_ 1 _ rfl; (with_reducible repeat (first | refine kdq ?_ _ | refine krq ?_ | refine kaq ?_ _)); refine blk_put (cs := #[.int .i64 0, .slice none 0 0]) ?_ 0 _ rfl; (with_reducible repeat (first | refine kdq ?_ _ | refine krq ?_ | refine kaq ?_ _)); exact BK415.out) Try.underlying29 rfl (by kernel_rfl)) rfl ?_
       exact ⟨_, by first | rfl | (simp [errW_none, errW_some] <;> rfl) | (simp only [← hji3]; first | rfl | (simp [errW_none, errW_some] <;> rfl)) | (simp [*, errW_none, errW_some] <;> rfl), by (with_reducible repeat (first | apply Kd.R_alloc | apply Kd.R_drewN | apply Kd.R_drew)); exact Kd.R_mono (Kd.R_far (p := ⟨gb415, 1, none⟩) (Kd.R_far (p := ⟨gb415, 0, none⟩) (Kd.R_types HO429.out BK415.out (by decide)) (fun _ hk => hk.2) (.int .i64 t426)) (fun _ hk => hk.2) (.slice Ao28 t427.length co28)) (fun _ hk => trivial), by repeat (first | (with_reducible first | exact HB.out | apply waq | apply wdq | apply wrq | refine wsq ?_ GE414.out | refine wsq ?_ GE415.out) | exact HB.out)⟩
      ·rw [if_neg c19] at H
       exact absurd H (by simp)
  ·rw [if_neg c5] at H
   exact absurd H (by simp)
 ·rw [if_neg c4] at H
  exact absurd H (by simp)
end Go.Proofs.Ytdboepiobaehkaa.PW
end
section
namespace Go.Proofs.Ytdboepiobaehkaa.PW
open Go.RowKit Go.Proofs.YtdboepiobaehkaaW.PrintWords Go.Proofs.YtdboepiobaehkaaW.PrintLast Go.Proofs.YtdboepiobaehkaaW.PrintMore
attribute [local go_sem] max2_int min2_int max_two min_two max_three min_three max_four min_four   -- for this text's walks alone
set_option linter.unusedVariables false
set_option linter.unusedSimpArgs false
def spec_l03Add.f (k : Nat) (a0_0 : Int) (l0_1 : List Int) (a0_2 : Int) (a1_0 : Int) (l1_1 : List Int) (a1_2 : Int) : Option (Int × List Int × Int) := if a0_0 = 0 then ((spec_l03Make.f k a1_0 l1_1 a1_2).bind fun bt433 => (some (bt433.1, bt433.2.1, bt433.2.2))) else (if a1_0 = 0 then ((spec_l03Make.f k a0_0 l0_1 a0_2).bind fun bt438 => (some (bt438.1, bt438.2.1, bt438.2.2))) else ((spec_l02Left.f k a0_0 l0_1 (wrap64 (a0_2 - (mn a0_2 a1_2)))).bind fun bt443 => ((spec_l02Left.f k a1_0 l1_1 (wrap64 (a1_2 - (mn a0_2 a1_2)))).bind fun bt447 => ((spec_l02Add.f k bt443.1 bt443.2 bt447.1 bt447.2).bind fun bt451 => ((spec_l03Make.f k bt451.1 bt451.2 (mn a0_2 a1_2)).bind fun bt455 => (some (bt455.1, bt455.2.1, bt455.2.2)))))))
theorem spec_l03Add.mono : ∀ a0 a1 a2 a3 a4 a5 k, LeO (spec_l03Add.f k a0 a1 a2 a3 a4 a5) (spec_l03Add.f (k + 1) a0 a1 a2 a3 a4 a5) := by
 intro a0 a1 a2 a3 a4 a5 k
 unfold spec_l03Add.f
 repeat' first
   | (with_reducible exact spec_l02Add.mono _ _ _ _ _)
   | (with_reducible exact spec_l02Left.mono _ _ _ _)
   | (with_reducible exact spec_l03Make.mono _ _ _ _)
   | (with_reducible exact LeO.refl _)
   | (with_reducible exact LeO.none _)
   | (with_reducible refine LeO.ite ?_ ?_)
   | (with_reducible refine LeO.bind ?_ (fun _ => ?_))
   | exact spec_l02Add.mono _ _ _ _ _
   | exact spec_l02Left.mono _ _ _ _
   | exact spec_l03Make.mono _ _ _ _
   | exact LeO.none _
   | refine LeO.ite ?_ ?_
   | refine LeO.bind ?_ (fun _ => ?_)
def spec_l03Add.T6 : Bool × List (List Nat × List Nat) := (true, [([], []), ([0], [0]), ([], []), ([2], [2]), ([], []), ([3, 4], [3, 4]), ([1, 5], [1, 5]), ([], []), ([7], [7]), ([], []), ([9], [9]), ([], []), ([10, 11], [10, 11]), ([8, 12, 6], [8, 12]), ([6, 13, 13], [6, 13]), ([], []), ([14, 15, 14], [14, 15]), ([16, 16, 0, 1, 2, 3, 4, 5, 6, 7, 8, 9, 10, 11, 12, 13, 14, 15, 16], [16])])
def spec_l03Add.B6 : List Nat := [0, 1, 0, 4, 0, 28, 63, 0, 128, 0, 512, 0, 3584, 8191, 16383, 0, 65535, 131071]
theorem spec_l03Add.tab6 : rtab .any (opsOf Try.f99 6) = spec_l03Add.T6 := by kernel_rfl
theorem spec_l03Add.bits6 : waitsOk spec_l03Add.T6.2 spec_l03Add.B6 = true := by kernel_rfl
set_option maxHeartbeats 8000000 in
set_option maxRecDepth 100000 in
theorem spec_l03Add.calls (k : Nat) (a0_0 : Int) (A0_1 : Option Addr) (c0_1 : Nat) (l0_1 : List Int) (a0_2 : Int) (a1_0 : Int) (A1_1 : Option Addr) (c1_1 : Nat) (l1_1 : List Int) (a1_2 : Int) (r1 : Int) (r2 : List Int) (r3 : Int) (w : World) (hr0_1 : Kd.C (Kd.int .i64) w A0_1 l0_1.length l0_1) (hc0_1 : l0_1.length ≤ c0_1) (hr1_1 : Kd.C (Kd.int .i64) w A1_1 l1_1.length l1_1) (hc1_1 : l1_1.length ≤ c1_1) (h : spec_l03Add.f k a0_0 l0_1 a0_2 a1_0 l1_1 a1_2 = some (r1, r2, r3)) :
  Calls Try.prog 99 #[.agg #[.int .i64 a0_0, .slice A0_1 l0_1.length c0_1, .int .i64 a0_2], .agg #[.int .i64 a1_0, .slice A1_1 l1_1.length c1_1, .int .i64 a1_2]] w fun e w' => ∃ v1_ : Value, e = .returned (.agg #[.int .i64 r1, v1_, .int .i64 r3]) ∧ Kd.R (Kd.int .i64) 2 w' w.heap.size (fun _ => True) v1_ r2 ∧ Below w.heap.size w w' := by
 have hu31 := Try.underlying31
 have hu29 := Try.underlying29
 have HR0_1 := Azq.mk hr0_1
 have HC0_1 := Azq.mk hc0_1
 clear hr0_1 hc0_1
 have HR1_1 := Azq.mk hr1_1
 have HC1_1 := Azq.mk hc1_1
 clear hr1_1 hc1_1
 have HB := Azq.mk (Below.refl w.heap.size w)
 have H : (if a0_0 = 0 then ((spec_l03Make.f k a1_0 l1_1 a1_2).bind fun bt433 => (some (bt433.1, bt433.2.1, bt433.2.2))) else (if a1_0 = 0 then ((spec_l03Make.f k a0_0 l0_1 a0_2).bind fun bt438 => (some (bt438.1, bt438.2.1, bt438.2.2))) else ((spec_l02Left.f k a0_0 l0_1 (wrap64 (a0_2 - (mn a0_2 a1_2)))).bind fun bt443 => ((spec_l02Left.f k a1_0 l1_1 (wrap64 (a1_2 - (mn a0_2 a1_2)))).bind fun bt447 => ((spec_l02Add.f k bt443.1 bt443.2 bt447.1 bt447.2).bind fun bt451 => ((spec_l03Make.f k bt451.1 bt451.2 (mn a0_2 a1_2)).bind fun bt455 => (some (bt455.1, bt455.2.1, bt455.2.2)))))))) = some (r1, r2, r3) := h
 clear h
 by_cases c3 : a0_0 = 0
 ·rw [if_pos c3] at H
  have c3b0 : (a0_0 == 0) = true := beq_iff_eq.mpr c3
  have c3b1 : (a0_0 != 0) = false := bne_eq_false_iff_eq.mpr c3
  clear c3
  replace H := Option.bind_eq_some_iff.mp H
  obtain ⟨⟨t433, t434, t437⟩, A40, H⟩ := H
  replace H : (some (t433, t434, t437)) = some (r1, r2, r3) := H
  have A4 := Azq.mk A40
  clear A40
  simp only [Option.some.injEq, Prod.mk.injEq] at H
  obtain ⟨rfl, rfl, rfl⟩ := H
  go_enter Try.func99, Try.ntmps99
  go_wp2_with (first | ((with_reducible refine gate_dst (N := 2) rfl ?_); refine box_event ?hg (N := 2) ?hd (cs := #[.int .i64 a0_0, .slice A0_1 l0_1.length c0_1, .int .i64 a0_2]) (t := 31) ?hr ?_; (case hd => rfl); (case hg => rfl); (case hr => first | (go_simp; done) | (go_simp; rfl)); intro gb430 hg w5 hbox hb; have n0_ := Azq.mk (wtq (by repeat (first | (with_reducible first | exact HB.out | apply waq | apply wdq | apply wrq) | exact HB.out)) hb); have n1_ := Azq.mk (hbox); have n2_ := Azq.mk ((by rw [hg]; exact (wzq (by repeat (first | (with_reducible first | exact HB.out | apply waq | apply wdq | apply wrq) | exact HB.out))) : w.heap.size ≤ gb430)); have n3_ := Azq.mk ((by rw [hg]; exact (wzq (by repeat (first | (with_reducible first | exact HB.out | apply waq | apply wdq | apply wrq) | exact HB.out))) : w.heap.size ≤ gb430)); clear HB; have HB := n0_; have BK430 := n1_; have GW430 := n2_; have GE430 := n3_; clear n0_ n1_ n2_ n3_; clear hb hbox hg) | ((with_reducible refine gate_dst (N := 3) rfl ?_); refine box_event ?hg (N := 3) ?hd (cs := #[.int .i64 a1_0, .slice A1_1 l1_1.length c1_1, .int .i64 a1_2]) (t := 31) ?hr ?_; (case hd => rfl); (case hg => rfl); (case hr => first | (go_simp; done) | (go_simp; rfl)); intro gb431 hg w6 hbox hb; have n0_ := Azq.mk (kbq (g := gb430) (o := .cells #[.int .i64 a0_0, .slice A0_1 l0_1.length c0_1, .int .i64 a0_2] 31 (0, 0)) (by (with_reducible repeat (first | refine kdq ?_ _ | refine krq ?_ | refine kaq ?_ _)); exact BK430.out) hb); have n1_ := Azq.mk (wtq (by repeat (first | (with_reducible first | exact HB.out | apply waq | apply wdq | apply wrq | refine wsq ?_ GE430.out) | exact HB.out)) hb); have n2_ := Azq.mk (hbox); have n3_ := Azq.mk ((by rw [hg]; exact (wzq (by repeat (first | (with_reducible first | exact HB.out | apply waq | apply wdq | apply wrq | refine wsq ?_ GE430.out) | exact HB.out))) : w.heap.size ≤ gb431)); have n4_ := Azq.mk ((by rw [hg]; exact (wzq (by repeat (first | (with_reducible first | exact HB.out | apply waq | apply wdq | apply wrq | refine wsq ?_ GE430.out) | exact HB.out))) : w.heap.size ≤ gb431)); have n5_ := Azq.mk ((by rw [hg]; exact Nat.ne_of_lt (klq (g := gb430) (o := .cells #[.int .i64 a0_0, .slice A0_1 l0_1.length c0_1, .int .i64 a0_2] 31 (0, 0)) (by (with_reducible repeat (first | refine kdq ?_ _ | refine krq ?_ | refine kaq ?_ _)); exact BK430.out)) : gb430 ≠ gb431)); have n6_ := Azq.mk ((by rw [hg]; exact Nat.ne_of_gt (klq (g := gb430) (o := .cells #[.int .i64 a0_0, .slice A0_1 l0_1.length c0_1, .int .i64 a0_2] 31 (0, 0)) (by (with_reducible repeat (first | refine kdq ?_ _ | refine krq ?_ | refine kaq ?_ _)); exact BK430.out)) : gb431 ≠ gb430)); clear BK430; clear HB; have BK430 := n0_; have HB := n1_; have BK431 := n2_; have GW431 := n3_; have GE431 := n4_; have NB430_431 := n5_; have NB431_430 := n6_; clear n0_ n1_ n2_ n3_ n4_ n5_ n6_; clear hb hbox hg) | ((with_reducible refine gate_dst (N := 4) rfl ?_); refine box_event ?hg (N := 4) ?hd (cs := #[.int .i64 0, .slice none 0 0, .int .i64 0]) (t := 31) ?hr ?_; (case hd => rfl); (case hg => rfl); (case hr => first | (go_simp; done) | (go_simp; rfl)); intro gb432 hg w7 hbox hb; have n0_ := Azq.mk (kbq (g := gb430) (o := .cells #[.int .i64 a0_0, .slice A0_1 l0_1.length c0_1, .int .i64 a0_2] 31 (0, 0)) (by (with_reducible repeat (first | refine kdq ?_ _ | refine krq ?_ | refine kaq ?_ _)); exact BK430.out) hb); have n1_ := Azq.mk (kbq (g := gb431) (o := .cells #[.int .i64 a1_0, .slice A1_1 l1_1.length c1_1, .int .i64 a1_2] 31 (0, 0)) (by (with_reducible repeat (first | refine kdq ?_ _ | refine krq ?_ | refine kaq ?_ _)); exact BK431.out) hb); have n2_ := Azq.mk (wtq (by repeat (first | (with_reducible first | exact HB.out | apply waq | apply wdq | apply wrq | refine wsq ?_ GE430.out | refine wsq ?_ GE431.out) | exact HB.out)) hb); have n3_ := Azq.mk (hbox); have n4_ := Azq.mk ((by rw [hg]; exact (wzq (by repeat (first | (with_reducible first | exact HB.out | apply waq | apply wdq | apply wrq | refine wsq ?_ GE430.out | refine wsq ?_ GE431.out) | exact HB.out))) : w.heap.size ≤ gb432)); have n5_ := Azq.mk ((by rw [hg]; exact (wzq (by repeat (first | (with_reducible first | exact HB.out | apply waq | apply wdq | apply wrq | refine wsq ?_ GE430.out | refine wsq ?_ GE431.out) | exact HB.out))) : w.heap.size ≤ gb432)); have n6_ := Azq.mk ((by rw [hg]; exact Nat.ne_of_lt (klq (g := gb430) (o := .cells #[.int .i64 a0_0, .slice A0_1 l0_1.length c0_1, .int .i64 a0_2] 31 (0, 0)) (by (with_reducible repeat (first | refine kdq ?_ _ | refine krq ?_ | refine kaq ?_ _)); exact BK430.out)) : gb430 ≠ gb432)); have n7_ := Azq.mk ((by rw [hg]; exact Nat.ne_of_gt (klq (g := gb430) (o := .cells #[.int .i64 a0_0, .slice A0_1 l0_1.length c0_1, .int .i64 a0_2] 31 (0, 0)) (by (with_reducible repeat (first | refine kdq ?_ _ | refine krq ?_ | refine kaq ?_ _)); exact BK430.out)) : gb432 ≠ gb430)); have n8_ := Azq.mk ((by rw [hg]; exact Nat.ne_of_lt (klq (g := gb431) (o := .cells #[.int .i64 a1_0, .slice A1_1 l1_1.length c1_1, .int .i64 a1_2] 31 (0, 0)) (by (with_reducible repeat (first | refine kdq ?_ _ | refine krq ?_ | refine kaq ?_ _)); exact BK431.out)) : gb431 ≠ gb432)); have n9_ := Azq.mk ((by rw [hg]; exact Nat.ne_of_gt (klq (g := gb431) (o := .cells #[.int .i64 a1_0, .slice A1_1 l1_1.length c1_1, .int .i64 a1_2] 31 (0, 0)) (by (with_reducible repeat (first | refine kdq ?_ _ | refine krq ?_ | refine kaq ?_ _)); exact BK431.out)) : gb432 ≠ gb431)); clear BK430; clear BK431; clear HB; have BK430 := n0_; have BK431 := n1_; have HB := n2_; have BK432 := n3_; have GW432 := n4_; have GE432 := n5_; have NB430_432 := n6_; have NB432_430 := n7_; have NB431_432 := n8_; have NB432_431 := n9_; clear n0_ n1_ n2_ n3_ n4_ n5_ n6_ n7_ n8_ n9_; clear hb hbox hg; have hnb8 := NB430_431.out; have hnc8 := NB431_430.out; have hnb9 := NB430_432.out; have hnc9 := NB432_430.out; have hcz10_0 : w7.cell? ⟨gb430, 0, none⟩ = some (.int .i64 a0_0) := (kcq BK430.out 0).trans rfl; have hcz10_1 : w7.cell? ⟨gb430, 1, none⟩ = some (.slice A0_1 l0_1.length c0_1) := (kcq BK430.out 1).trans rfl; have hcz10_2 : w7.cell? ⟨gb430, 2, none⟩ = some (.int .i64 a0_2) := (kcq BK430.out 2).trans rfl; have hfz10_0 := kfq BK430.out 0; have hfz10_1 := kfq BK430.out 1; have hfz10_2 := kfq BK430.out 2; have hnb11 := NB431_432.out; have hnc11 := NB432_431.out; have hcz12_0 : w7.cell? ⟨gb431, 0, none⟩ = some (.int .i64 a1_0) := (kcq BK431.out 0).trans rfl; have hcz12_1 : w7.cell? ⟨gb431, 1, none⟩ = some (.slice A1_1 l1_1.length c1_1) := (kcq BK431.out 1).trans rfl; have hcz12_2 : w7.cell? ⟨gb431, 2, none⟩ = some (.int .i64 a1_2) := (kcq BK431.out 2).trans rfl; have hfz12_0 := kfq BK431.out 0; have hfz12_1 := kfq BK431.out 1; have hfz12_2 := kfq BK431.out 2) | ((with_reducible refine gate_callee (f := 82) rfl ?_); refine goesL_ (some 14) rfl rfl Try.func82 (by kernel_rfl) rfl #[.agg #[.int .i64 a1_0, .slice A1_1 l1_1.length c1_1], .int .i64 a1_2] rfl (by (try simp only [List.map_toArray, List.map_cons, List.map_nil]); first | done | rfl | (simp only [List.length_drop, List.length_take]; rfl)) ?_; (with_reducible refine (spec_l03Make.calls k a1_0 _ _ l1_1 a1_2 t433 t434 t437 _ ?side1 ?side2 A4.out).mono ?_); (case side1 => repeat (first | exact (Kd.C_below HR1_1.out HB.out) | (with_reducible refine Kd.C_alloc ?_ _) | (with_reducible refine Kd.C_drewN ?_ _) | (with_reducible refine Kd.C_drew ?_))); (case side2 => exact HC1_1.out); rintro e w13 ⟨v435, rfl, ho0, hb⟩; refine ⟨_, rfl, ?_⟩; have n0_ := Azq.mk (Kd.R_lower ho0 (wzq (by repeat (first | (with_reducible first | exact HB.out | apply waq | apply wdq | apply wrq | refine wsq ?_ GE430.out | refine wsq ?_ GE431.out | refine wsq ?_ GE432.out) | exact HB.out)))); have n1_ := Azq.mk (kbq (g := gb430) (o := .cells #[.int .i64 a0_0, .slice A0_1 l0_1.length c0_1, .int .i64 a0_2] 31 (0, 0)) (by (with_reducible repeat (first | refine kdq ?_ _ | refine krq ?_ | refine kaq ?_ _)); exact BK430.out) hb); have n2_ := Azq.mk (kbq (g := gb431) (o := .cells #[.int .i64 a1_0, .slice A1_1 l1_1.length c1_1, .int .i64 a1_2] 31 (0, 0)) (by (with_reducible repeat (first | refine kdq ?_ _ | refine krq ?_ | refine kaq ?_ _)); exact BK431.out) hb); have n3_ := Azq.mk (kbq (g := gb432) (o := .cells #[.int .i64 0, .slice none 0 0, .int .i64 0] 31 (0, 0)) (by (with_reducible repeat (first | refine kdq ?_ _ | refine krq ?_ | refine kaq ?_ _)); exact BK432.out) hb); have n4_ := Azq.mk (wtq (by repeat (first | (with_reducible first | exact HB.out | apply waq | apply wdq | apply wrq | refine wsq ?_ GE430.out | refine wsq ?_ GE431.out | refine wsq ?_ GE432.out) | exact HB.out)) hb); clear BK430; clear BK431; clear BK432; clear HB; have HO436 := n0_; have BK430 := n1_; have BK431 := n2_; have BK432 := n3_; have HB := n4_; clear n0_ n1_ n2_ n3_ n4_; (try clear hb); (try clear hb2); (try clear hk); (try clear hi); (try clear ho0); have hcz14_0 : w13.cell? ⟨gb432, 0, none⟩ = some (.int .i64 0) := (kcq BK432.out 0).trans rfl; have hcz14_1 : w13.cell? ⟨gb432, 1, none⟩ = some (.slice none 0 0) := (kcq BK432.out 1).trans rfl; have hcz14_2 : w13.cell? ⟨gb432, 2, none⟩ = some (.int .i64 0) := (kcq BK432.out 2).trans rfl; have hfz14_0 := kfq BK432.out 0; have hfz14_1 := kfq BK432.out 1; have hfz14_2 := kfq BK432.out 2; obtain ⟨Ao15, co15, eo15⟩ := Kd.R_slice HO436.out; subst eo15))
  refine bodyPost_ret (results_cell_row rfl _ _ gb432 31 #[.int .i64 t433, .slice Ao15 t434.length co15, .int .i64 t437] (0, 0) _ rfl (by (with_reducible repeat (first | refine kdq ?_ _ | refine krq ?_ | refine kaq ?_ _)); refine blk_put (cs := #[.int .i64 t433, .slice Ao15 t434.length co15, .int .i64 0]) ?_ 2 _ rfl; (with_reducible repeat (first | refine kdq ?_ _ | refine krq ?_ | refine kaq ?_ _)); refine blk_put (cs := #[.int .i64 t433, .slice none 0 0, .int .i64 0]) ?_ 1 _ rfl; (with_reducible repeat (first | refine kdq ?_ _ | refine krq ?_ | refine kaq ?_ _)); refine blk_put (cs := #[.int .i64 0, .slice none 0 0, .int .i64 0]) ?_ 0 _ rfl; (with_reducible repeat (first | refine kdq ?_ _ | refine krq ?_ | refine kaq ?_ _)); exact BK432.out) Try.underlying31 rfl (by kernel_rfl)) rfl ?_
  exact ⟨_, by first | rfl | (simp [errW_none, errW_some] <;> rfl) | (simp [*, errW_none, errW_some] <;> rfl), by (with_reducible repeat (first | apply Kd.R_alloc | apply Kd.R_drewN | apply Kd.R_drew)); exact Kd.R_mono (Kd.R_far (p := ⟨gb432, 2, none⟩) (Kd.R_far (p := ⟨gb432, 1, none⟩) (Kd.R_far (p := ⟨gb432, 0, none⟩) (Kd.R_types HO436.out BK432.out (by decide)) (fun _ hk => hk.2) (.int .i64 t433)) (fun _ hk => hk.2) (.slice Ao15 t434.length co15)) (fun _ hk => hk.2) (.int .i64 t437)) (fun _ hk => trivial), by repeat (first | (with_reducible first | exact HB.out | apply waq | apply wdq | apply wrq | refine wsq ?_ GE430.out | refine wsq ?_ GE431.out | refine wsq ?_ GE432.out) | exact HB.out)⟩
 ·rw [if_neg c3] at H
  have c3b0 : (a0_0 == 0) = false := beq_eq_false_iff_ne.mpr c3
  have c3b1 : (a0_0 != 0) = true := bne_iff_ne.mpr c3
  by_cases c16 : a1_0 = 0
  ·rw [if_pos c16] at H
   have c16b0 : (a1_0 == 0) = true := beq_iff_eq.mpr c16
   have c16b1 : (a1_0 != 0) = false := bne_eq_false_iff_eq.mpr c16
   clear c16
   replace H := Option.bind_eq_some_iff.mp H
   obtain ⟨⟨t438, t439, t442⟩, A170, H⟩ := H
   replace H : (some (t438, t439, t442)) = some (r1, r2, r3) := H
   have A17 := Azq.mk A170
   clear A170
   simp only [Option.some.injEq, Prod.mk.injEq] at H
   obtain ⟨rfl, rfl, rfl⟩ := H
   go_enter Try.func99, Try.ntmps99
   go_wp2_with (first | ((with_reducible refine gate_dst (N := 2) rfl ?_); refine box_event ?hg (N := 2) ?hd (cs := #[.int .i64 a0_0, .slice A0_1 l0_1.length c0_1, .int .i64 a0_2]) (t := 31) ?hr ?_; (case hd => rfl); (case hg => rfl); (case hr => first | (go_simp; done) | (go_simp; rfl)); intro gb430 hg w18 hbox hb; have n0_ := Azq.mk (wtq (by repeat (first | (with_reducible first | exact HB.out | apply waq | apply wdq | apply wrq) | exact HB.out)) hb); have n1_ := Azq.mk (hbox); have n2_ := Azq.mk ((by rw [hg]; exact (wzq (by repeat (first | (with_reducible first | exact HB.out | apply waq | apply wdq | apply wrq) | exact HB.out))) : w.heap.size ≤ gb430)); have n3_ := Azq.mk ((by rw [hg]; exact (wzq (by repeat (first | (with_reducible first | exact HB.out | apply waq | apply wdq | apply wrq) | exact HB.out))) : w.heap.size ≤ gb430)); clear HB; have HB := n0_; have BK430 := n1_; have GW430 := n2_; have GE430 := n3_; clear n0_ n1_ n2_ n3_; clear hb hbox hg) | ((with_reducible refine gate_dst (N := 3) rfl ?_); refine box_event ?hg (N := 3) ?hd (cs := #[.int .i64 a1_0, .slice A1_1 l1_1.length c1_1, .int .i64 a1_2]) (t := 31) ?hr ?_; (case hd => rfl); (case hg => rfl); (case hr => first | (go_simp; done) | (go_simp; rfl)); intro gb431 hg w19 hbox hb; have n0_ := Azq.mk (kbq (g := gb430) (o := .cells #[.int .i64 a0_0, .slice A0_1 l0_1.length c0_1, .int .i64 a0_2] 31 (0, 0)) (by (with_reducible repeat (first | refine kdq ?_ _ | refine krq ?_ | refine kaq ?_ _)); exact BK430.out) hb); have n1_ := Azq.mk (wtq (by repeat (first | (with_reducible first | exact HB.out | apply waq | apply wdq | apply wrq | refine wsq ?_ GE430.out) | exact HB.out)) hb); have n2_ := Azq.mk (hbox); have n3_ := Azq.mk ((by rw [hg]; exact (wzq (by repeat (first | (with_reducible first | exact HB.out | apply waq | apply wdq | apply wrq | refine wsq ?_ GE430.out) | exact HB.out))) : w.heap.size ≤ gb431)); have n4_ := Azq.mk ((by rw [hg]; exact (wzq (by repeat (first | (with_reducible first | exact HB.out | apply waq | apply wdq | apply wrq | refine wsq ?_ GE430.out) | exact HB.out))) : w.heap.size ≤ gb431)); have n5_ := Azq.mk ((by rw [hg]; exact Nat.ne_of_lt (klq (g := gb430) (o := .cells #[.int .i64 a0_0, .slice A0_1 l0_1.length c0_1, .int .i64 a0_2] 31 (0, 0)) (by (with_reducible repeat (first | refine kdq ?_ _ | refine krq ?_ | refine kaq ?_ _)); exact BK430.out)) : gb430 ≠ gb431)); have n6_ := Azq.mk ((by rw [hg]; exact Nat.ne_of_gt (klq (g := gb430) (o := .cells #[.int .i64 a0_0, .slice A0_1 l0_1.length c0_1, .int .i64 a0_2] 31 (0, 0)) (by (with_reducible repeat (first | refine kdq ?_ _ | refine krq ?_ | refine kaq ?_ _)); exact BK430.out)) : gb431 ≠ gb430)); clear BK430; clear HB; have BK430 := n0_; have HB := n1_; have BK431 := n2_; have GW431 := n3_; have GE431 := n4_; have NB430_431 := n5_; have NB431_430 := n6_; clear n0_ n1_ n2_ n3_ n4_ n5_ n6_; clear hb hbox hg) | ((with_reducible refine gate_dst (N := 4) rfl ?_); refine box_event ?hg (N := 4) ?hd (cs := #[.int .i64 0, .slice none 0 0, .int .i64 0]) (t := 31) ?hr ?_; (case hd => rfl); (case hg => rfl); (case hr => first | (go_simp; done) | (go_simp; rfl)); intro gb432 hg w20 hbox hb; have n0_ := Azq.mk (kbq (g := gb430) (o := .cells #[.int .i64 a0_0, .slice A0_1 l0_1.length c0_1, .int .i64 a0_2] 31 (0, 0)) (by (with_reducible repeat (first | refine kdq ?_ _ | refine krq ?_ | refine kaq ?_ _)); exact BK430.out) hb); have n1_ := Azq.mk (kbq (g := gb431) (o := .cells #[.int .i64 a1_0, .slice A1_1 l1_1.length c1_1, .int .i64 a1_2] 31 (0, 0)) (by (with_reducible repeat (first | refine kdq ?_ _ | refine krq ?_ | refine kaq ?_ _)); exact BK431.out) hb); have n2_ := Azq.mk (wtq (by repeat (first | (with_reducible first | exact HB.out | apply waq | apply wdq | apply wrq | refine wsq ?_ GE430.out | refine wsq ?_ GE431.out) | exact HB.out)) hb); have n3_ := Azq.mk (hbox); have n4_ := Azq.mk ((by rw [hg]; exact (wzq (by repeat (first | (with_reducible first | exact HB.out | apply waq | apply wdq | apply wrq | refine wsq ?_ GE430.out | refine wsq ?_ GE431.out) | exact HB.out))) : w.heap.size ≤ gb432)); have n5_ := Azq.mk ((by rw [hg]; exact (wzq (by repeat (first | (with_reducible first | exact HB.out | apply waq | apply wdq | apply wrq | refine wsq ?_ GE430.out | refine wsq ?_ GE431.out) | exact HB.out))) : w.heap.size ≤ gb432)); have n6_ := Azq.mk ((by rw [hg]; exact Nat.ne_of_lt (klq (g := gb430) (o := .cells #[.int .i64 a0_0, .slice A0_1 l0_1.length c0_1, .int .i64 a0_2] 31 (0, 0)) (by (with_reducible repeat (first | refine kdq ?_ _ | refine krq ?_ | refine kaq ?_ _)); exact BK430.out)) : gb430 ≠ gb432)); have n7_ := Azq.mk ((by rw [hg]; exact Nat.ne_of_gt (klq (g := gb430) (o := .cells #[.int .i64 a0_0, .slice A0_1 l0_1.length c0_1, .int .i64 a0_2] 31 (0, 0)) (by (with_reducible repeat (first | refine kdq ?_ _ | refine krq ?_ | refine kaq ?_ _)); exact BK430.out)) : gb432 ≠ gb430)); have n8_ := Azq.mk ((by rw [hg]; exact Nat.ne_of_lt (klq (g := gb431) (o := .cells #[.int .i64 a1_0, .slice A1_1 l1_1.length c1_1, .int .i64 a1_2] 31 (0, 0)) (by (with_reducible repeat (first | refine kdq ?_ _ | refine krq ?_ | refine kaq ?_ _)); exact BK431.out)) : gb431 ≠ gb432)); have n9_ := Azq.mk ((by rw [hg]; exact Nat.ne_of_gt (klq (g := gb431) (o := .cells #[.int .i64 a1_0, .slice A1_1 l1_1.length c1_1, .int .i64 a1_2] 31 (0, 0)) (by (with_reducible repeat (first | refine kdq ?_ _ | refine krq ?_ | refine kaq ?_ _)); exact BK431.out)) : gb432 ≠ gb431)); clear BK430; clear BK431; clear HB; have BK430 := n0_; have BK431 := n1_; have HB := n2_; have BK432 := n3_; have GW432 := n4_; have GE432 := n5_; have NB430_432 := n6_; have NB432_430 := n7_; have NB431_432 := n8_; have NB432_431 := n9_; clear n0_ n1_ n2_ n3_ n4_ n5_ n6_ n7_ n8_ n9_; clear hb hbox hg; have hnb21 := NB430_431.out; have hnc21 := NB431_430.out; have hnb22 := NB430_432.out; have hnc22 := NB432_430.out; have hcz23_0 : w20.cell? ⟨gb430, 0, none⟩ = some (.int .i64 a0_0) := (kcq BK430.out 0).trans rfl; have hcz23_1 : w20.cell? ⟨gb430, 1, none⟩ = some (.slice A0_1 l0_1.length c0_1) := (kcq BK430.out 1).trans rfl; have hcz23_2 : w20.cell? ⟨gb430, 2, none⟩ = some (.int .i64 a0_2) := (kcq BK430.out 2).trans rfl; have hfz23_0 := kfq BK430.out 0; have hfz23_1 := kfq BK430.out 1; have hfz23_2 := kfq BK430.out 2; have hnb24 := NB431_432.out; have hnc24 := NB432_431.out; have hcz25_0 : w20.cell? ⟨gb431, 0, none⟩ = some (.int .i64 a1_0) := (kcq BK431.out 0).trans rfl; have hcz25_1 : w20.cell? ⟨gb431, 1, none⟩ = some (.slice A1_1 l1_1.length c1_1) := (kcq BK431.out 1).trans rfl; have hcz25_2 : w20.cell? ⟨gb431, 2, none⟩ = some (.int .i64 a1_2) := (kcq BK431.out 2).trans rfl; have hfz25_0 := kfq BK431.out 0; have hfz25_1 := kfq BK431.out 1; have hfz25_2 := kfq BK431.out 2) | ((with_reducible refine gate_callee (f := 82) rfl ?_); refine goesL_ (some 23) rfl rfl Try.func82 (by kernel_rfl) rfl #[.agg #[.int .i64 a0_0, .slice A0_1 l0_1.length c0_1], .int .i64 a0_2] rfl (by (try simp only [List.map_toArray, List.map_cons, List.map_nil]); first | done | rfl | (simp only [List.length_drop, List.length_take]; rfl)) ?_; (with_reducible refine (spec_l03Make.calls k a0_0 _ _ l0_1 a0_2 t438 t439 t442 _ ?side1 ?side2 A17.out).mono ?_); (case side1 => repeat (first | exact (Kd.C_below HR0_1.out HB.out) | (with_reducible refine Kd.C_alloc ?_ _) | (with_reducible refine Kd.C_drewN ?_ _) | (with_reducible refine Kd.C_drew ?_))); (case side2 => exact HC0_1.out); rintro e w26 ⟨v440, rfl, ho0, hb⟩; refine ⟨_, rfl, ?_⟩; have n0_ := Azq.mk (Kd.R_lower ho0 (wzq (by repeat (first | (with_reducible first | exact HB.out | apply waq | apply wdq | apply wrq | refine wsq ?_ GE430.out | refine wsq ?_ GE431.out | refine wsq ?_ GE432.out) | exact HB.out)))); have n1_ := Azq.mk (kbq (g := gb430) (o := .cells #[.int .i64 a0_0, .slice A0_1 l0_1.length c0_1, .int .i64 a0_2] 31 (0, 0)) (by (with_reducible repeat (first | refine kdq ?_ _ | refine krq ?_ | refine kaq ?_ _)); exact BK430.out) hb); have n2_ := Azq.mk (kbq (g := gb431) (o := .cells #[.int .i64 a1_0, .slice A1_1 l1_1.length c1_1, .int .i64 a1_2] 31 (0, 0)) (by (with_reducible repeat (first | refine kdq ?_ _ | refine krq ?_ | refine kaq ?_ _)); exact BK431.out) hb); have n3_ := Azq.mk (kbq (g := gb432) (o := .cells #[.int .i64 0, .slice none 0 0, .int .i64 0] 31 (0, 0)) (by (with_reducible repeat (first | refine kdq ?_ _ | refine krq ?_ | refine kaq ?_ _)); exact BK432.out) hb); have n4_ := Azq.mk (wtq (by repeat (first | (with_reducible first | exact HB.out | apply waq | apply wdq | apply wrq | refine wsq ?_ GE430.out | refine wsq ?_ GE431.out | refine wsq ?_ GE432.out) | exact HB.out)) hb); clear BK430; clear BK431; clear BK432; clear HB; have HO441 := n0_; have BK430 := n1_; have BK431 := n2_; have BK432 := n3_; have HB := n4_; clear n0_ n1_ n2_ n3_ n4_; (try clear hb); (try clear hb2); (try clear hk); (try clear hi); (try clear ho0); have hcz27_0 : w26.cell? ⟨gb432, 0, none⟩ = some (.int .i64 0) := (kcq BK432.out 0).trans rfl; have hcz27_1 : w26.cell? ⟨gb432, 1, none⟩ = some (.slice none 0 0) := (kcq BK432.out 1).trans rfl; have hcz27_2 : w26.cell? ⟨gb432, 2, none⟩ = some (.int .i64 0) := (kcq BK432.out 2).trans rfl; have hfz27_0 := kfq BK432.out 0; have hfz27_1 := kfq BK432.out 1; have hfz27_2 := kfq BK432.out 2; obtain ⟨Ao28, co28, eo28⟩ := Kd.R_slice HO441.out; subst eo28))
   refine bodyPost_ret (results_cell_row rfl _ _ gb432 31 #[.int .i64 t438, .slice Ao28 t439.length co28, .int .i64 t442] (0, 0) _ rfl (by (with_reducible repeat (first | refine kdq ?_ _ | refine krq ?_ | refine kaq ?_ _)); refine blk_put (cs := #[.int .i64 t438, .slice Ao28 t439.length co28, .int .i64 0]) ?_ 2 _ rfl; (with_reducible repeat (first | refine kdq ?_ _ | refine krq ?_ | refine kaq ?_ _)); refine blk_put (cs := #[.int .i64 t438, .slice none 0 0, .int .i64 0]) ?_ 1 _ rfl; (with_reducible repeat (first | refine kdq ?_ _ | refine krq ?_ | refine kaq ?_ _)); refine blk_put (cs := #[.int .i64 0, .slice none 0 0, .int .i64 0]) ?_ 0 _ rfl; (with_reducible repeat (first | refine kdq ?_ _ | refine krq ?_ | refine kaq ?_ _)); exact BK432.out) Try.underlying31 rfl (by kernel_rfl)) rfl ?_
   exact ⟨_, by first | rfl | (simp [errW_none, errW_some] <;> rfl) | (simp [*, errW_none, errW_some] <;> rfl), by (with_reducible repeat (first | apply Kd.R_alloc | apply Kd.R_drewN | apply Kd.R_drew)); exact Kd.R_mono (Kd.R_far (p := ⟨gb432, 2, none⟩) (Kd.R_far (p := ⟨gb432, 1, none⟩) (Kd.R_far (p := ⟨gb432, 0, none⟩) (Kd.R_types HO441.out BK432.out (by decide)) (fun _ hk => hk.2) (.int .i64 t438)) (fun _ hk => hk.2) (.slice Ao28 t439.length co28)) (fun _ hk => hk.2) (.int .i64 t442)) (fun _ hk => trivial), by repeat (first | (with_reducible first | exact HB.out | apply waq | apply wdq | apply wrq | refine wsq ?_ GE430.out | refine wsq ?_ GE431.out | refine wsq ?_ GE432.out) | exact HB.out)⟩
  ·rw [if_neg c16] at H
   have c16b0 : (a1_0 == 0) = false := beq_eq_false_iff_ne.mpr c16
   have c16b1 : (a1_0 != 0) = true := bne_iff_ne.mpr c16
   obtain ⟨ji29, hji29⟩ : ∃ j_ : Int, (mn a0_2 a1_2) = j_ := ⟨_, rfl⟩
   replace H : ((spec_l02Left.f k a0_0 l0_1 (wrap64 (a0_2 - (ji29)))).bind fun bt443 => ((spec_l02Left.f k a1_0 l1_1 (wrap64 (a1_2 - (ji29)))).bind fun bt447 => ((spec_l02Add.f k bt443.1 bt443.2 bt447.1 bt447.2).bind fun bt451 => ((spec_l03Make.f k bt451.1 bt451.2 (ji29)).bind fun bt455 => (some (bt455.1, bt455.2.1, bt455.2.2)))))) = some (r1, r2, r3) := by first | (rw [hji29] at H; exact H) | (simp only [hji29] at H ⊢; exact H)
   have hji29_ : (if a1_2 < a0_2 then a1_2 else a0_2) = ji29 := hji29
   replace H := Option.bind_eq_some_iff.mp H
   obtain ⟨⟨t443, t444⟩, A300, H⟩ := H
   replace H : ((spec_l02Left.f k a1_0 l1_1 (wrap64 (a1_2 - (ji29)))).bind fun bt447 => ((spec_l02Add.f k t443 t444 bt447.1 bt447.2).bind fun bt451 => ((spec_l03Make.f k bt451.1 bt451.2 (ji29)).bind fun bt455 => (some (bt455.1, bt455.2.1, bt455.2.2))))) = some (r1, r2, r3) := H
   have A30 := Azq.mk A300
   clear A300
   replace H := Option.bind_eq_some_iff.mp H
   obtain ⟨⟨t447, t448⟩, A310, H⟩ := H
   replace H : ((spec_l02Add.f k t443 t444 t447 t448).bind fun bt451 => ((spec_l03Make.f k bt451.1 bt451.2 (ji29)).bind fun bt455 => (some (bt455.1, bt455.2.1, bt455.2.2)))) = some (r1, r2, r3) := H
   have A31 := Azq.mk A310
   clear A310
   replace H := Option.bind_eq_some_iff.mp H
   obtain ⟨⟨t451, t452⟩, A320, H⟩ := H
   replace H : ((spec_l03Make.f k t451 t452 (ji29)).bind fun bt455 => (some (bt455.1, bt455.2.1, bt455.2.2))) = some (r1, r2, r3) := H
   have A32 := Azq.mk A320
   clear A320
   replace H := Option.bind_eq_some_iff.mp H
   obtain ⟨⟨t455, t456, t459⟩, A330, H⟩ := H
   replace H : (some (t455, t456, t459)) = some (r1, r2, r3) := H
   have A33 := Azq.mk A330
   clear A330
   simp only [Option.some.injEq, Prod.mk.injEq] at H
   obtain ⟨rfl, rfl, rfl⟩ := H
   go_enter Try.func99, Try.ntmps99
   try go_wp2_with (first | ((with_reducible refine gate_dst (N := 2) rfl ?_); refine box_event ?hg (N := 2) ?hd (cs := #[.int .i64 a0_0, .slice A0_1 l0_1.length c0_1, .int .i64 a0_2]) (t := 31) ?hr ?_; (case hd => rfl); (case hg => rfl); (case hr => first | (go_simp; done) | (go_simp; rfl)); intro gb430 hg w34 hbox hb; have n0_ := Azq.mk (wtq (by repeat (first | (with_reducible first | exact HB.out | apply waq | apply wdq | apply wrq) | exact HB.out)) hb); have n1_ := Azq.mk (hbox); have n2_ := Azq.mk ((by rw [hg]; exact (wzq (by repeat (first | (with_reducible first | exact HB.out | apply waq | apply wdq | apply wrq) | exact HB.out))) : w.heap.size ≤ gb430)); have n3_ := Azq.mk ((by rw [hg]; exact (wzq (by repeat (first | (with_reducible first | exact HB.out | apply waq | apply wdq | apply wrq) | exact HB.out))) : w.heap.size ≤ gb430)); clear HB; have HB := n0_; have BK430 := n1_; have GW430 := n2_; have GE430 := n3_; clear n0_ n1_ n2_ n3_; clear hb hbox hg) | ((with_reducible refine gate_dst (N := 3) rfl ?_); refine box_event ?hg (N := 3) ?hd (cs := #[.int .i64 a1_0, .slice A1_1 l1_1.length c1_1, .int .i64 a1_2]) (t := 31) ?hr ?_; (case hd => rfl); (case hg => rfl); (case hr => first | (go_simp; done) | (go_simp; rfl)); intro gb431 hg w35 hbox hb; have n0_ := Azq.mk (kbq (g := gb430) (o := .cells #[.int .i64 a0_0, .slice A0_1 l0_1.length c0_1, .int .i64 a0_2] 31 (0, 0)) (by (with_reducible repeat (first | refine kdq ?_ _ | refine krq ?_ | refine kaq ?_ _)); exact BK430.out) hb); have n1_ := Azq.mk (wtq (by repeat (first | (with_reducible first | exact HB.out | apply waq | apply wdq | apply wrq | refine wsq ?_ GE430.out) | exact HB.out)) hb); have n2_ := Azq.mk (hbox); have n3_ := Azq.mk ((by rw [hg]; exact (wzq (by repeat (first | (with_reducible first | exact HB.out | apply waq | apply wdq | apply wrq | refine wsq ?_ GE430.out) | exact HB.out))) : w.heap.size ≤ gb431)); have n4_ := Azq.mk ((by rw [hg]; exact (wzq (by repeat (first | (with_reducible first | exact HB.out | apply waq | apply wdq | apply wrq | refine wsq ?_ GE430.out) | exact HB.out))) : w.heap.size ≤ gb431)); have n5_ := Azq.mk ((by rw [hg]; exact Nat.ne_of_lt (klq (g := gb430) (o := .cells #[.int .i64 a0_0, .slice A0_1 l0_1.length c0_1, .int .i64 a0_2] 31 (0, 0)) (by (with_reducible repeat (first | refine kdq ?_ _ | refine krq ?_ | refine kaq ?_ _)); exact BK430.out)) : gb430 ≠ gb431)); have n6_ := Azq.mk ((by rw [hg]; exact Nat.ne_of_gt (klq (g := gb430) (o := .cells #[.int .i64 a0_0, .slice A0_1 l0_1.length c0_1, .int .i64 a0_2] 31 (0, 0)) (by (with_reducible repeat (first | refine kdq ?_ _ | refine krq ?_ | refine kaq ?_ _)); exact BK430.out)) : gb431 ≠ gb430)); clear BK430; clear HB; have BK430 := n0_; have HB := n1_; have BK431 := n2_; have GW431 := n3_; have GE431 := n4_; have NB430_431 := n5_; have NB431_430 := n6_; clear n0_ n1_ n2_ n3_ n4_ n5_ n6_; clear hb hbox hg) | ((with_reducible refine gate_dst (N := 4) rfl ?_); refine box_event ?hg (N := 4) ?hd (cs := #[.int .i64 0, .slice none 0 0, .int .i64 0]) (t := 31) ?hr ?_; (case hd => rfl); (case hg => rfl); (case hr => first | (go_simp; done) | (go_simp; rfl)); intro gb432 hg w36 hbox hb; have n0_ := Azq.mk (kbq (g := gb430) (o := .cells #[.int .i64 a0_0, .slice A0_1 l0_1.length c0_1, .int .i64 a0_2] 31 (0, 0)) (by (with_reducible repeat (first | refine kdq ?_ _ | refine krq ?_ | refine kaq ?_ _)); exact BK430.out) hb); have n1_ := Azq.mk (kbq (g := gb431) (o := .cells #[.int .i64 a1_0, .slice A1_1 l1_1.length c1_1, .int .i64 a1_2] 31 (0, 0)) (by (with_reducible repeat (first | refine kdq ?_ _ | refine krq ?_ | refine kaq ?_ _)); exact BK431.out) hb); have n2_ := Azq.mk (wtq (by repeat (first | (with_reducible first | exact HB.out | apply waq | apply wdq | apply wrq | refine wsq ?_ GE430.out | refine wsq ?_ GE431.out) | exact HB.out)) hb); have n3_ := Azq.mk (hbox); have n4_ := Azq.mk ((by rw [hg]; exact (wzq (by repeat (first | (with_reducible first | exact HB.out | apply waq | apply wdq | apply wrq | refine wsq ?_ GE430.out | refine wsq ?_ GE431.out) | exact HB.out))) : w.heap.size ≤ gb432)); have n5_ := Azq.mk ((by rw [hg]; exact (wzq (by repeat (first | (with_reducible first | exact HB.out | apply waq | apply wdq | apply wrq | refine wsq ?_ GE430.out | refine wsq ?_ GE431.out) | exact HB.out))) : w.heap.size ≤ gb432)); have n6_ := Azq.mk ((by rw [hg]; exact Nat.ne_of_lt (klq (g := gb430) (o := .cells #[.int .i64 a0_0, .slice A0_1 l0_1.length c0_1, .int .i64 a0_2] 31 (0, 0)) (by (with_reducible repeat (first | refine kdq ?_ _ | refine krq ?_ | refine kaq ?_ _)); exact BK430.out)) : gb430 ≠ gb432)); have n7_ := Azq.mk ((by rw [hg]; exact Nat.ne_of_gt (klq (g := gb430) (o := .cells #[.int .i64 a0_0, .slice A0_1 l0_1.length c0_1, .int .i64 a0_2] 31 (0, 0)) (by (with_reducible repeat (first | refine kdq ?_ _ | refine krq ?_ | refine kaq ?_ _)); exact BK430.out)) : gb432 ≠ gb430)); have n8_ := Azq.mk ((by rw [hg]; exact Nat.ne_of_lt (klq (g := gb431) (o := .cells #[.int .i64 a1_0, .slice A1_1 l1_1.length c1_1, .int .i64 a1_2] 31 (0, 0)) (by (with_reducible repeat (first | refine kdq ?_ _ | refine krq ?_ | refine kaq ?_ _)); exact BK431.out)) : gb431 ≠ gb432)); have n9_ := Azq.mk ((by rw [hg]; exact Nat.ne_of_gt (klq (g := gb431) (o := .cells #[.int .i64 a1_0, .slice A1_1 l1_1.length c1_1, .int .i64 a1_2] 31 (0, 0)) (by (with_reducible repeat (first | refine kdq ?_ _ | refine krq ?_ | refine kaq ?_ _)); exact BK431.out)) : gb432 ≠ gb431)); clear BK430; clear BK431; clear HB; have BK430 := n0_; have BK431 := n1_; have HB := n2_; have BK432 := n3_; have GW432 := n4_; have GE432 := n5_; have NB430_432 := n6_; have NB432_430 := n7_; have NB431_432 := n8_; have NB432_431 := n9_; clear n0_ n1_ n2_ n3_ n4_ n5_ n6_ n7_ n8_ n9_; clear hb hbox hg; have hnb37 := NB430_431.out; have hnc37 := NB431_430.out; have hnb38 := NB430_432.out; have hnc38 := NB432_430.out; have hcz39_0 : w36.cell? ⟨gb430, 0, none⟩ = some (.int .i64 a0_0) := (kcq BK430.out 0).trans rfl; have hcz39_1 : w36.cell? ⟨gb430, 1, none⟩ = some (.slice A0_1 l0_1.length c0_1) := (kcq BK430.out 1).trans rfl; have hcz39_2 : w36.cell? ⟨gb430, 2, none⟩ = some (.int .i64 a0_2) := (kcq BK430.out 2).trans rfl; have hfz39_0 := kfq BK430.out 0; have hfz39_1 := kfq BK430.out 1; have hfz39_2 := kfq BK430.out 2; have hnb40 := NB431_432.out; have hnc40 := NB432_431.out; have hcz41_0 : w36.cell? ⟨gb431, 0, none⟩ = some (.int .i64 a1_0) := (kcq BK431.out 0).trans rfl; have hcz41_1 : w36.cell? ⟨gb431, 1, none⟩ = some (.slice A1_1 l1_1.length c1_1) := (kcq BK431.out 1).trans rfl; have hcz41_2 : w36.cell? ⟨gb431, 2, none⟩ = some (.int .i64 a1_2) := (kcq BK431.out 2).trans rfl; have hfz41_0 := kfq BK431.out 0; have hfz41_1 := kfq BK431.out 1; have hfz41_2 := kfq BK431.out 2))
   have n0_ := Azq.mk (krq BK430.out)
   have n1_ := Azq.mk (krq BK431.out)
   have n2_ := Azq.mk (krq BK432.out)
   have n3_ := Azq.mk (wrq HB.out)
   clear BK430
   clear BK431
   clear BK432
   clear HB
   have BK430 := n0_
   have BK431 := n1_
   have BK432 := n2_
   have HB := n3_
   clear n0_ n1_ n2_ n3_
   refine start_ (n := 18) (S := fun w' => w'.cell? ⟨gb430, 0, none⟩ = some (.int .i64 a0_0) ∧ w'.cell? ⟨gb430, 1, none⟩ = some (.slice A0_1 l0_1.length c0_1) ∧ w'.cell? ⟨gb430, 2, none⟩ = some (.int .i64 a0_2) ∧ w'.cell? ⟨gb431, 0, none⟩ = some (.int .i64 a1_0) ∧ w'.cell? ⟨gb431, 1, none⟩ = some (.slice A1_1 l1_1.length c1_1) ∧ w'.cell? ⟨gb431, 2, none⟩ = some (.int .i64 a1_2)) (ds := []) #[false, false, false, false, false, false, false, false, false, false, false, false, false, false, false, false, false, false] (by kernel_rfl) rfl rfl ⟨(kcq BK430.out 0).trans rfl, (kcq BK430.out 1).trans rfl, (kcq BK430.out 2).trans rfl, (kcq BK431.out 0).trans rfl, (kcq BK431.out 1).trans rfl, (kcq BK431.out 2).trans rfl⟩ (fun hHeld => ?_); refine with_tabW spec_l03Add.tab6 spec_l03Add.bits6 (fun HT_ HW_ => ?_)
   generalize w36.drew = w42 at BK430 BK431 BK432 HB hHeld ⊢
   refine pure_ (i := 0) (N := some 29) (v := ?_) (a' := ?_) #[true, false, false, false, false, false, false, false, false, false, false, false, false, false, false, false, false, false] rfl rfl (any_of HT_.out (by kernel_rfl)) (fun _ _ _ h => h) (Or.inl ⟨by rfl, ?_⟩) ?_ ?_
   rotate_left
   ·intro w'
    go_simp
    with_reducible rfl
   rotate_left
   ·simp only [Act.put, List.setIfInBounds_toArray, List.set_cons_zero, List.set_cons_succ, i64_w, i32_w]
    rfl
   refine pure_ (i := 2) (N := some 31) (v := ?_) (a' := ?_) #[true, false, true, false, false, false, false, false, false, false, false, false, false, false, false, false, false, false] rfl rfl (any_of HT_.out (by kernel_rfl)) (fun _ _ _ h => h) (Or.inl ⟨by rfl, ?_⟩) ?_ ?_
   rotate_left
   ·intro w'
    go_simp
    with_reducible rfl
   rotate_left
   ·simp only [Act.put, List.setIfInBounds_toArray, List.set_cons_zero, List.set_cons_succ, i64_w, i32_w]
    rfl
   refine pure_ (i := 4) (N := some 33) (v := ?_) (a' := ?_) #[true, false, true, false, true, false, false, false, false, false, false, false, false, false, false, false, false, false] rfl rfl (any_of HT_.out (by kernel_rfl)) (fun _ _ _ h => h) (Or.inl ⟨by rfl, ?_⟩) ?_ ?_
   rotate_left
   ·intro w'
    go_simp
    with_reducible rfl
   rotate_left
   ·simp only [Act.put, List.setIfInBounds_toArray, List.set_cons_zero, List.set_cons_succ, i64_w, i32_w]
    rfl
   refine pure_ (i := 7) (N := some 36) (v := ?_) (a' := ?_) #[true, false, true, false, true, false, false, true, false, false, false, false, false, false, false, false, false, false] rfl rfl (any_of HT_.out (by kernel_rfl)) (fun _ _ _ h => h) (Or.inl ⟨by rfl, ?_⟩) ?_ ?_
   rotate_left
   ·intro w'
    go_simp
    with_reducible rfl
   rotate_left
   ·simp only [Act.put, List.setIfInBounds_toArray, List.set_cons_zero, List.set_cons_succ, i64_w, i32_w]
    rfl
   refine pure_ (i := 9) (N := some 38) (v := ?_) (a' := ?_) #[true, false, true, false, true, false, false, true, false, true, false, false, false, false, false, false, false, false] rfl rfl (any_of HT_.out (by kernel_rfl)) (fun _ _ _ h => h) (Or.inl ⟨by rfl, ?_⟩) ?_ ?_
   rotate_left
   ·intro w'
    go_simp
    with_reducible rfl
   rotate_left
   ·simp only [Act.put, List.setIfInBounds_toArray, List.set_cons_zero, List.set_cons_succ, i64_w, i32_w]
    rfl
   refine pure_ (i := 11) (N := some 40) (v := ?_) (a' := ?_) #[true, false, true, false, true, false, false, true, false, true, false, true, false, false, false, false, false, false] rfl rfl (any_of HT_.out (by kernel_rfl)) (fun _ _ _ h => h) (Or.inl ⟨by rfl, ?_⟩) ?_ ?_
   rotate_left
   ·intro w'
    go_simp
    with_reducible rfl
   rotate_left
   ·simp only [Act.put, List.setIfInBounds_toArray, List.set_cons_zero, List.set_cons_succ, i64_w, i32_w]
    rfl
   refine pure_ (i := 15) (N := some 44) (v := ?_) (a' := ?_) #[true, false, true, false, true, false, false, true, false, true, false, true, false, false, false, true, false, false] rfl rfl (any_of HT_.out (by kernel_rfl)) (fun _ _ _ h => h) (Or.inl ⟨by rfl, ?_⟩) ?_ ?_
   rotate_left
   ·intro w'
    go_simp
    with_reducible rfl
   rotate_left
   ·simp only [Act.put, List.setIfInBounds_toArray, List.set_cons_zero, List.set_cons_succ, i64_w, i32_w]
    rfl
   refine take_ (i := 1) (N := some 30) (v := ?_) (a' := ?_) #[true, true, true, false, true, false, false, true, false, true, false, true, false, false, false, true, false, false] rfl rfl (take_ofW HT_.out HW_.out (by kernel_rfl)) (fun _ _ _ h => h) (Or.inl ⟨by rfl, ?_⟩) hHeld ?_ ?_
   rotate_left
   ·rintro w' ⟨s0, s1, s2, s3, s4, s5⟩
    go_simp
    with_reducible rfl
   rotate_left
   ·simp only [Act.put, List.setIfInBounds_toArray, List.set_cons_zero, List.set_cons_succ, i64_w, i32_w]
    rfl
   refine take_ (i := 3) (N := some 32) (v := ?_) (a' := ?_) #[true, true, true, true, true, false, false, true, false, true, false, true, false, false, false, true, false, false] rfl rfl (take_ofW HT_.out HW_.out (by kernel_rfl)) (fun _ _ _ h => h) (Or.inl ⟨by rfl, ?_⟩) hHeld ?_ ?_
   rotate_left
   ·rintro w' ⟨s0, s1, s2, s3, s4, s5⟩
    go_simp
    with_reducible rfl
   rotate_left
   ·simp only [Act.put, List.setIfInBounds_toArray, List.set_cons_zero, List.set_cons_succ, i64_w, i32_w]
    rfl
   refine pure_ (i := 5) (N := some 34) (v := ?_) (a' := ?_) #[true, true, true, true, true, true, false, true, false, true, false, true, false, false, false, true, false, false] rfl rfl (any_of HT_.out (by kernel_rfl)) (fun _ _ _ h => h) (Or.inl ⟨by rfl, ?_⟩) ?_ ?_
   rotate_left
   ·intro w'
    go_simp
    with_reducible rfl
   rotate_left
   ·simp only [Act.put, List.setIfInBounds_toArray, List.set_cons_zero, List.set_cons_succ, i64_w, i32_w]
    rfl
   refine take_ (i := 8) (N := some 37) (v := ?_) (a' := ?_) #[true, true, true, true, true, true, false, true, true, true, false, true, false, false, false, true, false, false] rfl rfl (take_ofW HT_.out HW_.out (by kernel_rfl)) (fun _ _ _ h => h) (Or.inl ⟨by rfl, ?_⟩) hHeld ?_ ?_
   rotate_left
   ·rintro w' ⟨s0, s1, s2, s3, s4, s5⟩
    go_simp
    with_reducible rfl
   rotate_left
   ·simp only [Act.put, List.setIfInBounds_toArray, List.set_cons_zero, List.set_cons_succ, i64_w, i32_w]
    rfl
   refine take_ (i := 10) (N := some 39) (v := ?_) (a' := ?_) #[true, true, true, true, true, true, false, true, true, true, true, true, false, false, false, true, false, false] rfl rfl (take_ofW HT_.out HW_.out (by kernel_rfl)) (fun _ _ _ h => h) (Or.inl ⟨by rfl, ?_⟩) hHeld ?_ ?_
   rotate_left
   ·rintro w' ⟨s0, s1, s2, s3, s4, s5⟩
    go_simp
    with_reducible rfl
   rotate_left
   ·simp only [Act.put, List.setIfInBounds_toArray, List.set_cons_zero, List.set_cons_succ, i64_w, i32_w]
    rfl
   refine pure_ (i := 12) (N := some 41) (v := ?_) (a' := ?_) #[true, true, true, true, true, true, false, true, true, true, true, true, true, false, false, true, false, false] rfl rfl (any_of HT_.out (by kernel_rfl)) (fun _ _ _ h => h) (Or.inl ⟨by rfl, ?_⟩) ?_ ?_
   rotate_left
   ·intro w'
    go_simp
    with_reducible rfl
   rotate_left
   ·simp only [Act.put, List.setIfInBounds_toArray, List.set_cons_zero, List.set_cons_succ, i64_w, i32_w]
    rfl
   refine one_ (i := 6) (N := some 35) #[true, true, true, true, true, true, true, true, true, true, true, true, true, false, false, true, false, false] rfl rfl (one_of HT_.out (by kernel_rfl)) (by decide) (fun K hK => ?_)
   refine goes_ Try.func151 (by kernel_rfl) rfl #[.agg #[.int .i64 a0_0, .slice A0_1 l0_1.length c0_1], .int .i64 (wrap64 (a0_2 - (ji29)))] (by rfl) rfl rfl (by (try simp only [List.map_toArray, List.map_cons, List.map_nil]); first | done | (simp only [hji29]; rfl) | rfl | (simp only [List.length_drop, List.length_take]; rfl)) ?_
   with_reducible refine (spec_l02Left.calls k a0_0 _ _ l0_1 (wrap64 (a0_2 - (ji29))) t443 t444 _ ?side1 ?side2 A30.out).mono ?_
   (case side1 => repeat (first | exact (Kd.C_below HR0_1.out HB.out) | (with_reducible refine Kd.C_alloc ?_ _) | (with_reducible refine Kd.C_drewN ?_ _) | (with_reducible refine Kd.C_drew ?_)))
   (case side2 => exact HC0_1.out)
   rintro e w43 ⟨v445, rfl, ho0, hb⟩
   refine ⟨_, rfl, ?_⟩
   have n0_ := Azq.mk (Kd.R_lower ho0 (wzq (by repeat (first | (with_reducible first | exact HB.out | apply waq | apply wdq | apply wrq | refine wsq ?_ GE430.out | refine wsq ?_ GE431.out | refine wsq ?_ GE432.out) | exact HB.out))))
   have n1_ := Azq.mk (kbq (g := gb430) (o := .cells #[.int .i64 a0_0, .slice A0_1 l0_1.length c0_1, .int .i64 a0_2] 31 (0, 0)) (by (with_reducible repeat (first | refine kdq ?_ _ | refine krq ?_ | refine kaq ?_ _)); exact BK430.out) hb)
   have n2_ := Azq.mk (kbq (g := gb431) (o := .cells #[.int .i64 a1_0, .slice A1_1 l1_1.length c1_1, .int .i64 a1_2] 31 (0, 0)) (by (with_reducible repeat (first | refine kdq ?_ _ | refine krq ?_ | refine kaq ?_ _)); exact BK431.out) hb)
   have n3_ := Azq.mk (kbq (g := gb432) (o := .cells #[.int .i64 0, .slice none 0 0, .int .i64 0] 31 (0, 0)) (by (with_reducible repeat (first | refine kdq ?_ _ | refine krq ?_ | refine kaq ?_ _)); exact BK432.out) hb)
   have n4_ := Azq.mk (wtq (by repeat (first | (with_reducible first | exact HB.out | apply waq | apply wdq | apply wrq | refine wsq ?_ GE430.out | refine wsq ?_ GE431.out | refine wsq ?_ GE432.out) | exact HB.out)) hb)
   clear BK430
   clear BK431
   clear BK432
   clear HB
   have HO446 := n0_
   have BK430 := n1_
   have BK431 := n2_
   have BK432 := n3_
   have HB := n4_
   clear n0_ n1_ n2_ n3_ n4_
   (try clear hb)
   (try clear hb2)
   (try clear hk)
   (try clear hi)
   (try clear ho0)
   refine hK.out _ _ ⟨(kcq BK430.out 0).trans rfl, (kcq BK430.out 1).trans rfl, (kcq BK430.out 2).trans rfl, (kcq BK431.out 0).trans rfl, (kcq BK431.out 1).trans rfl, (kcq BK431.out 2).trans rfl⟩ (fun hHeld => ?_)
   clear hK K
   refine norm_ (a' := ?_) ?_ ?_
   rotate_left
   ·show Act.put _ (some 35) _ = _
    simp only [Act.put, List.setIfInBounds_toArray, List.set_cons_zero, List.set_cons_succ, i64_w, i32_w]
    rfl
   refine one_ (i := 13) (N := some 42) #[true, true, true, true, true, true, true, true, true, true, true, true, true, true, false, true, false, false] rfl rfl (one_of HT_.out (by kernel_rfl)) (by decide) (fun K hK => ?_)
   refine goes_ Try.func151 (by kernel_rfl) rfl #[.agg #[.int .i64 a1_0, .slice A1_1 l1_1.length c1_1], .int .i64 (wrap64 (a1_2 - (ji29)))] (by rfl) rfl rfl (by (try simp only [List.map_toArray, List.map_cons, List.map_nil]); first | done | (simp only [hji29]; rfl) | rfl | (simp only [List.length_drop, List.length_take]; rfl)) ?_
   with_reducible refine (spec_l02Left.calls k a1_0 _ _ l1_1 (wrap64 (a1_2 - (ji29))) t447 t448 _ ?side1 ?side2 A31.out).mono ?_
   (case side1 => repeat (first | exact (Kd.C_below HR1_1.out HB.out) | (with_reducible refine Kd.C_alloc ?_ _) | (with_reducible refine Kd.C_drewN ?_ _) | (with_reducible refine Kd.C_drew ?_)))
   (case side2 => exact HC1_1.out)
   rintro e w44 ⟨v449, rfl, ho0, hb⟩
   refine ⟨_, rfl, ?_⟩
   have n0_ := Azq.mk (Kd.R_elder' (by (with_reducible repeat (first | apply Kd.R_alloc | apply Kd.R_drewN | apply Kd.R_drew)); exact HO446.out) (Kd.R_base ho0) hb)
   have n1_ := Azq.mk (Kd.R_lower (Kd.R_new' ho0 (Kd.R_lt (by (with_reducible repeat (first | apply Kd.R_alloc | apply Kd.R_drewN | apply Kd.R_drew)); exact HO446.out))) (wzq (by repeat (first | (with_reducible first | exact HB.out | apply waq | apply wdq | apply wrq | refine wsq ?_ GE430.out | refine wsq ?_ GE431.out | refine wsq ?_ GE432.out) | exact HB.out))))
   have n2_ := Azq.mk (kbq (g := gb430) (o := .cells #[.int .i64 a0_0, .slice A0_1 l0_1.length c0_1, .int .i64 a0_2] 31 (0, 0)) (by (with_reducible repeat (first | refine kdq ?_ _ | refine krq ?_ | refine kaq ?_ _)); exact BK430.out) hb)
   have n3_ := Azq.mk (kbq (g := gb431) (o := .cells #[.int .i64 a1_0, .slice A1_1 l1_1.length c1_1, .int .i64 a1_2] 31 (0, 0)) (by (with_reducible repeat (first | refine kdq ?_ _ | refine krq ?_ | refine kaq ?_ _)); exact BK431.out) hb)
   have n4_ := Azq.mk (kbq (g := gb432) (o := .cells #[.int .i64 0, .slice none 0 0, .int .i64 0] 31 (0, 0)) (by (with_reducible repeat (first | refine kdq ?_ _ | refine krq ?_ | refine kaq ?_ _)); exact BK432.out) hb)
   have n5_ := Azq.mk (wtq (by repeat (first | (with_reducible first | exact HB.out | apply waq | apply wdq | apply wrq | refine wsq ?_ GE430.out | refine wsq ?_ GE431.out | refine wsq ?_ GE432.out) | exact HB.out)) hb)
   clear HO446
   clear BK430
   clear BK431
   clear BK432
   clear HB
   have HO446 := n0_
   have HO450 := n1_
   have BK430 := n2_
   have BK431 := n3_
   have BK432 := n4_
   have HB := n5_
   clear n0_ n1_ n2_ n3_ n4_ n5_
   (try clear hb)
   (try clear hb2)
   (try clear hk)
   (try clear hi)
   (try clear ho0)
   obtain ⟨Ao45, co45, eo45⟩ := Kd.R_slice HO446.out
   (first | subst eo45 | (injection eo45 with f1_ f2_ f3_; have f4_ := f1_.symm; have f5_ := f3_.symm; clear f1_ f2_ f3_; subst f4_; subst f5_))
   obtain ⟨Ao46, co46, eo46⟩ := Kd.R_slice HO450.out
   (first | subst eo46 | (injection eo46 with f1_ f2_ f3_; have f4_ := f1_.symm; have f5_ := f3_.symm; clear f1_ f2_ f3_; subst f4_; subst f5_))
   refine hK.out _ _ ⟨(kcq BK430.out 0).trans rfl, (kcq BK430.out 1).trans rfl, (kcq BK430.out 2).trans rfl, (kcq BK431.out 0).trans rfl, (kcq BK431.out 1).trans rfl, (kcq BK431.out 2).trans rfl⟩ (fun hHeld => ?_)
   clear hK K
   refine norm_ (a' := ?_) ?_ ?_
   rotate_left
   ·show Act.put _ (some 42) _ = _
    simp only [Act.put, List.setIfInBounds_toArray, List.set_cons_zero, List.set_cons_succ, i64_w, i32_w]
    rfl
   refine one_ (i := 14) (N := some 43) #[true, true, true, true, true, true, true, true, true, true, true, true, true, true, true, true, false, false] rfl rfl (one_of HT_.out (by kernel_rfl)) (by decide) (fun K hK => ?_)
   refine goes_ Try.func150 (by kernel_rfl) rfl #[.agg #[.int .i64 t443, .slice Ao45 t444.length co45], .agg #[.int .i64 t447, .slice Ao46 t448.length co46]] (by rfl) rfl rfl (by (try simp only [List.map_toArray, List.map_cons, List.map_nil]); first | done | rfl | (simp only [List.length_drop, List.length_take]; rfl)) ?_
   with_reducible refine (spec_l02Add.calls k t443 _ _ t444 t447 _ _ t448 t451 t452 _ ?side1 ?side2 ?side3 ?side4 A32.out).mono ?_
   (case side1 => repeat (first | exact (Kd.R_reads' HO446.out).2.2 | (with_reducible refine Kd.C_alloc ?_ _) | (with_reducible refine Kd.C_drewN ?_ _) | (with_reducible refine Kd.C_drew ?_)))
   (case side2 => exact (Kd.R_reads' HO446.out).2.1)
   (case side3 => repeat (first | exact (Kd.R_reads' HO450.out).2.2 | (with_reducible refine Kd.C_alloc ?_ _) | (with_reducible refine Kd.C_drewN ?_ _) | (with_reducible refine Kd.C_drew ?_)))
   (case side4 => exact (Kd.R_reads' HO450.out).2.1)
   rintro e w47 ⟨v453, rfl, ho0, hb⟩
   refine ⟨_, rfl, ?_⟩
   have n0_ := Azq.mk (Kd.R_elder' (by (with_reducible repeat (first | apply Kd.R_alloc | apply Kd.R_drewN | apply Kd.R_drew)); exact HO446.out) (Kd.R_base ho0) hb)
   have n1_ := Azq.mk (Kd.R_elder' (by (with_reducible repeat (first | apply Kd.R_alloc | apply Kd.R_drewN | apply Kd.R_drew)); exact HO450.out) (Kd.R_base ho0) hb)
   have n2_ := Azq.mk (Kd.R_lower (Kd.R_new' (Kd.R_new' ho0 (Kd.R_lt (by (with_reducible repeat (first | apply Kd.R_alloc | apply Kd.R_drewN | apply Kd.R_drew)); exact HO446.out))) (Kd.R_lt (by (with_reducible repeat (first | apply Kd.R_alloc | apply Kd.R_drewN | apply Kd.R_drew)); exact HO450.out))) (wzq (by repeat (first | (with_reducible first | exact HB.out | apply waq | apply wdq | apply wrq | refine wsq ?_ GE430.out | refine wsq ?_ GE431.out | refine wsq ?_ GE432.out) | exact HB.out))))
   have n3_ := Azq.mk (kbq (g := gb430) (o := .cells #[.int .i64 a0_0, .slice A0_1 l0_1.length c0_1, .int .i64 a0_2] 31 (0, 0)) (by (with_reducible repeat (first | refine kdq ?_ _ | refine krq ?_ | refine kaq ?_ _)); exact BK430.out) hb)
   have n4_ := Azq.mk (kbq (g := gb431) (o := .cells #[.int .i64 a1_0, .slice A1_1 l1_1.length c1_1, .int .i64 a1_2] 31 (0, 0)) (by (with_reducible repeat (first | refine kdq ?_ _ | refine krq ?_ | refine kaq ?_ _)); exact BK431.out) hb)
   have n5_ := Azq.mk (kbq (g := gb432) (o := .cells #[.int .i64 0, .slice none 0 0, .int .i64 0] 31 (0, 0)) (by (with_reducible repeat (first | refine kdq ?_ _ | refine krq ?_ | refine kaq ?_ _)); exact BK432.out) hb)
   have n6_ := Azq.mk (wtq (by repeat (first | (with_reducible first | exact HB.out | apply waq | apply wdq | apply wrq | refine wsq ?_ GE430.out | refine wsq ?_ GE431.out | refine wsq ?_ GE432.out) | exact HB.out)) hb)
   clear HO446
   clear HO450
   clear BK430
   clear BK431
   clear BK432
   clear HB
   have HO446 := n0_
   have HO450 := n1_
   have HO454 := n2_
   have BK430 := n3_
   have BK431 := n4_
   have BK432 := n5_
   have HB := n6_
   clear n0_ n1_ n2_ n3_ n4_ n5_ n6_
   (try clear hb)
   (try clear hb2)
   (try clear hk)
   (try clear hi)
   (try clear ho0)
   obtain ⟨Ao48, co48, eo48⟩ := Kd.R_slice HO454.out
   (first | subst eo48 | (injection eo48 with f1_ f2_ f3_; have f4_ := f1_.symm; have f5_ := f3_.symm; clear f1_ f2_ f3_; subst f4_; subst f5_))
   refine hK.out _ _ ⟨(kcq BK430.out 0).trans rfl, (kcq BK430.out 1).trans rfl, (kcq BK430.out 2).trans rfl, (kcq BK431.out 0).trans rfl, (kcq BK431.out 1).trans rfl, (kcq BK431.out 2).trans rfl⟩ (fun hHeld => ?_)
   clear hK K
   refine norm_ (a' := ?_) ?_ ?_
   rotate_left
   ·show Act.put _ (some 43) _ = _
    simp only [Act.put, List.setIfInBounds_toArray, List.set_cons_zero, List.set_cons_succ, i64_w, i32_w]
    rfl
   refine one_ (i := 16) (N := some 45) #[true, true, true, true, true, true, true, true, true, true, true, true, true, true, true, true, true, false] rfl rfl (one_of HT_.out (by kernel_rfl)) (by decide) (fun K hK => ?_)
   refine goes_ Try.func82 (by kernel_rfl) rfl #[.agg #[.int .i64 t451, .slice Ao48 t452.length co48], .int .i64 ji29] (by rfl) rfl rfl (by (try simp only [List.map_toArray, List.map_cons, List.map_nil]); first | done | (simp only [hji29]; rfl) | rfl | (simp only [List.length_drop, List.length_take]; rfl)) ?_
   with_reducible refine (spec_l03Make.calls k t451 _ _ t452 ji29 t455 t456 t459 _ ?side1 ?side2 A33.out).mono ?_
   (case side1 => repeat (first | exact (Kd.R_reads' HO454.out).2.2 | (with_reducible refine Kd.C_alloc ?_ _) | (with_reducible refine Kd.C_drewN ?_ _) | (with_reducible refine Kd.C_drew ?_)))
   (case side2 => exact (Kd.R_reads' HO454.out).2.1)
   rintro e w49 ⟨v457, rfl, ho0, hb⟩
   refine ⟨_, rfl, ?_⟩
   have n0_ := Azq.mk (Kd.R_elder' (by (with_reducible repeat (first | apply Kd.R_alloc | apply Kd.R_drewN | apply Kd.R_drew)); exact HO446.out) (Kd.R_base ho0) hb)
   have n1_ := Azq.mk (Kd.R_elder' (by (with_reducible repeat (first | apply Kd.R_alloc | apply Kd.R_drewN | apply Kd.R_drew)); exact HO450.out) (Kd.R_base ho0) hb)
   have n2_ := Azq.mk (Kd.R_elder' (by (with_reducible repeat (first | apply Kd.R_alloc | apply Kd.R_drewN | apply Kd.R_drew)); exact HO454.out) (Kd.R_base ho0) hb)
   have n3_ := Azq.mk (Kd.R_lower (Kd.R_new' (Kd.R_new' (Kd.R_new' ho0 (Kd.R_lt (by (with_reducible repeat (first | apply Kd.R_alloc | apply Kd.R_drewN | apply Kd.R_drew)); exact HO446.out))) (Kd.R_lt (by (with_reducible repeat (first | apply Kd.R_alloc | apply Kd.R_drewN | apply Kd.R_drew)); exact HO450.out))) (Kd.R_lt (by (with_reducible repeat (first | apply Kd.R_alloc | apply Kd.R_drewN | apply Kd.R_drew)); exact HO454.out))) (wzq (by repeat (first | (with_reducible first | exact HB.out | apply waq | apply wdq | apply wrq | refine wsq ?_ GE430.out | refine wsq ?_ GE431.out | refine wsq ?_ GE432.out) | exact HB.out))))
   have n4_ := Azq.mk (kbq (g := gb430) (o := .cells #[.int .i64 a0_0, .slice A0_1 l0_1.length c0_1, .int .i64 a0_2] 31 (0, 0)) (by (with_reducible repeat (first | refine kdq ?_ _ | refine krq ?_ | refine kaq ?_ _)); exact BK430.out) hb)
   have n5_ := Azq.mk (kbq (g := gb431) (o := .cells #[.int .i64 a1_0, .slice A1_1 l1_1.length c1_1, .int .i64 a1_2] 31 (0, 0)) (by (with_reducible repeat (first | refine kdq ?_ _ | refine krq ?_ | refine kaq ?_ _)); exact BK431.out) hb)
   have n6_ := Azq.mk (kbq (g := gb432) (o := .cells #[.int .i64 0, .slice none 0 0, .int .i64 0] 31 (0, 0)) (by (with_reducible repeat (first | refine kdq ?_ _ | refine krq ?_ | refine kaq ?_ _)); exact BK432.out) hb)
   have n7_ := Azq.mk (wtq (by repeat (first | (with_reducible first | exact HB.out | apply waq | apply wdq | apply wrq | refine wsq ?_ GE430.out | refine wsq ?_ GE431.out | refine wsq ?_ GE432.out) | exact HB.out)) hb)
   clear HO446
   clear HO450
   clear HO454
   clear BK430
   clear BK431
   clear BK432
   clear HB
   have HO446 := n0_
   have HO450 := n1_
   have HO454 := n2_
   have HO458 := n3_
   have BK430 := n4_
   have BK431 := n5_
   have BK432 := n6_
   have HB := n7_
   clear n0_ n1_ n2_ n3_ n4_ n5_ n6_ n7_
   (try clear hb)
   (try clear hb2)
   (try clear hk)
   (try clear hi)
   (try clear ho0)
   obtain ⟨Ao51, co51, eo51⟩ := Kd.R_slice HO458.out
   (first | subst eo51 | (injection eo51 with f1_ f2_ f3_; have f4_ := f1_.symm; have f5_ := f3_.symm; clear f1_ f2_ f3_; subst f4_; subst f5_))
   refine hK.out _ _ ⟨(kcq BK430.out 0).trans rfl, (kcq BK430.out 1).trans rfl, (kcq BK430.out 2).trans rfl, (kcq BK431.out 0).trans rfl, (kcq BK431.out 1).trans rfl, (kcq BK431.out 2).trans rfl⟩ (fun hHeld => ?_)
   clear hK K
   refine norm_ (a' := ?_) ?_ ?_
   rotate_left
   ·show Act.put _ (some 45) _ = _
    simp only [Act.put, List.setIfInBounds_toArray, List.set_cons_zero, List.set_cons_succ, i64_w, i32_w]
    rfl
   refine one_ (i := 17) (N := none) #[true, true, true, true, true, true, true, true, true, true, true, true, true, true, true, true, true, true] rfl rfl (one_of HT_.out (by kernel_rfl)) (by decide) (fun K hK => ?_)
   have hs50 : w49.cell? ⟨gb432, 0, none⟩ = some (.int .i64 0) := (kcq BK432.out 0).trans rfl
   have hfs50 := kfq BK432.out 0
   have hns50_0 := NB430_432.out
   have hns50_1 := NB431_432.out
   have hms50_0 := NB432_430.out
   have hms50_1 := NB432_431.out
   have hs52 : w49.cell? ⟨gb432, 1, none⟩ = some (.slice none 0 0) := (kcq BK432.out 1).trans rfl
   have hfs52 := kfq BK432.out 1
   have hns52_0 := NB430_432.out
   have hns52_1 := NB431_432.out
   have hms52_0 := NB432_430.out
   have hms52_1 := NB432_431.out
   have hs53 : w49.cell? ⟨gb432, 2, none⟩ = some (.int .i64 0) := (kcq BK432.out 2).trans rfl
   have hfs53 := kfq BK432.out 2
   have hns53_0 := NB430_432.out
   have hns53_1 := NB431_432.out
   have hms53_0 := NB432_430.out
   have hms53_1 := NB432_431.out
   refine skip_ (w1 := ?_) (by rfl) rfl ?_ ?_
   rotate_left
   ·go_simp
    rfl
   refine hK.out _ _ ⟨((cell_far (p := ⟨gb432, _, none⟩) NB430_432.out _).trans (((cell_far (p := ⟨gb432, _, none⟩) NB430_432.out _).trans (((cell_far (p := ⟨gb432, _, none⟩) NB430_432.out _).trans (hHeld.1)))))), ((cell_far (p := ⟨gb432, _, none⟩) NB430_432.out _).trans (((cell_far (p := ⟨gb432, _, none⟩) NB430_432.out _).trans (((cell_far (p := ⟨gb432, _, none⟩) NB430_432.out _).trans (hHeld.2.1)))))), ((cell_far (p := ⟨gb432, _, none⟩) NB430_432.out _).trans (((cell_far (p := ⟨gb432, _, none⟩) NB430_432.out _).trans (((cell_far (p := ⟨gb432, _, none⟩) NB430_432.out _).trans (hHeld.2.2.1)))))), ((cell_far (p := ⟨gb432, _, none⟩) NB431_432.out _).trans (((cell_far (p := ⟨gb432, _, none⟩) NB431_432.out _).trans (((cell_far (p := ⟨gb432, _, none⟩) NB431_432.out _).trans (hHeld.2.2.2.1)))))), ((cell_far (p := ⟨gb432, _, none⟩) NB431_432.out _).trans (((cell_far (p := ⟨gb432, _, none⟩) NB431_432.out _).trans (((cell_far (p := ⟨gb432, _, none⟩) NB431_432.out _).trans (hHeld.2.2.2.2.1)))))), ((cell_far (p := ⟨gb432, _, none⟩) NB431_432.out _).trans (((cell_far (p := ⟨gb432, _, none⟩) NB431_432.out _).trans (((cell_far (p := ⟨gb432, _, none⟩) NB431_432.out _).trans (hHeld.2.2.2.2.2))))))⟩ (fun hHeld => ?_)
   clear hK K
   refine done_ (done_of HT_.out (by kernel_rfl)) ?_
   try go_wp2
   refine bodyPost_ret (results_cell_row rfl _ _ gb432 31 #[.int .i64 t455, .slice Ao51 t456.length co51, .int .i64 t459] (0, 0) _ rfl (by (with_reducible repeat (first | refine kdq ?_ _ | refine krq ?_ | refine kaq ?_ _)); refine blk_put (cs := #[.int .i64 t455, .slice Ao51 t456.length co51, .int .i64 0]) ?_ 2 _ rfl; (with_reducible repeat (first | refine kdq ?_ _ | refine krq ?_ | refine kaq ?_ _)); refine blk_put (cs := #[.int .i64 t455, .slice none 0 0, .int .i64 0]) ?_ 1 _ rfl; (with_reducible repeat (first | refine kdq ?_ _ | refine krq ?_ | refine kaq ?_ _)); refine blk_put (cs := #[.int .i64 0, .slice none 0 0, .int .i64 0]) ?_ 0 _ rfl; (with_reducible repeat (first | refine kdq ?_ _ | refine krq ?_ | refine kaq ?_ _)); exact BK432.out) Try.underlying31 rfl (by kernel_rfl)) rfl ?_
   exact ⟨_, by first | rfl | (simp [errW_none, errW_some] <;> rfl) | (simp only [← hji29]; first | rfl | (simp [errW_none, errW_some] <;> rfl)) | (simp [*, errW_none, errW_some] <;> rfl), by (with_reducible repeat (first | apply Kd.R_alloc | apply Kd.R_drewN | apply Kd.R_drew)); exact Kd.R_mono (Kd.R_far (p := ⟨gb432, 2, none⟩) (Kd.R_far (p := ⟨gb432, 1, none⟩) (Kd.R_far (p := ⟨gb432, 0, none⟩) (Kd.R_types HO458.out BK432.out (by decide)) (fun _ hk => hk.2) (.int .i64 t455)) (fun _ hk => hk.2) (.slice Ao51 t456.length co51)) (fun _ hk => hk.2) (.int .i64 t459)) (fun _ hk => trivial), by repeat (first | (with_reducible first | exact HB.out | apply waq | apply wdq | apply wrq | refine wsq ?_ GE430.out | refine wsq ?_ GE431.out | refine wsq ?_ GE432.out) | exact HB.out)⟩
end Go.Proofs.Ytdboepiobaehkaa.PW
end
section
namespace Go.Proofs.Ytdboepiobaehkaa.PW
open Go.RowKit Go.Proofs.YtdboepiobaehkaaW.PrintWords Go.Proofs.YtdboepiobaehkaaW.PrintLast Go.Proofs.YtdboepiobaehkaaW.PrintMore
attribute [local go_sem] max2_int min2_int max_two min_two max_three min_three max_four min_four   -- for this text's walks alone
set_option linter.unusedVariables false
set_option linter.unusedSimpArgs false
def spec_l02Neg.f (k : Nat) (a0_0 : Int) (l0_1 : List Int) : Option (Int × List Int) := (spec_l02Make.f k (wrap64 (-a0_0)) l0_1).bind fun bt462 => (some (bt462.1, bt462.2))
theorem spec_l02Neg.mono : ∀ a0 a1 k, LeO (spec_l02Neg.f k a0 a1) (spec_l02Neg.f (k + 1) a0 a1) := by
 intro a0 a1 k
 unfold spec_l02Neg.f
 repeat' first
   | (with_reducible exact spec_l02Make.mono _ _ _)
   | (with_reducible exact LeO.refl _)
   | (with_reducible exact LeO.none _)
   | (with_reducible refine LeO.ite ?_ ?_)
   | (with_reducible refine LeO.bind ?_ (fun _ => ?_))
   | exact spec_l02Make.mono _ _ _
   | exact LeO.none _
   | refine LeO.ite ?_ ?_
   | refine LeO.bind ?_ (fun _ => ?_)
set_option maxHeartbeats 8000000 in
set_option maxRecDepth 100000 in
theorem spec_l02Neg.calls (k : Nat) (a0_0 : Int) (A0_1 : Option Addr) (c0_1 : Nat) (l0_1 : List Int) (r1 : Int) (r2 : List Int) (w : World) (hr0_1 : Kd.C (Kd.int .i64) w A0_1 l0_1.length l0_1) (hc0_1 : l0_1.length ≤ c0_1) (h : spec_l02Neg.f k a0_0 l0_1 = some (r1, r2)) :
  Calls Try.prog 196 #[.agg #[.int .i64 a0_0, .slice A0_1 l0_1.length c0_1]] w fun e w' => ∃ v1_ : Value, e = .returned (.agg #[.int .i64 r1, v1_]) ∧ Kd.R (Kd.int .i64) 2 w' w.heap.size (fun _ => True) v1_ r2 ∧ Below w.heap.size w w' := by
 have hu29 := Try.underlying29
 have HR0_1 := Azq.mk hr0_1
 have HC0_1 := Azq.mk hc0_1
 clear hr0_1 hc0_1
 have HB := Azq.mk (Below.refl w.heap.size w)
 have H : ((spec_l02Make.f k (wrap64 (-a0_0)) l0_1).bind fun bt462 => (some (bt462.1, bt462.2))) = some (r1, r2) := h
 clear h
 replace H := Option.bind_eq_some_iff.mp H
 obtain ⟨⟨t462, t463⟩, A20, H⟩ := H
 replace H : (some (t462, t463)) = some (r1, r2) := H
 have A2 := Azq.mk A20
 clear A20
 simp only [Option.some.injEq, Prod.mk.injEq] at H
 obtain ⟨rfl, rfl⟩ := H
 go_enter Try.func196, Try.ntmps196
 go_wp2_with (first | ((with_reducible refine gate_dst (N := 1) rfl ?_); refine box_event ?hg (N := 1) ?hd (cs := #[.int .i64 a0_0, .slice A0_1 l0_1.length c0_1]) (t := 29) ?hr ?_; (case hd => rfl); (case hg => rfl); (case hr => first | (go_simp; done) | (go_simp; rfl)); intro gb460 hg w3 hbox hb; have n0_ := Azq.mk (wtq (by repeat (first | (with_reducible first | exact HB.out | apply waq | apply wdq | apply wrq) | exact HB.out)) hb); have n1_ := Azq.mk (hbox); have n2_ := Azq.mk ((by rw [hg]; exact (wzq (by repeat (first | (with_reducible first | exact HB.out | apply waq | apply wdq | apply wrq) | exact HB.out))) : w.heap.size ≤ gb460)); have n3_ := Azq.mk ((by rw [hg]; exact (wzq (by repeat (first | (with_reducible first | exact HB.out | apply waq | apply wdq | apply wrq) | exact HB.out))) : w.heap.size ≤ gb460)); clear HB; have HB := n0_; have BK460 := n1_; have GW460 := n2_; have GE460 := n3_; clear n0_ n1_ n2_ n3_; clear hb hbox hg) | ((with_reducible refine gate_dst (N := 2) rfl ?_); refine box_event ?hg (N := 2) ?hd (cs := #[.int .i64 0, .slice none 0 0]) (t := 29) ?hr ?_; (case hd => rfl); (case hg => rfl); (case hr => first | (go_simp; done) | (go_simp; rfl)); intro gb461 hg w4 hbox hb; have n0_ := Azq.mk (kbq (g := gb460) (o := .cells #[.int .i64 a0_0, .slice A0_1 l0_1.length c0_1] 29 (0, 0)) (by (with_reducible repeat (first | refine kdq ?_ _ | refine krq ?_ | refine kaq ?_ _)); exact BK460.out) hb); have n1_ := Azq.mk (wtq (by repeat (first | (with_reducible first | exact HB.out | apply waq | apply wdq | apply wrq | refine wsq ?_ GE460.out) | exact HB.out)) hb); have n2_ := Azq.mk (hbox); have n3_ := Azq.mk ((by rw [hg]; exact (wzq (by repeat (first | (with_reducible first | exact HB.out | apply waq | apply wdq | apply wrq | refine wsq ?_ GE460.out) | exact HB.out))) : w.heap.size ≤ gb461)); have n4_ := Azq.mk ((by rw [hg]; exact (wzq (by repeat (first | (with_reducible first | exact HB.out | apply waq | apply wdq | apply wrq | refine wsq ?_ GE460.out) | exact HB.out))) : w.heap.size ≤ gb461)); have n5_ := Azq.mk ((by rw [hg]; exact Nat.ne_of_lt (klq (g := gb460) (o := .cells #[.int .i64 a0_0, .slice A0_1 l0_1.length c0_1] 29 (0, 0)) (by (with_reducible repeat (first | refine kdq ?_ _ | refine krq ?_ | refine kaq ?_ _)); exact BK460.out)) : gb460 ≠ gb461)); have n6_ := Azq.mk ((by rw [hg]; exact Nat.ne_of_gt (klq (g := gb460) (o := .cells #[.int .i64 a0_0, .slice A0_1 l0_1.length c0_1] 29 (0, 0)) (by (with_reducible repeat (first | refine kdq ?_ _ | refine krq ?_ | refine kaq ?_ _)); exact BK460.out)) : gb461 ≠ gb460)); clear BK460; clear HB; have BK460 := n0_; have HB := n1_; have BK461 := n2_; have GW461 := n3_; have GE461 := n4_; have NB460_461 := n5_; have NB461_460 := n6_; clear n0_ n1_ n2_ n3_ n4_ n5_ n6_; clear hb hbox hg; have hnb5 := NB460_461.out; have hnc5 := NB461_460.out; have hcz6_0 : w4.cell? ⟨gb460, 0, none⟩ = some (.int .i64 a0_0) := (kcq BK460.out 0).trans rfl; have hcz6_1 : w4.cell? ⟨gb460, 1, none⟩ = some (.slice A0_1 l0_1.length c0_1) := (kcq BK460.out 1).trans rfl; have hfz6_0 := kfq BK460.out 0; have hfz6_1 := kfq BK460.out 1) | ((with_reducible refine gate_callee (f := 189) rfl ?_); refine goesL_ (some 8) rfl rfl Try.func189 (by kernel_rfl) rfl #[.int .i64 (wrap64 (-a0_0)), .slice A0_1 l0_1.length c0_1] rfl (by (try simp only [List.map_toArray, List.map_cons, List.map_nil]); first | done | rfl | (simp only [List.length_drop, List.length_take]; rfl)) ?_; (with_reducible refine (spec_l02Make.calls k (wrap64 (-a0_0)) _ _ l0_1 t462 t463 _ ?side1 ?side2 A2.out).mono ?_); (case side1 => repeat (first | exact (Kd.C_below HR0_1.out HB.out) | (with_reducible refine Kd.C_alloc ?_ _) | (with_reducible refine Kd.C_drewN ?_ _) | (with_reducible refine Kd.C_drew ?_))); (case side2 => exact HC0_1.out); rintro e w7 ⟨v464, rfl, ho0, hb⟩; refine ⟨_, rfl, ?_⟩; have n0_ := Azq.mk (Kd.R_lower ho0 (wzq (by repeat (first | (with_reducible first | exact HB.out | apply waq | apply wdq | apply wrq | refine wsq ?_ GE460.out | refine wsq ?_ GE461.out) | exact HB.out)))); have n1_ := Azq.mk (kbq (g := gb460) (o := .cells #[.int .i64 a0_0, .slice A0_1 l0_1.length c0_1] 29 (0, 0)) (by (with_reducible repeat (first | refine kdq ?_ _ | refine krq ?_ | refine kaq ?_ _)); exact BK460.out) hb); have n2_ := Azq.mk (kbq (g := gb461) (o := .cells #[.int .i64 0, .slice none 0 0] 29 (0, 0)) (by (with_reducible repeat (first | refine kdq ?_ _ | refine krq ?_ | refine kaq ?_ _)); exact BK461.out) hb); have n3_ := Azq.mk (wtq (by repeat (first | (with_reducible first | exact HB.out | apply waq | apply wdq | apply wrq | refine wsq ?_ GE460.out | refine wsq ?_ GE461.out) | exact HB.out)) hb); clear BK460; clear BK461; clear HB; have HO465 := n0_; have BK460 := n1_; have BK461 := n2_; have HB := n3_; clear n0_ n1_ n2_ n3_; (try clear hb); (try clear hb2); (try clear hk); (try clear hi); (try clear ho0); have hcz8_0 : w7.cell? ⟨gb461, 0, none⟩ = some (.int .i64 0) := (kcq BK461.out 0).trans rfl; have hcz8_1 : w7.cell? ⟨gb461, 1, none⟩ = some (.slice none 0 0) := (kcq BK461.out 1).trans rfl; have hfz8_0 := kfq BK461.out 0; have hfz8_1 := kfq BK461.out 1; obtain ⟨Ao9, co9, eo9⟩ := Kd.R_slice HO465.out; subst eo9))
 refine bodyPost_ret (results_cell_row rfl _ _ gb461 29 #[.int .i64 t462, .slice Ao9 t463.length co9] (0, 0) _ rfl (by (with_reducible repeat (first | refine kdq ?_ _ | refine krq ?_ | refine kaq ?_ _)); refine blk_put (cs := #[.int .i64 t462, .slice none 0 0]) ?_ 1 _ rfl; (with_reducible repeat (first | refine kdq ?_ _ | refine krq ?_ | refine kaq ?_ _)); refine blk_put (cs := #[.int .i64 0, .slice none 0 0]) ?_ 0 _ rfl; (with_reducible repeat (first | refine kdq ?_ _ | refine krq ?_ | refine kaq ?_ _)); exact BK461.out) Try.underlying29 rfl (by kernel_rfl)) rfl ?_
 exact ⟨_, by first | rfl | (simp [errW_none, errW_some] <;> rfl) | (simp [*, errW_none, errW_some] <;> rfl), by (with_reducible repeat (first | apply Kd.R_alloc | apply Kd.R_drewN | apply Kd.R_drew)); exact Kd.R_mono (Kd.R_far (p := ⟨gb461, 1, none⟩) (Kd.R_far (p := ⟨gb461, 0, none⟩) (Kd.R_types HO465.out BK461.out (by decide)) (fun _ hk => hk.2) (.int .i64 t462)) (fun _ hk => hk.2) (.slice Ao9 t463.length co9)) (fun _ hk => trivial), by repeat (first | (with_reducible first | exact HB.out | apply waq | apply wdq | apply wrq | refine wsq ?_ GE460.out | refine wsq ?_ GE461.out) | exact HB.out)⟩
end Go.Proofs.Ytdboepiobaehkaa.PW
end
section
namespace Go.Proofs.Ytdboepiobaehkaa.PW
open Go.RowKit Go.Proofs.YtdboepiobaehkaaW.PrintWords Go.Proofs.YtdboepiobaehkaaW.PrintLast Go.Proofs.YtdboepiobaehkaaW.PrintMore
attribute [local go_sem] max2_int min2_int max_two min_two max_three min_three max_four min_four   -- for this text's walks alone
set_option linter.unusedVariables false
set_option linter.unusedSimpArgs false
def spec_l03Neg.f (k : Nat) (a0_0 : Int) (l0_1 : List Int) (a0_2 : Int) : Option (Int × List Int × Int) := (spec_l02Neg.f k a0_0 l0_1).bind fun bt468 => (some (bt468.1, bt468.2, a0_2))
theorem spec_l03Neg.mono : ∀ a0 a1 a2 k, LeO (spec_l03Neg.f k a0 a1 a2) (spec_l03Neg.f (k + 1) a0 a1 a2) := by
 intro a0 a1 a2 k
 unfold spec_l03Neg.f
 repeat' first
   | (with_reducible exact spec_l02Neg.mono _ _ _)
   | (with_reducible exact LeO.refl _)
   | (with_reducible exact LeO.none _)
   | (with_reducible refine LeO.ite ?_ ?_)
   | (with_reducible refine LeO.bind ?_ (fun _ => ?_))
   | exact spec_l02Neg.mono _ _ _
   | exact LeO.none _
   | refine LeO.ite ?_ ?_
   | refine LeO.bind ?_ (fun _ => ?_)
set_option maxHeartbeats 8000000 in
set_option maxRecDepth 100000 in
theorem spec_l03Neg.calls (k : Nat) (a0_0 : Int) (A0_1 : Option Addr) (c0_1 : Nat) (l0_1 : List Int) (a0_2 : Int) (r1 : Int) (r2 : List Int) (r3 : Int) (w : World) (hr0_1 : Kd.C (Kd.int .i64) w A0_1 l0_1.length l0_1) (hc0_1 : l0_1.length ≤ c0_1) (h : spec_l03Neg.f k a0_0 l0_1 a0_2 = some (r1, r2, r3)) :
  Calls Try.prog 149 #[.agg #[.int .i64 a0_0, .slice A0_1 l0_1.length c0_1, .int .i64 a0_2]] w fun e w' => ∃ v1_ : Value, e = .returned (.agg #[.int .i64 r1, v1_, .int .i64 r3]) ∧ Kd.R (Kd.int .i64) 2 w' w.heap.size (fun _ => True) v1_ r2 ∧ Below w.heap.size w w' := by
 have hu31 := Try.underlying31
 have hu29 := Try.underlying29
 have HR0_1 := Azq.mk hr0_1
 have HC0_1 := Azq.mk hc0_1
 clear hr0_1 hc0_1
 have HB := Azq.mk (Below.refl w.heap.size w)
 have H : ((spec_l02Neg.f k a0_0 l0_1).bind fun bt468 => (some (bt468.1, bt468.2, a0_2))) = some (r1, r2, r3) := h
 clear h
 replace H := Option.bind_eq_some_iff.mp H
 obtain ⟨⟨t468, t469⟩, A20, H⟩ := H
 replace H : (some (t468, t469, a0_2)) = some (r1, r2, r3) := H
 have A2 := Azq.mk A20
 clear A20
 simp only [Option.some.injEq, Prod.mk.injEq] at H
 obtain ⟨rfl, rfl, rfl⟩ := H
 go_enter Try.func149, Try.ntmps149
 try go_wp2_with (first | ((with_reducible refine gate_dst (N := 1) rfl ?_); refine box_event ?hg (N := 1) ?hd (cs := #[.int .i64 a0_0, .slice A0_1 l0_1.length c0_1, .int .i64 a0_2]) (t := 31) ?hr ?_; (case hd => rfl); (case hg => rfl); (case hr => first | (go_simp; done) | (go_simp; rfl)); intro gb466 hg w3 hbox hb; have n0_ := Azq.mk (wtq (by repeat (first | (with_reducible first | exact HB.out | apply waq | apply wdq | apply wrq) | exact HB.out)) hb); have n1_ := Azq.mk (hbox); have n2_ := Azq.mk ((by rw [hg]; exact (wzq (by repeat (first | (with_reducible first | exact HB.out | apply waq | apply wdq | apply wrq) | exact HB.out))) : w.heap.size ≤ gb466)); have n3_ := Azq.mk ((by rw [hg]; exact (wzq (by repeat (first | (with_reducible first | exact HB.out | apply waq | apply wdq | apply wrq) | exact HB.out))) : w.heap.size ≤ gb466)); clear HB; have HB := n0_; have BK466 := n1_; have GW466 := n2_; have GE466 := n3_; clear n0_ n1_ n2_ n3_; clear hb hbox hg) | ((with_reducible refine gate_dst (N := 2) rfl ?_); refine box_event ?hg (N := 2) ?hd (cs := #[.int .i64 0, .slice none 0 0, .int .i64 0]) (t := 31) ?hr ?_; (case hd => rfl); (case hg => rfl); (case hr => first | (go_simp; done) | (go_simp; rfl)); intro gb467 hg w4 hbox hb; have n0_ := Azq.mk (kbq (g := gb466) (o := .cells #[.int .i64 a0_0, .slice A0_1 l0_1.length c0_1, .int .i64 a0_2] 31 (0, 0)) (by (with_reducible repeat (first | refine kdq ?_ _ | refine krq ?_ | refine kaq ?_ _)); exact BK466.out) hb); have n1_ := Azq.mk (wtq (by repeat (first | (with_reducible first | exact HB.out | apply waq | apply wdq | apply wrq | refine wsq ?_ GE466.out) | exact HB.out)) hb); have n2_ := Azq.mk (hbox); have n3_ := Azq.mk ((by rw [hg]; exact (wzq (by repeat (first | (with_reducible first | exact HB.out | apply waq | apply wdq | apply wrq | refine wsq ?_ GE466.out) | exact HB.out))) : w.heap.size ≤ gb467)); have n4_ := Azq.mk ((by rw [hg]; exact (wzq (by repeat (first | (with_reducible first | exact HB.out | apply waq | apply wdq | apply wrq | refine wsq ?_ GE466.out) | exact HB.out))) : w.heap.size ≤ gb467)); have n5_ := Azq.mk ((by rw [hg]; exact Nat.ne_of_lt (klq (g := gb466) (o := .cells #[.int .i64 a0_0, .slice A0_1 l0_1.length c0_1, .int .i64 a0_2] 31 (0, 0)) (by (with_reducible repeat (first | refine kdq ?_ _ | refine krq ?_ | refine kaq ?_ _)); exact BK466.out)) : gb466 ≠ gb467)); have n6_ := Azq.mk ((by rw [hg]; exact Nat.ne_of_gt (klq (g := gb466) (o := .cells #[.int .i64 a0_0, .slice A0_1 l0_1.length c0_1, .int .i64 a0_2] 31 (0, 0)) (by (with_reducible repeat (first | refine kdq ?_ _ | refine krq ?_ | refine kaq ?_ _)); exact BK466.out)) : gb467 ≠ gb466)); clear BK466; clear HB; have BK466 := n0_; have HB := n1_; have BK467 := n2_; have GW467 := n3_; have GE467 := n4_; have NB466_467 := n5_; have NB467_466 := n6_; clear n0_ n1_ n2_ n3_ n4_ n5_ n6_; clear hb hbox hg))
 have n0_ := Azq.mk (krq BK466.out)
 have n1_ := Azq.mk (krq BK467.out)
 have n2_ := Azq.mk (wrq HB.out)
 clear BK466
 clear BK467
 clear HB
 have BK466 := n0_
 have BK467 := n1_
 have HB := n2_
 clear n0_ n1_ n2_
 refine start_ (n := 7) (S := fun w' => w'.cell? ⟨gb466, 0, none⟩ = some (.int .i64 a0_0) ∧ w'.cell? ⟨gb466, 1, none⟩ = some (.slice A0_1 l0_1.length c0_1) ∧ w'.cell? ⟨gb466, 2, none⟩ = some (.int .i64 a0_2)) (ds := []) #[false, false, false, false, false, false, false] (by kernel_rfl) rfl rfl ⟨(kcq BK466.out 0).trans rfl, (kcq BK466.out 1).trans rfl, (kcq BK466.out 2).trans rfl⟩ (fun hHeld => ?_)
 generalize w4.drew = w5 at BK466 BK467 HB hHeld ⊢
 refine pure_ (i := 0) (N := some 3) (v := ?_) (a' := ?_) #[true, false, false, false, false, false, false] rfl rfl (by kernel_rfl) (fun _ _ _ h => h) (Or.inl ⟨by rfl, ?_⟩) ?_ ?_
 rotate_left
 ·intro w'
  go_simp
  with_reducible rfl
 rotate_left
 ·simp only [Act.put, List.setIfInBounds_toArray, List.set_cons_zero, List.set_cons_succ, i64_w, i32_w]
  rfl
 refine pure_ (i := 3) (N := some 6) (v := ?_) (a' := ?_) #[true, false, false, true, false, false, false] rfl rfl (by kernel_rfl) (fun _ _ _ h => h) (Or.inl ⟨by rfl, ?_⟩) ?_ ?_
 rotate_left
 ·intro w'
  go_simp
  with_reducible rfl
 rotate_left
 ·simp only [Act.put, List.setIfInBounds_toArray, List.set_cons_zero, List.set_cons_succ, i64_w, i32_w]
  rfl
 refine take_ (i := 1) (N := some 4) (v := ?_) (a' := ?_) #[true, true, false, true, false, false, false] rfl rfl (by kernel_rfl) (fun _ _ _ h => h) (Or.inl ⟨by rfl, ?_⟩) hHeld ?_ ?_
 rotate_left
 ·rintro w' ⟨s0, s1, s2⟩
  go_simp
  with_reducible rfl
 rotate_left
 ·simp only [Act.put, List.setIfInBounds_toArray, List.set_cons_zero, List.set_cons_succ, i64_w, i32_w]
  rfl
 refine take_ (i := 4) (N := some 7) (v := ?_) (a' := ?_) #[true, true, false, true, true, false, false] rfl rfl (by kernel_rfl) (fun _ _ _ h => h) (Or.inl ⟨by rfl, ?_⟩) hHeld ?_ ?_
 rotate_left
 ·rintro w' ⟨s0, s1, s2⟩
  go_simp
  with_reducible rfl
 rotate_left
 ·simp only [Act.put, List.setIfInBounds_toArray, List.set_cons_zero, List.set_cons_succ, i64_w, i32_w]
  rfl
 refine one_ (i := 2) (N := some 5) #[true, true, true, true, true, false, false] rfl rfl (by kernel_rfl) (by decide) (fun K hK => ?_)
 refine goes_ Try.func196 (by kernel_rfl) rfl #[.agg #[.int .i64 a0_0, .slice A0_1 l0_1.length c0_1]] (by rfl) rfl rfl (by (try simp only [List.map_toArray, List.map_cons, List.map_nil]); first | done | rfl | (simp only [List.length_drop, List.length_take]; rfl)) ?_
 with_reducible refine (spec_l02Neg.calls k a0_0 _ _ l0_1 t468 t469 _ ?side1 ?side2 A2.out).mono ?_
 (case side1 => repeat (first | exact (Kd.C_below HR0_1.out HB.out) | (with_reducible refine Kd.C_alloc ?_ _) | (with_reducible refine Kd.C_drewN ?_ _) | (with_reducible refine Kd.C_drew ?_)))
 (case side2 => exact HC0_1.out)
 rintro e w6 ⟨v470, rfl, ho0, hb⟩
 refine ⟨_, rfl, ?_⟩
 have n0_ := Azq.mk (Kd.R_lower ho0 (wzq (by repeat (first | (with_reducible first | exact HB.out | apply waq | apply wdq | apply wrq | refine wsq ?_ GE466.out | refine wsq ?_ GE467.out) | exact HB.out))))
 have n1_ := Azq.mk (kbq (g := gb466) (o := .cells #[.int .i64 a0_0, .slice A0_1 l0_1.length c0_1, .int .i64 a0_2] 31 (0, 0)) (by (with_reducible repeat (first | refine kdq ?_ _ | refine krq ?_ | refine kaq ?_ _)); exact BK466.out) hb)
 have n2_ := Azq.mk (kbq (g := gb467) (o := .cells #[.int .i64 0, .slice none 0 0, .int .i64 0] 31 (0, 0)) (by (with_reducible repeat (first | refine kdq ?_ _ | refine krq ?_ | refine kaq ?_ _)); exact BK467.out) hb)
 have n3_ := Azq.mk (wtq (by repeat (first | (with_reducible first | exact HB.out | apply waq | apply wdq | apply wrq | refine wsq ?_ GE466.out | refine wsq ?_ GE467.out) | exact HB.out)) hb)
 clear BK466
 clear BK467
 clear HB
 have HO471 := n0_
 have BK466 := n1_
 have BK467 := n2_
 have HB := n3_
 clear n0_ n1_ n2_ n3_
 (try clear hb)
 (try clear hb2)
 (try clear hk)
 (try clear hi)
 (try clear ho0)
 obtain ⟨Ao7, co7, eo7⟩ := Kd.R_slice HO471.out
 (first | subst eo7 | (injection eo7 with f1_ f2_ f3_; have f4_ := f1_.symm; have f5_ := f3_.symm; clear f1_ f2_ f3_; subst f4_; subst f5_))
 refine hK.out _ _ ⟨(kcq BK466.out 0).trans rfl, (kcq BK466.out 1).trans rfl, (kcq BK466.out 2).trans rfl⟩ (fun hHeld => ?_)
 clear hK K
 refine norm_ (a' := ?_) ?_ ?_
 rotate_left
 ·show Act.put _ (some 5) _ = _
  simp only [Act.put, List.setIfInBounds_toArray, List.set_cons_zero, List.set_cons_succ, i64_w, i32_w]
  rfl
 refine pure_ (i := 5) (N := some 8) (v := ?_) (a' := ?_) #[true, true, true, true, true, true, false] rfl rfl (by kernel_rfl) (fun _ _ _ h => h) (Or.inl ⟨by rfl, ?_⟩) ?_ ?_
 rotate_left
 ·intro w'
  go_simp
  with_reducible rfl
 rotate_left
 ·simp only [Act.put, List.setIfInBounds_toArray, List.set_cons_zero, List.set_cons_succ, i64_w, i32_w]
  rfl
 refine one_ (i := 6) (N := none) #[true, true, true, true, true, true, true] rfl rfl (by kernel_rfl) (by decide) (fun K hK => ?_)
 have hs8 : w6.cell? ⟨gb467, 0, none⟩ = some (.int .i64 0) := (kcq BK467.out 0).trans rfl
 have hfs8 := kfq BK467.out 0
 have hns8_0 := NB466_467.out
 have hms8_0 := NB467_466.out
 have hs9 : w6.cell? ⟨gb467, 1, none⟩ = some (.slice none 0 0) := (kcq BK467.out 1).trans rfl
 have hfs9 := kfq BK467.out 1
 have hns9_0 := NB466_467.out
 have hms9_0 := NB467_466.out
 have hs10 : w6.cell? ⟨gb467, 2, none⟩ = some (.int .i64 0) := (kcq BK467.out 2).trans rfl
 have hfs10 := kfq BK467.out 2
 have hns10_0 := NB466_467.out
 have hms10_0 := NB467_466.out
 refine skip_ (w1 := ?_) (by rfl) rfl ?_ ?_
 rotate_left
 ·go_simp
  rfl
 refine hK.out _ _ ⟨((cell_far (p := ⟨gb467, _, none⟩) NB466_467.out _).trans (((cell_far (p := ⟨gb467, _, none⟩) NB466_467.out _).trans (((cell_far (p := ⟨gb467, _, none⟩) NB466_467.out _).trans (hHeld.1)))))), ((cell_far (p := ⟨gb467, _, none⟩) NB466_467.out _).trans (((cell_far (p := ⟨gb467, _, none⟩) NB466_467.out _).trans (((cell_far (p := ⟨gb467, _, none⟩) NB466_467.out _).trans (hHeld.2.1)))))), ((cell_far (p := ⟨gb467, _, none⟩) NB466_467.out _).trans (((cell_far (p := ⟨gb467, _, none⟩) NB466_467.out _).trans (((cell_far (p := ⟨gb467, _, none⟩) NB466_467.out _).trans (hHeld.2.2))))))⟩ (fun hHeld => ?_)
 clear hK K
 refine done_ (by kernel_rfl) ?_
 try go_wp2
 refine bodyPost_ret (results_cell_row rfl _ _ gb467 31 #[.int .i64 t468, .slice Ao7 t469.length co7, .int .i64 a0_2] (0, 0) _ rfl (by (with_reducible repeat (first | refine kdq ?_ _ | refine krq ?_ | refine kaq ?_ _)); refine blk_put (cs := #[.int .i64 t468, .slice Ao7 t469.length co7, .int .i64 0]) ?_ 2 _ rfl; (with_reducible repeat (first | refine kdq ?_ _ | refine krq ?_ | refine kaq ?_ _)); refine blk_put (cs := #[.int .i64 t468, .slice none 0 0, .int .i64 0]) ?_ 1 _ rfl; (with_reducible repeat (first | refine kdq ?_ _ | refine krq ?_ | refine kaq ?_ _)); refine blk_put (cs := #[.int .i64 0, .slice none 0 0, .int .i64 0]) ?_ 0 _ rfl; (with_reducible repeat (first | refine kdq ?_ _ | refine krq ?_ | refine kaq ?_ _)); exact BK467.out) Try.underlying31 rfl (by kernel_rfl)) rfl ?_
 exact ⟨_, by first | rfl | (simp [errW_none, errW_some] <;> rfl) | (simp [*, errW_none, errW_some] <;> rfl), by (with_reducible repeat (first | apply Kd.R_alloc | apply Kd.R_drewN | apply Kd.R_drew)); exact Kd.R_mono (Kd.R_far (p := ⟨gb467, 2, none⟩) (Kd.R_far (p := ⟨gb467, 1, none⟩) (Kd.R_far (p := ⟨gb467, 0, none⟩) (Kd.R_types HO471.out BK467.out (by decide)) (fun _ hk => hk.2) (.int .i64 t468)) (fun _ hk => hk.2) (.slice Ao7 t469.length co7)) (fun _ hk => hk.2) (.int .i64 a0_2)) (fun _ hk => trivial), by repeat (first | (with_reducible first | exact HB.out | apply waq | apply wdq | apply wrq | refine wsq ?_ GE466.out | refine wsq ?_ GE467.out) | exact HB.out)⟩
end Go.Proofs.Ytdboepiobaehkaa.PW
end
section
namespace Go.Proofs.Ytdboepiobaehkaa.PW
open Go.RowKit Go.Proofs.YtdboepiobaehkaaW.PrintWords Go.Proofs.YtdboepiobaehkaaW.PrintLast Go.Proofs.YtdboepiobaehkaaW.PrintMore
attribute [local go_sem] max2_int min2_int max_two min_two max_three min_three max_four min_four   -- for this text's walks alone
set_option linter.unusedVariables false
set_option linter.unusedSimpArgs false
def spec_l03Sub.f (k : Nat) (a0_0 : Int) (l0_1 : List Int) (a0_2 : Int) (a1_0 : Int) (l1_1 : List Int) (a1_2 : Int) : Option (Int × List Int × Int) := (spec_l03Neg.f k a1_0 l1_1 a1_2).bind fun bt475 => ((spec_l03Add.f k a0_0 l0_1 a0_2 bt475.1 bt475.2.1 bt475.2.2).bind fun bt480 => (some (bt480.1, bt480.2.1, bt480.2.2)))
theorem spec_l03Sub.mono : ∀ a0 a1 a2 a3 a4 a5 k, LeO (spec_l03Sub.f k a0 a1 a2 a3 a4 a5) (spec_l03Sub.f (k + 1) a0 a1 a2 a3 a4 a5) := by
 intro a0 a1 a2 a3 a4 a5 k
 unfold spec_l03Sub.f
 repeat' first
   | (with_reducible exact spec_l03Add.mono _ _ _ _ _ _ _)
   | (with_reducible exact spec_l03Neg.mono _ _ _ _)
   | (with_reducible exact LeO.refl _)
   | (with_reducible exact LeO.none _)
   | (with_reducible refine LeO.ite ?_ ?_)
   | (with_reducible refine LeO.bind ?_ (fun _ => ?_))
   | exact spec_l03Add.mono _ _ _ _ _ _ _
   | exact spec_l03Neg.mono _ _ _ _
   | exact LeO.none _
   | refine LeO.ite ?_ ?_
   | refine LeO.bind ?_ (fun _ => ?_)
set_option maxHeartbeats 8000000 in
set_option maxRecDepth 100000 in
theorem spec_l03Sub.calls (k : Nat) (a0_0 : Int) (A0_1 : Option Addr) (c0_1 : Nat) (l0_1 : List Int) (a0_2 : Int) (a1_0 : Int) (A1_1 : Option Addr) (c1_1 : Nat) (l1_1 : List Int) (a1_2 : Int) (r1 : Int) (r2 : List Int) (r3 : Int) (w : World) (hr0_1 : Kd.C (Kd.int .i64) w A0_1 l0_1.length l0_1) (hc0_1 : l0_1.length ≤ c0_1) (hr1_1 : Kd.C (Kd.int .i64) w A1_1 l1_1.length l1_1) (hc1_1 : l1_1.length ≤ c1_1) (h : spec_l03Sub.f k a0_0 l0_1 a0_2 a1_0 l1_1 a1_2 = some (r1, r2, r3)) :
  Calls Try.prog 101 #[.agg #[.int .i64 a0_0, .slice A0_1 l0_1.length c0_1, .int .i64 a0_2], .agg #[.int .i64 a1_0, .slice A1_1 l1_1.length c1_1, .int .i64 a1_2]] w fun e w' => ∃ v1_ : Value, e = .returned (.agg #[.int .i64 r1, v1_, .int .i64 r3]) ∧ Kd.R (Kd.int .i64) 2 w' w.heap.size (fun _ => True) v1_ r2 ∧ Below w.heap.size w w' := by
 have hu31 := Try.underlying31
 have HR0_1 := Azq.mk hr0_1
 have HC0_1 := Azq.mk hc0_1
 clear hr0_1 hc0_1
 have HR1_1 := Azq.mk hr1_1
 have HC1_1 := Azq.mk hc1_1
 clear hr1_1 hc1_1
 have HB := Azq.mk (Below.refl w.heap.size w)
 have H : ((spec_l03Neg.f k a1_0 l1_1 a1_2).bind fun bt475 => ((spec_l03Add.f k a0_0 l0_1 a0_2 bt475.1 bt475.2.1 bt475.2.2).bind fun bt480 => (some (bt480.1, bt480.2.1, bt480.2.2)))) = some (r1, r2, r3) := h
 clear h
 replace H := Option.bind_eq_some_iff.mp H
 obtain ⟨⟨t475, t476, t479⟩, A30, H⟩ := H
 replace H : ((spec_l03Add.f k a0_0 l0_1 a0_2 t475 t476 t479).bind fun bt480 => (some (bt480.1, bt480.2.1, bt480.2.2))) = some (r1, r2, r3) := H
 have A3 := Azq.mk A30
 clear A30
 replace H := Option.bind_eq_some_iff.mp H
 obtain ⟨⟨t480, t481, t484⟩, A40, H⟩ := H
 replace H : (some (t480, t481, t484)) = some (r1, r2, r3) := H
 have A4 := Azq.mk A40
 clear A40
 simp only [Option.some.injEq, Prod.mk.injEq] at H
 obtain ⟨rfl, rfl, rfl⟩ := H
 go_enter Try.func101, Try.ntmps101
 try go_wp2_with (first | ((with_reducible refine gate_dst (N := 2) rfl ?_); refine box_event ?hg (N := 2) ?hd (cs := #[.int .i64 a0_0, .slice A0_1 l0_1.length c0_1, .int .i64 a0_2]) (t := 31) ?hr ?_; (case hd => rfl); (case hg => rfl); (case hr => first | (go_simp; done) | (go_simp; rfl)); intro gb472 hg w5 hbox hb; have n0_ := Azq.mk (wtq (by repeat (first | (with_reducible first | exact HB.out | apply waq | apply wdq | apply wrq) | exact HB.out)) hb); have n1_ := Azq.mk (hbox); have n2_ := Azq.mk ((by rw [hg]; exact (wzq (by repeat (first | (with_reducible first | exact HB.out | apply waq | apply wdq | apply wrq) | exact HB.out))) : w.heap.size ≤ gb472)); have n3_ := Azq.mk ((by rw [hg]; exact (wzq (by repeat (first | (with_reducible first | exact HB.out | apply waq | apply wdq | apply wrq) | exact HB.out))) : w.heap.size ≤ gb472)); clear HB; have HB := n0_; have BK472 := n1_; have GW472 := n2_; have GE472 := n3_; clear n0_ n1_ n2_ n3_; clear hb hbox hg) | ((with_reducible refine gate_dst (N := 3) rfl ?_); refine box_event ?hg (N := 3) ?hd (cs := #[.int .i64 a1_0, .slice A1_1 l1_1.length c1_1, .int .i64 a1_2]) (t := 31) ?hr ?_; (case hd => rfl); (case hg => rfl); (case hr => first | (go_simp; done) | (go_simp; rfl)); intro gb473 hg w6 hbox hb; have n0_ := Azq.mk (kbq (g := gb472) (o := .cells #[.int .i64 a0_0, .slice A0_1 l0_1.length c0_1, .int .i64 a0_2] 31 (0, 0)) (by (with_reducible repeat (first | refine kdq ?_ _ | refine krq ?_ | refine kaq ?_ _)); exact BK472.out) hb); have n1_ := Azq.mk (wtq (by repeat (first | (with_reducible first | exact HB.out | apply waq | apply wdq | apply wrq | refine wsq ?_ GE472.out) | exact HB.out)) hb); have n2_ := Azq.mk (hbox); have n3_ := Azq.mk ((by rw [hg]; exact (wzq (by repeat (first | (with_reducible first | exact HB.out | apply waq | apply wdq | apply wrq | refine wsq ?_ GE472.out) | exact HB.out))) : w.heap.size ≤ gb473)); have n4_ := Azq.mk ((by rw [hg]; exact (wzq (by repeat (first | (with_reducible first | exact HB.out | apply waq | apply wdq | apply wrq | refine wsq ?_ GE472.out) | exact HB.out))) : w.heap.size ≤ gb473)); have n5_ := Azq.mk ((by rw [hg]; exact Nat.ne_of_lt (klq (g := gb472) (o := .cells #[.int .i64 a0_0, .slice A0_1 l0_1.length c0_1, .int .i64 a0_2] 31 (0, 0)) (by (with_reducible repeat (first | refine kdq ?_ _ | refine krq ?_ | refine kaq ?_ _)); exact BK472.out)) : gb472 ≠ gb473)); have n6_ := Azq.mk ((by rw [hg]; exact Nat.ne_of_gt (klq (g := gb472) (o := .cells #[.int .i64 a0_0, .slice A0_1 l0_1.length c0_1, .int .i64 a0_2] 31 (0, 0)) (by (with_reducible repeat (first | refine kdq ?_ _ | refine krq ?_ | refine kaq ?_ _)); exact BK472.out)) : gb473 ≠ gb472)); clear BK472; clear HB; have BK472 := n0_; have HB := n1_; have BK473 := n2_; have GW473 := n3_; have GE473 := n4_; have NB472_473 := n5_; have NB473_472 := n6_; clear n0_ n1_ n2_ n3_ n4_ n5_ n6_; clear hb hbox hg) | ((with_reducible refine gate_dst (N := 4) rfl ?_); refine box_event ?hg (N := 4) ?hd (cs := #[.int .i64 0, .slice none 0 0, .int .i64 0]) (t := 31) ?hr ?_; (case hd => rfl); (case hg => rfl); (case hr => first | (go_simp; done) | (go_simp; rfl)); intro gb474 hg w7 hbox hb; have n0_ := Azq.mk (kbq (g := gb472) (o := .cells #[.int .i64 a0_0, .slice A0_1 l0_1.length c0_1, .int .i64 a0_2] 31 (0, 0)) (by (with_reducible repeat (first | refine kdq ?_ _ | refine krq ?_ | refine kaq ?_ _)); exact BK472.out) hb); have n1_ := Azq.mk (kbq (g := gb473) (o := .cells #[.int .i64 a1_0, .slice A1_1 l1_1.length c1_1, .int .i64 a1_2] 31 (0, 0)) (by (with_reducible repeat (first | refine kdq ?_ _ | refine krq ?_ | refine kaq ?_ _)); exact BK473.out) hb); have n2_ := Azq.mk (wtq (by repeat (first | (with_reducible first | exact HB.out | apply waq | apply wdq | apply wrq | refine wsq ?_ GE472.out | refine wsq ?_ GE473.out) | exact HB.out)) hb); have n3_ := Azq.mk (hbox); have n4_ := Azq.mk ((by rw [hg]; exact (wzq (by repeat (first | (with_reducible first | exact HB.out | apply waq | apply wdq | apply wrq | refine wsq ?_ GE472.out | refine wsq ?_ GE473.out) | exact HB.out))) : w.heap.size ≤ gb474)); have n5_ := Azq.mk ((by rw [hg]; exact (wzq (by repeat (first | (with_reducible first | exact HB.out | apply waq | apply wdq | apply wrq | refine wsq ?_ GE472.out | refine wsq ?_ GE473.out) | exact HB.out))) : w.heap.size ≤ gb474)); have n6_ := Azq.mk ((by rw [hg]; exact Nat.ne_of_lt (klq (g := gb472) (o := .cells #[.int .i64 a0_0, .slice A0_1 l0_1.length c0_1, .int .i64 a0_2] 31 (0, 0)) (by (with_reducible repeat (first | refine kdq ?_ _ | refine krq ?_ | refine kaq ?_ _)); exact BK472.out)) : gb472 ≠ gb474)); have n7_ := Azq.mk ((by rw [hg]; exact Nat.ne_of_gt (klq (g := gb472) (o := .cells #[.int .i64 a0_0, .slice A0_1 l0_1.length c0_1, .int .i64 a0_2] 31 (0, 0)) (by (with_reducible repeat (first | refine kdq ?_ _ | refine krq ?_ | refine kaq ?_ _)); exact BK472.out)) : gb474 ≠ gb472)); have n8_ := Azq.mk ((by rw [hg]; exact Nat.ne_of_lt (klq (g := gb473) (o := .cells #[.int .i64 a1_0, .slice A1_1 l1_1.length c1_1, .int .i64 a1_2] 31 (0, 0)) (by (with_reducible repeat (first | refine kdq ?_ _ | refine krq ?_ | refine kaq ?_ _)); exact BK473.out)) : gb473 ≠ gb474)); have n9_ := Azq.mk ((by rw [hg]; exact Nat.ne_of_gt (klq (g := gb473) (o := .cells #[.int .i64 a1_0, .slice A1_1 l1_1.length c1_1, .int .i64 a1_2] 31 (0, 0)) (by (with_reducible repeat (first | refine kdq ?_ _ | refine krq ?_ | refine kaq ?_ _)); exact BK473.out)) : gb474 ≠ gb473)); clear BK472; clear BK473; clear HB; have BK472 := n0_; have BK473 := n1_; have HB := n2_; have BK474 := n3_; have GW474 := n4_; have GE474 := n5_; have NB472_474 := n6_; have NB474_472 := n7_; have NB473_474 := n8_; have NB474_473 := n9_; clear n0_ n1_ n2_ n3_ n4_ n5_ n6_ n7_ n8_ n9_; clear hb hbox hg))
 have n0_ := Azq.mk (krq BK472.out)
 have n1_ := Azq.mk (krq BK473.out)
 have n2_ := Azq.mk (krq BK474.out)
 have n3_ := Azq.mk (wrq HB.out)
 clear BK472
 clear BK473
 clear BK474
 clear HB
 have BK472 := n0_
 have BK473 := n1_
 have BK474 := n2_
 have HB := n3_
 clear n0_ n1_ n2_ n3_
 refine start_ (n := 5) (S := fun w' => w'.cell? ⟨gb472, 0, none⟩ = some (.int .i64 a0_0) ∧ w'.cell? ⟨gb472, 1, none⟩ = some (.slice A0_1 l0_1.length c0_1) ∧ w'.cell? ⟨gb472, 2, none⟩ = some (.int .i64 a0_2) ∧ w'.cell? ⟨gb473, 0, none⟩ = some (.int .i64 a1_0) ∧ w'.cell? ⟨gb473, 1, none⟩ = some (.slice A1_1 l1_1.length c1_1) ∧ w'.cell? ⟨gb473, 2, none⟩ = some (.int .i64 a1_2)) (ds := []) #[false, false, false, false, false] (by kernel_rfl) rfl rfl ⟨(kcq BK472.out 0).trans rfl, (kcq BK472.out 1).trans rfl, (kcq BK472.out 2).trans rfl, (kcq BK473.out 0).trans rfl, (kcq BK473.out 1).trans rfl, (kcq BK473.out 2).trans rfl⟩ (fun hHeld => ?_)
 generalize w7.drew = w8 at BK472 BK473 BK474 HB hHeld ⊢
 refine take_ (i := 0) (N := some 5) (v := ?_) (a' := ?_) #[true, false, false, false, false] rfl rfl (by kernel_rfl) (fun _ _ _ h => h) (Or.inl ⟨by rfl, ?_⟩) hHeld ?_ ?_
 rotate_left
 ·rintro w' ⟨s0, s1, s2, s3, s4, s5⟩
  go_simp
  with_reducible rfl
 rotate_left
 ·simp only [Act.put, List.setIfInBounds_toArray, List.set_cons_zero, List.set_cons_succ, i64_w, i32_w]
  rfl
 refine take_ (i := 1) (N := some 6) (v := ?_) (a' := ?_) #[true, true, false, false, false] rfl rfl (by kernel_rfl) (fun _ _ _ h => h) (Or.inl ⟨by rfl, ?_⟩) hHeld ?_ ?_
 rotate_left
 ·rintro w' ⟨s0, s1, s2, s3, s4, s5⟩
  go_simp
  with_reducible rfl
 rotate_left
 ·simp only [Act.put, List.setIfInBounds_toArray, List.set_cons_zero, List.set_cons_succ, i64_w, i32_w]
  rfl
 refine one_ (i := 2) (N := some 7) #[true, true, true, false, false] rfl rfl (by kernel_rfl) (by decide) (fun K hK => ?_)
 refine goes_ Try.func149 (by kernel_rfl) rfl #[.agg #[.int .i64 a1_0, .slice A1_1 l1_1.length c1_1, .int .i64 a1_2]] (by rfl) rfl rfl (by (try simp only [List.map_toArray, List.map_cons, List.map_nil]); first | done | rfl | (simp only [List.length_drop, List.length_take]; rfl)) ?_
 with_reducible refine (spec_l03Neg.calls k a1_0 _ _ l1_1 a1_2 t475 t476 t479 _ ?side1 ?side2 A3.out).mono ?_
 (case side1 => repeat (first | exact (Kd.C_below HR1_1.out HB.out) | (with_reducible refine Kd.C_alloc ?_ _) | (with_reducible refine Kd.C_drewN ?_ _) | (with_reducible refine Kd.C_drew ?_)))
 (case side2 => exact HC1_1.out)
 rintro e w9 ⟨v477, rfl, ho0, hb⟩
 refine ⟨_, rfl, ?_⟩
 have n0_ := Azq.mk (Kd.R_lower ho0 (wzq (by repeat (first | (with_reducible first | exact HB.out | apply waq | apply wdq | apply wrq | refine wsq ?_ GE472.out | refine wsq ?_ GE473.out | refine wsq ?_ GE474.out) | exact HB.out))))
 have n1_ := Azq.mk (kbq (g := gb472) (o := .cells #[.int .i64 a0_0, .slice A0_1 l0_1.length c0_1, .int .i64 a0_2] 31 (0, 0)) (by (with_reducible repeat (first | refine kdq ?_ _ | refine krq ?_ | refine kaq ?_ _)); exact BK472.out) hb)
 have n2_ := Azq.mk (kbq (g := gb473) (o := .cells #[.int .i64 a1_0, .slice A1_1 l1_1.length c1_1, .int .i64 a1_2] 31 (0, 0)) (by (with_reducible repeat (first | refine kdq ?_ _ | refine krq ?_ | refine kaq ?_ _)); exact BK473.out) hb)
 have n3_ := Azq.mk (kbq (g := gb474) (o := .cells #[.int .i64 0, .slice none 0 0, .int .i64 0] 31 (0, 0)) (by (with_reducible repeat (first | refine kdq ?_ _ | refine krq ?_ | refine kaq ?_ _)); exact BK474.out) hb)
 have n4_ := Azq.mk (wtq (by repeat (first | (with_reducible first | exact HB.out | apply waq | apply wdq | apply wrq | refine wsq ?_ GE472.out | refine wsq ?_ GE473.out | refine wsq ?_ GE474.out) | exact HB.out)) hb)
 clear BK472
 clear BK473
 clear BK474
 clear HB
 have HO478 := n0_
 have BK472 := n1_
 have BK473 := n2_
 have BK474 := n3_
 have HB := n4_
 clear n0_ n1_ n2_ n3_ n4_
 (try clear hb)
 (try clear hb2)
 (try clear hk)
 (try clear hi)
 (try clear ho0)
 obtain ⟨Ao10, co10, eo10⟩ := Kd.R_slice HO478.out
 (first | subst eo10 | (injection eo10 with f1_ f2_ f3_; have f4_ := f1_.symm; have f5_ := f3_.symm; clear f1_ f2_ f3_; subst f4_; subst f5_))
 refine hK.out _ _ ⟨(kcq BK472.out 0).trans rfl, (kcq BK472.out 1).trans rfl, (kcq BK472.out 2).trans rfl, (kcq BK473.out 0).trans rfl, (kcq BK473.out 1).trans rfl, (kcq BK473.out 2).trans rfl⟩ (fun hHeld => ?_)
 clear hK K
 refine norm_ (a' := ?_) ?_ ?_
 rotate_left
 ·show Act.put _ (some 7) _ = _
  simp only [Act.put, List.setIfInBounds_toArray, List.set_cons_zero, List.set_cons_succ, i64_w, i32_w]
  rfl
 refine one_ (i := 3) (N := some 8) #[true, true, true, true, false] rfl rfl (by kernel_rfl) (by decide) (fun K hK => ?_)
 refine goes_ Try.func99 (by kernel_rfl) rfl #[.agg #[.int .i64 a0_0, .slice A0_1 l0_1.length c0_1, .int .i64 a0_2], .agg #[.int .i64 t475, .slice Ao10 t476.length co10, .int .i64 t479]] (by rfl) rfl rfl (by (try simp only [List.map_toArray, List.map_cons, List.map_nil]); first | done | rfl | (simp only [List.length_drop, List.length_take]; rfl)) ?_
 with_reducible refine (spec_l03Add.calls k a0_0 _ _ l0_1 a0_2 t475 _ _ t476 t479 t480 t481 t484 _ ?side1 ?side2 ?side3 ?side4 A4.out).mono ?_
 (case side1 => repeat (first | exact (Kd.C_below HR0_1.out HB.out) | (with_reducible refine Kd.C_alloc ?_ _) | (with_reducible refine Kd.C_drewN ?_ _) | (with_reducible refine Kd.C_drew ?_)))
 (case side2 => exact HC0_1.out)
 (case side3 => repeat (first | exact (Kd.R_reads' HO478.out).2.2 | (with_reducible refine Kd.C_alloc ?_ _) | (with_reducible refine Kd.C_drewN ?_ _) | (with_reducible refine Kd.C_drew ?_)))
 (case side4 => exact (Kd.R_reads' HO478.out).2.1)
 rintro e w11 ⟨v482, rfl, ho0, hb⟩
 refine ⟨_, rfl, ?_⟩
 have n0_ := Azq.mk (Kd.R_elder' (by (with_reducible repeat (first | apply Kd.R_alloc | apply Kd.R_drewN | apply Kd.R_drew)); exact HO478.out) (Kd.R_base ho0) hb)
 have n1_ := Azq.mk (Kd.R_lower (Kd.R_new' ho0 (Kd.R_lt (by (with_reducible repeat (first | apply Kd.R_alloc | apply Kd.R_drewN | apply Kd.R_drew)); exact HO478.out))) (wzq (by repeat (first | (with_reducible first | exact HB.out | apply waq | apply wdq | apply wrq | refine wsq ?_ GE472.out | refine wsq ?_ GE473.out | refine wsq ?_ GE474.out) | exact HB.out))))
 have n2_ := Azq.mk (kbq (g := gb472) (o := .cells #[.int .i64 a0_0, .slice A0_1 l0_1.length c0_1, .int .i64 a0_2] 31 (0, 0)) (by (with_reducible repeat (first | refine kdq ?_ _ | refine krq ?_ | refine kaq ?_ _)); exact BK472.out) hb)
 have n3_ := Azq.mk (kbq (g := gb473) (o := .cells #[.int .i64 a1_0, .slice A1_1 l1_1.length c1_1, .int .i64 a1_2] 31 (0, 0)) (by (with_reducible repeat (first | refine kdq ?_ _ | refine krq ?_ | refine kaq ?_ _)); exact BK473.out) hb)
 have n4_ := Azq.mk (kbq (g := gb474) (o := .cells #[.int .i64 0, .slice none 0 0, .int .i64 0] 31 (0, 0)) (by (with_reducible repeat (first | refine kdq ?_ _ | refine krq ?_ | refine kaq ?_ _)); exact BK474.out) hb)
 have n5_ := Azq.mk (wtq (by repeat (first | (with_reducible first | exact HB.out | apply waq | apply wdq | apply wrq | refine wsq ?_ GE472.out | refine wsq ?_ GE473.out | refine wsq ?_ GE474.out) | exact HB.out)) hb)
 clear HO478
 clear BK472
 clear BK473
 clear BK474
 clear HB
 have HO478 := n0_
 have HO483 := n1_
 have BK472 := n2_
 have BK473 := n3_
 have BK474 := n4_
 have HB := n5_
 clear n0_ n1_ n2_ n3_ n4_ n5_
 (try clear hb)
 (try clear hb2)
 (try clear hk)
 (try clear hi)
 (try clear ho0)
 obtain ⟨Ao13, co13, eo13⟩ := Kd.R_slice HO483.out
 (first | subst eo13 | (injection eo13 with f1_ f2_ f3_; have f4_ := f1_.symm; have f5_ := f3_.symm; clear f1_ f2_ f3_; subst f4_; subst f5_))
 refine hK.out _ _ ⟨(kcq BK472.out 0).trans rfl, (kcq BK472.out 1).trans rfl, (kcq BK472.out 2).trans rfl, (kcq BK473.out 0).trans rfl, (kcq BK473.out 1).trans rfl, (kcq BK473.out 2).trans rfl⟩ (fun hHeld => ?_)
 clear hK K
 refine norm_ (a' := ?_) ?_ ?_
 rotate_left
 ·show Act.put _ (some 8) _ = _
  simp only [Act.put, List.setIfInBounds_toArray, List.set_cons_zero, List.set_cons_succ, i64_w, i32_w]
  rfl
 refine one_ (i := 4) (N := none) #[true, true, true, true, true] rfl rfl (by kernel_rfl) (by decide) (fun K hK => ?_)
 have hs12 : w11.cell? ⟨gb474, 0, none⟩ = some (.int .i64 0) := (kcq BK474.out 0).trans rfl
 have hfs12 := kfq BK474.out 0
 have hns12_0 := NB472_474.out
 have hns12_1 := NB473_474.out
 have hms12_0 := NB474_472.out
 have hms12_1 := NB474_473.out
 have hs14 : w11.cell? ⟨gb474, 1, none⟩ = some (.slice none 0 0) := (kcq BK474.out 1).trans rfl
 have hfs14 := kfq BK474.out 1
 have hns14_0 := NB472_474.out
 have hns14_1 := NB473_474.out
 have hms14_0 := NB474_472.out
 have hms14_1 := NB474_473.out
 have hs15 : w11.cell? ⟨gb474, 2, none⟩ = some (.int .i64 0) := (kcq BK474.out 2).trans rfl
 have hfs15 := kfq BK474.out 2
 have hns15_0 := NB472_474.out
 have hns15_1 := NB473_474.out
 have hms15_0 := NB474_472.out
 have hms15_1 := NB474_473.out
 refine skip_ (w1 := ?_) (by rfl) rfl ?_ ?_
 rotate_left
 ·go_simp
  rfl
 refine hK.out _ _ ⟨((cell_far (p := ⟨gb474, _, none⟩) NB472_474.out _).trans (((cell_far (p := ⟨gb474, _, none⟩) NB472_474.out _).trans (((cell_far (p := ⟨gb474, _, none⟩) NB472_474.out _).trans (hHeld.1)))))), ((cell_far (p := ⟨gb474, _, none⟩) NB472_474.out _).trans (((cell_far (p := ⟨gb474, _, none⟩) NB472_474.out _).trans (((cell_far (p := ⟨gb474, _, none⟩) NB472_474.out _).trans (hHeld.2.1)))))), ((cell_far (p := ⟨gb474, _, none⟩) NB472_474.out _).trans (((cell_far (p := ⟨gb474, _, none⟩) NB472_474.out _).trans (((cell_far (p := ⟨gb474, _, none⟩) NB472_474.out _).trans (hHeld.2.2.1)))))), ((cell_far (p := ⟨gb474, _, none⟩) NB473_474.out _).trans (((cell_far (p := ⟨gb474, _, none⟩) NB473_474.out _).trans (((cell_far (p := ⟨gb474, _, none⟩) NB473_474.out _).trans (hHeld.2.2.2.1)))))), ((cell_far (p := ⟨gb474, _, none⟩) NB473_474.out _).trans (((cell_far (p := ⟨gb474, _, none⟩) NB473_474.out _).trans (((cell_far (p := ⟨gb474, _, none⟩) NB473_474.out _).trans (hHeld.2.2.2.2.1)))))), ((cell_far (p := ⟨gb474, _, none⟩) NB473_474.out _).trans (((cell_far (p := ⟨gb474, _, none⟩) NB473_474.out _).trans (((cell_far (p := ⟨gb474, _, none⟩) NB473_474.out _).trans (hHeld.2.2.2.2.2))))))⟩ (fun hHeld => ?_)
 clear hK K
 refine done_ (by kernel_rfl) ?_
 try go_wp2
 refine bodyPost_ret (results_cell_row rfl _ _ gb474 31 #[.int .i64 t480, .slice Ao13 t481.length co13, .int .i64 t484] (0, 0) _ rfl (by (with_reducible repeat (first | refine kdq ?_ _ | refine krq ?_ | refine kaq ?_ _)); refine blk_put (cs := #[.int .i64 t480, .slice Ao13 t481.length co13, .int .i64 0]) ?_ 2 _ rfl; (with_reducible repeat (first | refine kdq ?_ _ | refine krq ?_ | refine kaq ?_ _)); refine blk_put (cs := #[.int .i64 t480, .slice none 0 0, .int .i64 0]) ?_ 1 _ rfl; (with_reducible repeat (first | refine kdq ?_ _ | refine krq ?_ | refine kaq ?_ _)); refine blk_put (cs := #[.int .i64 0, .slice none 0 0, .int .i64 0]) ?_ 0 _ rfl; (with_reducible repeat (first | refine kdq ?_ _ | refine krq ?_ | refine kaq ?_ _)); exact BK474.out) Try.underlying31 rfl (by kernel_rfl)) rfl ?_
 exact ⟨_, by first | rfl | (simp [errW_none, errW_some] <;> rfl) | (simp [*, errW_none, errW_some] <;> rfl), by (with_reducible repeat (first | apply Kd.R_alloc | apply Kd.R_drewN | apply Kd.R_drew)); exact Kd.R_mono (Kd.R_far (p := ⟨gb474, 2, none⟩) (Kd.R_far (p := ⟨gb474, 1, none⟩) (Kd.R_far (p := ⟨gb474, 0, none⟩) (Kd.R_types HO483.out BK474.out (by decide)) (fun _ hk => hk.2) (.int .i64 t480)) (fun _ hk => hk.2) (.slice Ao13 t481.length co13)) (fun _ hk => hk.2) (.int .i64 t484)) (fun _ hk => trivial), by repeat (first | (with_reducible first | exact HB.out | apply waq | apply wdq | apply wrq | refine wsq ?_ GE472.out | refine wsq ?_ GE473.out | refine wsq ?_ GE474.out) | exact HB.out)⟩
end Go.Proofs.Ytdboepiobaehkaa.PW
end
section
namespace Go.Proofs.Ytdboepiobaehkaa.PW
open Go.RowKit Go.Proofs.YtdboepiobaehkaaW.PrintWords Go.Proofs.YtdboepiobaehkaaW.PrintLast Go.Proofs.YtdboepiobaehkaaW.PrintMore
attribute [local go_sem] max2_int min2_int max_two min_two max_three min_three max_four min_four   -- for this text's walks alone
set_option linter.unusedVariables false
set_option linter.unusedSimpArgs false
def spec_SubtractDyadics.f (k : Nat) (a0_0 : Int) (l0_1 : List Int) (a0_2 : Int) (a1_0 : Int) (l1_1 : List Int) (a1_2 : Int) : Option (Int × List Int × Int × Int) := (spec_l03Both.f k a0_0 l0_1 a0_2 a1_0 l1_1 a1_2).bind fun t868 => (if t868 = 0 then ((spec_l03Sub.f k a0_0 l0_1 a0_2 a1_0 l1_1 a1_2).bind fun bt869 => ((spec_l03Fit.f k bt869.1 bt869.2.1 bt869.2.2).bind fun bt874 => (some (bt874.1, bt874.2.1, bt874.2.2.1, bt874.2.2.2)))) else (some (0, ([] : List Int), 0, t868)))
theorem spec_SubtractDyadics.mono : ∀ a0 a1 a2 a3 a4 a5 k, LeO (spec_SubtractDyadics.f k a0 a1 a2 a3 a4 a5) (spec_SubtractDyadics.f (k + 1) a0 a1 a2 a3 a4 a5) := by
 intro a0 a1 a2 a3 a4 a5 k
 unfold spec_SubtractDyadics.f
 repeat' first
   | (with_reducible exact spec_l03Both.mono _ _ _ _ _ _ _)
   | (with_reducible exact spec_l03Fit.mono _ _ _ _)
   | (with_reducible exact spec_l03Sub.mono _ _ _ _ _ _ _)
   | (with_reducible exact LeO.refl _)
   | (with_reducible exact LeO.none _)
   | (with_reducible refine LeO.ite ?_ ?_)
   | (with_reducible refine LeO.bind ?_ (fun _ => ?_))
   | exact spec_l03Both.mono _ _ _ _ _ _ _
   | exact spec_l03Fit.mono _ _ _ _
   | exact spec_l03Sub.mono _ _ _ _ _ _ _
   | exact LeO.none _
   | refine LeO.ite ?_ ?_
   | refine LeO.bind ?_ (fun _ => ?_)
set_option maxHeartbeats 8000000 in
set_option maxRecDepth 100000 in
theorem spec_SubtractDyadics.calls (k : Nat) (a0_0 : Int) (A0_1 : Option Addr) (c0_1 : Nat) (l0_1 : List Int) (a0_2 : Int) (a1_0 : Int) (A1_1 : Option Addr) (c1_1 : Nat) (l1_1 : List Int) (a1_2 : Int) (r1 : Int) (r2 : List Int) (r3 : Int) (r4 : Int) (w : World) (hr0_1 : Kd.C (Kd.int .i64) w A0_1 l0_1.length l0_1) (hc0_1 : l0_1.length ≤ c0_1) (hr1_1 : Kd.C (Kd.int .i64) w A1_1 l1_1.length l1_1) (hc1_1 : l1_1.length ≤ c1_1) (h : spec_SubtractDyadics.f k a0_0 l0_1 a0_2 a1_0 l1_1 a1_2 = some (r1, r2, r3, r4)) :
  Calls Try.prog 49 #[.agg #[.int .i64 a0_0, .slice A0_1 l0_1.length c0_1, .int .i64 a0_2], .agg #[.int .i64 a1_0, .slice A1_1 l1_1.length c1_1, .int .i64 a1_2]] w fun e w' => ∃ v1_ : Value, e = .returned (.tuple #[.agg #[.int .i64 r1, v1_, .int .i64 r3], .int .i64 r4]) ∧ Kd.R (Kd.int .i64) 2 w' w.heap.size (fun _ => True) v1_ r2 ∧ Below w.heap.size w w' := by
 have hu31 := Try.underlying31
 have HR0_1 := Azq.mk hr0_1
 have HC0_1 := Azq.mk hc0_1
 clear hr0_1 hc0_1
 have HR1_1 := Azq.mk hr1_1
 have HC1_1 := Azq.mk hc1_1
 clear hr1_1 hc1_1
 have HB := Azq.mk (Below.refl w.heap.size w)
 have H : ((spec_l03Both.f k a0_0 l0_1 a0_2 a1_0 l1_1 a1_2).bind fun t868 => (if t868 = 0 then ((spec_l03Sub.f k a0_0 l0_1 a0_2 a1_0 l1_1 a1_2).bind fun bt869 => ((spec_l03Fit.f k bt869.1 bt869.2.1 bt869.2.2).bind fun bt874 => (some (bt874.1, bt874.2.1, bt874.2.2.1, bt874.2.2.2)))) else (some (0, ([] : List Int), 0, t868)))) = some (r1, r2, r3, r4) := h
 clear h
 replace H := Option.bind_eq_some_iff.mp H
 obtain ⟨t868, A30, H⟩ := H
 replace H : (if t868 = 0 then ((spec_l03Sub.f k a0_0 l0_1 a0_2 a1_0 l1_1 a1_2).bind fun bt869 => ((spec_l03Fit.f k bt869.1 bt869.2.1 bt869.2.2).bind fun bt874 => (some (bt874.1, bt874.2.1, bt874.2.2.1, bt874.2.2.2)))) else (some (0, ([] : List Int), 0, t868))) = some (r1, r2, r3, r4) := H
 have A3 := Azq.mk A30
 clear A30
 by_cases c4 : t868 = 0
 ·rw [if_pos c4] at H
  have c4b0 : (t868 == 0) = true := beq_iff_eq.mpr c4
  have c4b1 : (t868 != 0) = false := bne_eq_false_iff_eq.mpr c4
  clear c4
  replace H := Option.bind_eq_some_iff.mp H
  obtain ⟨⟨t869, t870, t873⟩, A50, H⟩ := H
  replace H : ((spec_l03Fit.f k t869 t870 t873).bind fun bt874 => (some (bt874.1, bt874.2.1, bt874.2.2.1, bt874.2.2.2))) = some (r1, r2, r3, r4) := H
  have A5 := Azq.mk A50
  clear A50
  replace H := Option.bind_eq_some_iff.mp H
  obtain ⟨⟨t874, t875, t878, t879⟩, A60, H⟩ := H
  replace H : (some (t874, t875, t878, t879)) = some (r1, r2, r3, r4) := H
  have A6 := Azq.mk A60
  clear A60
  simp only [Option.some.injEq, Prod.mk.injEq] at H
  obtain ⟨rfl, rfl, rfl, rfl⟩ := H
  go_enter Try.func49, Try.ntmps49
  go_wp2_with (first | ((with_reducible refine gate_dst (N := 2) rfl ?_); refine box_event ?hg (N := 2) ?hd (cs := #[.int .i64 a0_0, .slice A0_1 l0_1.length c0_1, .int .i64 a0_2]) (t := 31) ?hr ?_; (case hd => rfl); (case hg => rfl); (case hr => first | (go_simp; done) | (go_simp; rfl)); intro gb865 hg w7 hbox hb; have n0_ := Azq.mk (wtq (by repeat (first | (with_reducible first | exact HB.out | apply waq | apply wdq | apply wrq) | exact HB.out)) hb); have n1_ := Azq.mk (hbox); have n2_ := Azq.mk ((by rw [hg]; exact (wzq (by repeat (first | (with_reducible first | exact HB.out | apply waq | apply wdq | apply wrq) | exact HB.out))) : w.heap.size ≤ gb865)); have n3_ := Azq.mk ((by rw [hg]; exact (wzq (by repeat (first | (with_reducible first | exact HB.out | apply waq | apply wdq | apply wrq) | exact HB.out))) : w.heap.size ≤ gb865)); clear HB; have HB := n0_; have BK865 := n1_; have GW865 := n2_; have GE865 := n3_; clear n0_ n1_ n2_ n3_; clear hb hbox hg) | ((with_reducible refine gate_dst (N := 3) rfl ?_); refine box_event ?hg (N := 3) ?hd (cs := #[.int .i64 a1_0, .slice A1_1 l1_1.length c1_1, .int .i64 a1_2]) (t := 31) ?hr ?_; (case hd => rfl); (case hg => rfl); (case hr => first | (go_simp; done) | (go_simp; rfl)); intro gb866 hg w8 hbox hb; have n0_ := Azq.mk (kbq (g := gb865) (o := .cells #[.int .i64 a0_0, .slice A0_1 l0_1.length c0_1, .int .i64 a0_2] 31 (0, 0)) (by (with_reducible repeat (first | refine kdq ?_ _ | refine krq ?_ | refine kaq ?_ _)); exact BK865.out) hb); have n1_ := Azq.mk (wtq (by repeat (first | (with_reducible first | exact HB.out | apply waq | apply wdq | apply wrq | refine wsq ?_ GE865.out) | exact HB.out)) hb); have n2_ := Azq.mk (hbox); have n3_ := Azq.mk ((by rw [hg]; exact (wzq (by repeat (first | (with_reducible first | exact HB.out | apply waq | apply wdq | apply wrq | refine wsq ?_ GE865.out) | exact HB.out))) : w.heap.size ≤ gb866)); have n4_ := Azq.mk ((by rw [hg]; exact (wzq (by repeat (first | (with_reducible first | exact HB.out | apply waq | apply wdq | apply wrq | refine wsq ?_ GE865.out) | exact HB.out))) : w.heap.size ≤ gb866)); have n5_ := Azq.mk ((by rw [hg]; exact Nat.ne_of_lt (klq (g := gb865) (o := .cells #[.int .i64 a0_0, .slice A0_1 l0_1.length c0_1, .int .i64 a0_2] 31 (0, 0)) (by (with_reducible repeat (first | refine kdq ?_ _ | refine krq ?_ | refine kaq ?_ _)); exact BK865.out)) : gb865 ≠ gb866)); have n6_ := Azq.mk ((by rw [hg]; exact Nat.ne_of_gt (klq (g := gb865) (o := .cells #[.int .i64 a0_0, .slice A0_1 l0_1.length c0_1, .int .i64 a0_2] 31 (0, 0)) (by (with_reducible repeat (first | refine kdq ?_ _ | refine krq ?_ | refine kaq ?_ _)); exact BK865.out)) : gb866 ≠ gb865)); clear BK865; clear HB; have BK865 := n0_; have HB := n1_; have BK866 := n2_; have GW866 := n3_; have GE866 := n4_; have NB865_866 := n5_; have NB866_865 := n6_; clear n0_ n1_ n2_ n3_ n4_ n5_ n6_; clear hb hbox hg) | ((with_reducible refine gate_dst (N := 4) rfl ?_); refine box_event ?hg (N := 4) ?hd (cs := #[.int .i64 0, .slice none 0 0, .int .i64 0]) (t := 31) ?hr ?_; (case hd => rfl); (case hg => rfl); (case hr => first | (go_simp; done) | (go_simp; rfl)); intro gb867 hg w9 hbox hb; have n0_ := Azq.mk (kbq (g := gb865) (o := .cells #[.int .i64 a0_0, .slice A0_1 l0_1.length c0_1, .int .i64 a0_2] 31 (0, 0)) (by (with_reducible repeat (first | refine kdq ?_ _ | refine krq ?_ | refine kaq ?_ _)); exact BK865.out) hb); have n1_ := Azq.mk (kbq (g := gb866) (o := .cells #[.int .i64 a1_0, .slice A1_1 l1_1.length c1_1, .int .i64 a1_2] 31 (0, 0)) (by (with_reducible repeat (first | refine kdq ?_ _ | refine krq ?_ | refine kaq ?_ _)); exact BK866.out) hb); have n2_ := Azq.mk (wtq (by repeat (first | (with_reducible first | exact HB.out | apply waq | apply wdq | apply wrq | refine wsq ?_ GE865.out | refine wsq ?_ GE866.out) | exact HB.out)) hb); have n3_ := Azq.mk (hbox); have n4_ := Azq.mk ((by rw [hg]; exact (wzq (by repeat (first | (with_reducible first | exact HB.out | apply waq | apply wdq | apply wrq | refine wsq ?_ GE865.out | refine wsq ?_ GE866.out) | exact HB.out))) : w.heap.size ≤ gb867)); have n5_ := Azq.mk ((by rw [hg]; exact (wzq (by repeat (first | (with_reducible first | exact HB.out | apply waq | apply wdq | apply wrq | refine wsq ?_ GE865.out | refine wsq ?_ GE866.out) | exact HB.out))) : w.heap.size ≤ gb867)); have n6_ := Azq.mk ((by rw [hg]; exact Nat.ne_of_lt (klq (g := gb865) (o := .cells #[.int .i64 a0_0, .slice A0_1 l0_1.length c0_1, .int .i64 a0_2] 31 (0, 0)) (by (with_reducible repeat (first | refine kdq ?_ _ | refine krq ?_ | refine kaq ?_ _)); exact BK865.out)) : gb865 ≠ gb867)); have n7_ := Azq.mk ((by rw [hg]; exact Nat.ne_of_gt (klq (g := gb865) (o := .cells #[.int .i64 a0_0, .slice A0_1 l0_1.length c0_1, .int .i64 a0_2] 31 (0, 0)) (by (with_reducible repeat (first | refine kdq ?_ _ | refine krq ?_ | refine kaq ?_ _)); exact BK865.out)) : gb867 ≠ gb865)); have n8_ := Azq.mk ((by rw [hg]; exact Nat.ne_of_lt (klq (g := gb866) (o := .cells #[.int .i64 a1_0, .slice A1_1 l1_1.length c1_1, .int .i64 a1_2] 31 (0, 0)) (by (with_reducible repeat (first | refine kdq ?_ _ | refine krq ?_ | refine kaq ?_ _)); exact BK866.out)) : gb866 ≠ gb867)); have n9_ := Azq.mk ((by rw [hg]; exact Nat.ne_of_gt (klq (g := gb866) (o := .cells #[.int .i64 a1_0, .slice A1_1 l1_1.length c1_1, .int .i64 a1_2] 31 (0, 0)) (by (with_reducible repeat (first | refine kdq ?_ _ | refine krq ?_ | refine kaq ?_ _)); exact BK866.out)) : gb867 ≠ gb866)); clear BK865; clear BK866; clear HB; have BK865 := n0_; have BK866 := n1_; have HB := n2_; have BK867 := n3_; have GW867 := n4_; have GE867 := n5_; have NB865_867 := n6_; have NB867_865 := n7_; have NB866_867 := n8_; have NB867_866 := n9_; clear n0_ n1_ n2_ n3_ n4_ n5_ n6_ n7_ n8_ n9_; clear hb hbox hg; have hnb10 := NB865_866.out; have hnc10 := NB866_865.out; have hnb11 := NB865_867.out; have hnc11 := NB867_865.out; have hcz12_0 : w9.cell? ⟨gb865, 0, none⟩ = some (.int .i64 a0_0) := (kcq BK865.out 0).trans rfl; have hcz12_1 : w9.cell? ⟨gb865, 1, none⟩ = some (.slice A0_1 l0_1.length c0_1) := (kcq BK865.out 1).trans rfl; have hcz12_2 : w9.cell? ⟨gb865, 2, none⟩ = some (.int .i64 a0_2) := (kcq BK865.out 2).trans rfl; have hfz12_0 := kfq BK865.out 0; have hfz12_1 := kfq BK865.out 1; have hfz12_2 := kfq BK865.out 2; have hnb13 := NB866_867.out; have hnc13 := NB867_866.out; have hcz14_0 : w9.cell? ⟨gb866, 0, none⟩ = some (.int .i64 a1_0) := (kcq BK866.out 0).trans rfl; have hcz14_1 : w9.cell? ⟨gb866, 1, none⟩ = some (.slice A1_1 l1_1.length c1_1) := (kcq BK866.out 1).trans rfl; have hcz14_2 : w9.cell? ⟨gb866, 2, none⟩ = some (.int .i64 a1_2) := (kcq BK866.out 2).trans rfl; have hfz14_0 := kfq BK866.out 0; have hfz14_1 := kfq BK866.out 1; have hfz14_2 := kfq BK866.out 2) | ((with_reducible refine gate_callee (f := 87) rfl ?_); refine goesL_ (some 11) rfl rfl Try.func87 (by kernel_rfl) rfl #[.agg #[.int .i64 a0_0, .slice A0_1 l0_1.length c0_1, .int .i64 a0_2], .agg #[.int .i64 a1_0, .slice A1_1 l1_1.length c1_1, .int .i64 a1_2]] rfl (by (try simp only [List.map_toArray, List.map_cons, List.map_nil]); first | done | rfl | (simp only [List.length_drop, List.length_take]; rfl)) ?_; (with_reducible refine (spec_l03Both.calls k a0_0 _ _ l0_1 a0_2 a1_0 _ _ l1_1 a1_2 t868 _ ?side1 ?side2 ?side3 ?side4 A3.out).mono ?_); (case side1 => repeat (first | exact (Kd.C_below HR0_1.out HB.out) | (with_reducible refine Kd.C_alloc ?_ _) | (with_reducible refine Kd.C_drewN ?_ _) | (with_reducible refine Kd.C_drew ?_))); (case side2 => exact HC0_1.out); (case side3 => repeat (first | exact (Kd.C_below HR1_1.out HB.out) | (with_reducible refine Kd.C_alloc ?_ _) | (with_reducible refine Kd.C_drewN ?_ _) | (with_reducible refine Kd.C_drew ?_))); (case side4 => exact HC1_1.out); rintro e w15 ⟨rfl, hb⟩; refine ⟨_, rfl, ?_⟩; have n0_ := Azq.mk (kbq (g := gb865) (o := .cells #[.int .i64 a0_0, .slice A0_1 l0_1.length c0_1, .int .i64 a0_2] 31 (0, 0)) (by (with_reducible repeat (first | refine kdq ?_ _ | refine krq ?_ | refine kaq ?_ _)); exact BK865.out) hb); have n1_ := Azq.mk (kbq (g := gb866) (o := .cells #[.int .i64 a1_0, .slice A1_1 l1_1.length c1_1, .int .i64 a1_2] 31 (0, 0)) (by (with_reducible repeat (first | refine kdq ?_ _ | refine krq ?_ | refine kaq ?_ _)); exact BK866.out) hb); have n2_ := Azq.mk (kbq (g := gb867) (o := .cells #[.int .i64 0, .slice none 0 0, .int .i64 0] 31 (0, 0)) (by (with_reducible repeat (first | refine kdq ?_ _ | refine krq ?_ | refine kaq ?_ _)); exact BK867.out) hb); have n3_ := Azq.mk (wtq (by repeat (first | (with_reducible first | exact HB.out | apply waq | apply wdq | apply wrq | refine wsq ?_ GE865.out | refine wsq ?_ GE866.out | refine wsq ?_ GE867.out) | exact HB.out)) hb); clear BK865; clear BK866; clear BK867; clear HB; have BK865 := n0_; have BK866 := n1_; have BK867 := n2_; have HB := n3_; clear n0_ n1_ n2_ n3_; (try clear hb); (try clear hb2); (try clear hk); (try clear hi); have hcz16_0 : w15.cell? ⟨gb865, 0, none⟩ = some (.int .i64 a0_0) := (kcq BK865.out 0).trans rfl; have hcz16_1 : w15.cell? ⟨gb865, 1, none⟩ = some (.slice A0_1 l0_1.length c0_1) := (kcq BK865.out 1).trans rfl; have hcz16_2 : w15.cell? ⟨gb865, 2, none⟩ = some (.int .i64 a0_2) := (kcq BK865.out 2).trans rfl; have hfz16_0 := kfq BK865.out 0; have hfz16_1 := kfq BK865.out 1; have hfz16_2 := kfq BK865.out 2; have hcz17_0 : w15.cell? ⟨gb866, 0, none⟩ = some (.int .i64 a1_0) := (kcq BK866.out 0).trans rfl; have hcz17_1 : w15.cell? ⟨gb866, 1, none⟩ = some (.slice A1_1 l1_1.length c1_1) := (kcq BK866.out 1).trans rfl; have hcz17_2 : w15.cell? ⟨gb866, 2, none⟩ = some (.int .i64 a1_2) := (kcq BK866.out 2).trans rfl; have hfz17_0 := kfq BK866.out 0; have hfz17_1 := kfq BK866.out 1; have hfz17_2 := kfq BK866.out 2) | ((with_reducible refine gate_callee (f := 101) rfl ?_); refine goesL_ (some 19) rfl rfl Try.func101 (by kernel_rfl) rfl #[.agg #[.int .i64 a0_0, .slice A0_1 l0_1.length c0_1, .int .i64 a0_2], .agg #[.int .i64 a1_0, .slice A1_1 l1_1.length c1_1, .int .i64 a1_2]] rfl (by (try simp only [List.map_toArray, List.map_cons, List.map_nil]); first | done | rfl | (simp only [List.length_drop, List.length_take]; rfl)) ?_; (with_reducible refine (spec_l03Sub.calls k a0_0 _ _ l0_1 a0_2 a1_0 _ _ l1_1 a1_2 t869 t870 t873 _ ?side1 ?side2 ?side3 ?side4 A5.out).mono ?_); (case side1 => repeat (first | exact (Kd.C_below HR0_1.out HB.out) | (with_reducible refine Kd.C_alloc ?_ _) | (with_reducible refine Kd.C_drewN ?_ _) | (with_reducible refine Kd.C_drew ?_))); (case side2 => exact HC0_1.out); (case side3 => repeat (first | exact (Kd.C_below HR1_1.out HB.out) | (with_reducible refine Kd.C_alloc ?_ _) | (with_reducible refine Kd.C_drewN ?_ _) | (with_reducible refine Kd.C_drew ?_))); (case side4 => exact HC1_1.out); rintro e w18 ⟨v871, rfl, ho0, hb⟩; refine ⟨_, rfl, ?_⟩; have n0_ := Azq.mk (Kd.R_lower ho0 (wzq (by repeat (first | (with_reducible first | exact HB.out | apply waq | apply wdq | apply wrq | refine wsq ?_ GE865.out | refine wsq ?_ GE866.out | refine wsq ?_ GE867.out) | exact HB.out)))); have n1_ := Azq.mk (kbq (g := gb865) (o := .cells #[.int .i64 a0_0, .slice A0_1 l0_1.length c0_1, .int .i64 a0_2] 31 (0, 0)) (by (with_reducible repeat (first | refine kdq ?_ _ | refine krq ?_ | refine kaq ?_ _)); exact BK865.out) hb); have n2_ := Azq.mk (kbq (g := gb866) (o := .cells #[.int .i64 a1_0, .slice A1_1 l1_1.length c1_1, .int .i64 a1_2] 31 (0, 0)) (by (with_reducible repeat (first | refine kdq ?_ _ | refine krq ?_ | refine kaq ?_ _)); exact BK866.out) hb); have n3_ := Azq.mk (kbq (g := gb867) (o := .cells #[.int .i64 0, .slice none 0 0, .int .i64 0] 31 (0, 0)) (by (with_reducible repeat (first | refine kdq ?_ _ | refine krq ?_ | refine kaq ?_ _)); exact BK867.out) hb); have n4_ := Azq.mk (wtq (by repeat (first | (with_reducible first | exact HB.out | apply waq | apply wdq | apply wrq | refine wsq ?_ GE865.out | refine wsq ?_ GE866.out | refine wsq ?_ GE867.out) | exact HB.out)) hb); clear BK865; clear BK866; clear BK867; clear HB; have HO872 := n0_; have BK865 := n1_; have BK866 := n2_; have BK867 := n3_; have HB := n4_; clear n0_ n1_ n2_ n3_ n4_; (try clear hb); (try clear hb2); (try clear hk); (try clear hi); (try clear ho0); obtain ⟨Ao19, co19, eo19⟩ := Kd.R_slice HO872.out; subst eo19) | ((with_reducible refine gate_callee (f := 81) rfl ?_); refine goesL_ (some 20) rfl rfl Try.func81 (by kernel_rfl) rfl #[.agg #[.int .i64 t869, .slice Ao19 t870.length co19, .int .i64 t873]] rfl (by (try simp only [List.map_toArray, List.map_cons, List.map_nil]); first | done | rfl | (simp only [List.length_drop, List.length_take]; rfl)) ?_; (with_reducible refine (spec_l03Fit.calls k t869 (fun k_ => some k_ = (.slice Ao19 t870.length co19 : Value).ownBlock) (.slice Ao19 t870.length co19) t870 t873 t874 t875 t878 t879 w _ ?side1 ?side2 A6.out).mono ?_); (case side1 => repeat (first | (with_reducible first | exact HB.out | apply waq | apply wdq | apply wrq | refine wsq ?_ GE865.out | refine wsq ?_ GE866.out | refine wsq ?_ GE867.out) | exact HB.out)); (case side2 => exact Kd.R_tight rfl HO872.out); rintro e w20 ⟨v876, rfl, ho0, hb, hkp⟩; refine ⟨_, rfl, ?_⟩; have n0_ := Azq.mk (blk_kept (by (with_reducible repeat (first | refine kdq ?_ _ | refine krq ?_ | refine kaq ?_ _)); exact BK865.out) hkp (fun hs_ => (fun e_ => (Kd.R_ne HO872.out BK865.out (by decide)) e_) hs_)); have n1_ := Azq.mk (blk_kept (by (with_reducible repeat (first | refine kdq ?_ _ | refine krq ?_ | refine kaq ?_ _)); exact BK866.out) hkp (fun hs_ => (fun e_ => (Kd.R_ne HO872.out BK866.out (by decide)) e_) hs_)); have n2_ := Azq.mk (blk_kept (by (with_reducible repeat (first | refine kdq ?_ _ | refine krq ?_ | refine kaq ?_ _)); exact BK867.out) hkp (fun hs_ => (fun e_ => (Kd.R_ne HO872.out BK867.out (by decide)) e_) hs_)); have n3_ := Azq.mk (Kd.R_mono (ok' := fun k_ => True) ho0 (fun k_ hk_ => trivial)); have n4_ := Azq.mk (hb); clear BK865; clear BK866; clear BK867; clear HB; clear HO872; have BK865 := n0_; have BK866 := n1_; have BK867 := n2_; have HO877 := n3_; have HB := n4_; clear n0_ n1_ n2_ n3_ n4_; (try clear hb); (try clear hkp); (try clear ho0)) | ((with_reducible refine gate_dst (N := 7) rfl ?_); refine box_event ?hg (N := 7) ?hd (cs := #[.int .i64 0, .slice none 0 0, .int .i64 0]) (t := 31) ?hr ?_; (case hd => rfl); (case hg => rfl); (case hr => first | (go_simp; done) | (go_simp; rfl)); intro gb880 hg w21 hbox hb; have n0_ := Azq.mk (Kd.R_below (by (with_reducible repeat (first | apply Kd.R_alloc | apply Kd.R_drewN | apply Kd.R_drew)); exact HO877.out) hb); have n1_ := Azq.mk (kbq (g := gb865) (o := .cells #[.int .i64 a0_0, .slice A0_1 l0_1.length c0_1, .int .i64 a0_2] 31 (0, 0)) (by (with_reducible repeat (first | refine kdq ?_ _ | refine krq ?_ | refine kaq ?_ _)); exact BK865.out) hb); have n2_ := Azq.mk (kbq (g := gb866) (o := .cells #[.int .i64 a1_0, .slice A1_1 l1_1.length c1_1, .int .i64 a1_2] 31 (0, 0)) (by (with_reducible repeat (first | refine kdq ?_ _ | refine krq ?_ | refine kaq ?_ _)); exact BK866.out) hb); have n3_ := Azq.mk (kbq (g := gb867) (o := .cells #[.int .i64 0, .slice none 0 0, .int .i64 0] 31 (0, 0)) (by (with_reducible repeat (first | refine kdq ?_ _ | refine krq ?_ | refine kaq ?_ _)); exact BK867.out) hb); have n4_ := Azq.mk (wtq (by repeat (first | (with_reducible first | exact HB.out | apply waq | apply wdq | apply wrq | refine wsq ?_ GE865.out | refine wsq ?_ GE866.out | refine wsq ?_ GE867.out) | exact HB.out)) hb); have n5_ := Azq.mk (hbox); have n6_ := Azq.mk ((by rw [hg]; exact (wzq (by repeat (first | (with_reducible first | exact HB.out | apply waq | apply wdq | apply wrq | refine wsq ?_ GE865.out | refine wsq ?_ GE866.out | refine wsq ?_ GE867.out) | exact HB.out))) : w.heap.size ≤ gb880)); have n7_ := Azq.mk ((by rw [hg]; exact (wzq (by repeat (first | (with_reducible first | exact HB.out | apply waq | apply wdq | apply wrq | refine wsq ?_ GE865.out | refine wsq ?_ GE866.out | refine wsq ?_ GE867.out) | exact HB.out))) : w.heap.size ≤ gb880)); have n8_ := Azq.mk ((by rw [hg]; exact Nat.ne_of_lt (klq (g := gb865) (o := .cells #[.int .i64 a0_0, .slice A0_1 l0_1.length c0_1, .int .i64 a0_2] 31 (0, 0)) (by (with_reducible repeat (first | refine kdq ?_ _ | refine krq ?_ | refine kaq ?_ _)); exact BK865.out)) : gb865 ≠ gb880)); have n9_ := Azq.mk ((by rw [hg]; exact Nat.ne_of_gt (klq (g := gb865) (o := .cells #[.int .i64 a0_0, .slice A0_1 l0_1.length c0_1, .int .i64 a0_2] 31 (0, 0)) (by (with_reducible repeat (first | refine kdq ?_ _ | refine krq ?_ | refine kaq ?_ _)); exact BK865.out)) : gb880 ≠ gb865)); have n10_ := Azq.mk ((by rw [hg]; exact Nat.ne_of_lt (klq (g := gb866) (o := .cells #[.int .i64 a1_0, .slice A1_1 l1_1.length c1_1, .int .i64 a1_2] 31 (0, 0)) (by (with_reducible repeat (first | refine kdq ?_ _ | refine krq ?_ | refine kaq ?_ _)); exact BK866.out)) : gb866 ≠ gb880)); have n11_ := Azq.mk ((by rw [hg]; exact Nat.ne_of_gt (klq (g := gb866) (o := .cells #[.int .i64 a1_0, .slice A1_1 l1_1.length c1_1, .int .i64 a1_2] 31 (0, 0)) (by (with_reducible repeat (first | refine kdq ?_ _ | refine krq ?_ | refine kaq ?_ _)); exact BK866.out)) : gb880 ≠ gb866)); have n12_ := Azq.mk ((by rw [hg]; exact Nat.ne_of_lt (klq (g := gb867) (o := .cells #[.int .i64 0, .slice none 0 0, .int .i64 0] 31 (0, 0)) (by (with_reducible repeat (first | refine kdq ?_ _ | refine krq ?_ | refine kaq ?_ _)); exact BK867.out)) : gb867 ≠ gb880)); have n13_ := Azq.mk ((by rw [hg]; exact Nat.ne_of_gt (klq (g := gb867) (o := .cells #[.int .i64 0, .slice none 0 0, .int .i64 0] 31 (0, 0)) (by (with_reducible repeat (first | refine kdq ?_ _ | refine krq ?_ | refine kaq ?_ _)); exact BK867.out)) : gb880 ≠ gb867)); clear HO877; clear BK865; clear BK866; clear BK867; clear HB; have HO877 := n0_; have BK865 := n1_; have BK866 := n2_; have BK867 := n3_; have HB := n4_; have BK880 := n5_; have GW880 := n6_; have GE880 := n7_; have NB865_880 := n8_; have NB880_865 := n9_; have NB866_880 := n10_; have NB880_866 := n11_; have NB867_880 := n12_; have NB880_867 := n13_; clear n0_ n1_ n2_ n3_ n4_ n5_ n6_ n7_ n8_ n9_ n10_ n11_ n12_ n13_; clear hb hbox hg; have hnb22 := NB880_865.out; have hnc22 := NB865_880.out; have hnb23 := NB880_866.out; have hnc23 := NB866_880.out; have hnb24 := NB880_867.out; have hnc24 := NB867_880.out; have hcz25_0 : w21.cell? ⟨gb880, 0, none⟩ = some (.int .i64 0) := (kcq BK880.out 0).trans rfl; have hcz25_1 : w21.cell? ⟨gb880, 1, none⟩ = some (.slice none 0 0) := (kcq BK880.out 1).trans rfl; have hcz25_2 : w21.cell? ⟨gb880, 2, none⟩ = some (.int .i64 0) := (kcq BK880.out 2).trans rfl; have hfz25_0 := kfq BK880.out 0; have hfz25_1 := kfq BK880.out 1; have hfz25_2 := kfq BK880.out 2; obtain ⟨Ao26, co26, eo26⟩ := Kd.R_slice HO877.out; subst eo26; have hcz27_0 : w21.cell? ⟨gb867, 0, none⟩ = some (.int .i64 0) := (kcq BK867.out 0).trans rfl; have hcz27_1 : w21.cell? ⟨gb867, 1, none⟩ = some (.slice none 0 0) := (kcq BK867.out 1).trans rfl; have hcz27_2 : w21.cell? ⟨gb867, 2, none⟩ = some (.int .i64 0) := (kcq BK867.out 2).trans rfl; have hfz27_0 := kfq BK867.out 0; have hfz27_1 := kfq BK867.out 1; have hfz27_2 := kfq BK867.out 2))
  refine bodyPost_ret (results_ct rfl _ _ gb867 31 #[.int .i64 t874, .slice Ao26 t875.length co26, .int .i64 t878] (0, 0) _ rfl (by (with_reducible repeat (first | refine kdq ?_ _ | refine krq ?_ | refine kaq ?_ _)); refine blk_put (cs := #[.int .i64 t874, .slice Ao26 t875.length co26, .int .i64 0]) ?_ 2 _ rfl; (with_reducible repeat (first | refine kdq ?_ _ | refine krq ?_ | refine kaq ?_ _)); refine blk_put (cs := #[.int .i64 t874, .slice none 0 0, .int .i64 0]) ?_ 1 _ rfl; (with_reducible repeat (first | refine kdq ?_ _ | refine krq ?_ | refine kaq ?_ _)); refine blk_put (cs := #[.int .i64 0, .slice none 0 0, .int .i64 0]) ?_ 0 _ rfl; (with_reducible repeat (first | refine kdq ?_ _ | refine krq ?_ | refine kaq ?_ _)); refine blk_far ?_ NB867_880.out _; (with_reducible repeat (first | refine kdq ?_ _ | refine krq ?_ | refine kaq ?_ _)); refine blk_far ?_ NB867_880.out _; (with_reducible repeat (first | refine kdq ?_ _ | refine krq ?_ | refine kaq ?_ _)); refine blk_far ?_ NB867_880.out _; (with_reducible repeat (first | refine kdq ?_ _ | refine krq ?_ | refine kaq ?_ _)); exact BK867.out) Try.underlying31 rfl (by kernel_rfl)) rfl ?_
  exact ⟨_, by first | rfl | (simp [errW_none, errW_some] <;> rfl) | (simp [*, errW_none, errW_some] <;> rfl), by (with_reducible repeat (first | apply Kd.R_alloc | apply Kd.R_drewN | apply Kd.R_drew)); exact Kd.R_mono (Kd.R_far (p := ⟨gb867, 2, none⟩) (Kd.R_far (p := ⟨gb867, 1, none⟩) (Kd.R_far (p := ⟨gb867, 0, none⟩) (Kd.R_far (p := ⟨gb880, 2, none⟩) (Kd.R_far (p := ⟨gb880, 1, none⟩) (Kd.R_far (p := ⟨gb880, 0, none⟩) (Kd.R_types (Kd.R_types HO877.out BK880.out (by decide)) BK867.out (by decide)) (fun _ hk => hk.1.2) (.int .i64 t874)) (fun _ hk => hk.1.2) (.slice Ao26 t875.length co26)) (fun _ hk => hk.1.2) (.int .i64 t878)) (fun _ hk => hk.2) (.int .i64 t874)) (fun _ hk => hk.2) (.slice Ao26 t875.length co26)) (fun _ hk => hk.2) (.int .i64 t878)) (fun _ hk => trivial), by repeat (first | (with_reducible first | exact HB.out | apply waq | apply wdq | apply wrq | refine wsq ?_ GE865.out | refine wsq ?_ GE866.out | refine wsq ?_ GE867.out | refine wsq ?_ GE880.out) | exact HB.out)⟩
 ·rw [if_neg c4] at H
  have c4b0 : (t868 == 0) = false := beq_eq_false_iff_ne.mpr c4
  have c4b1 : (t868 != 0) = true := bne_iff_ne.mpr c4
  simp only [Option.some.injEq, Prod.mk.injEq] at H
  obtain ⟨rfl, rfl, rfl, rfl⟩ := H
  go_enter Try.func49, Try.ntmps49
  go_wp2_with (first | ((with_reducible refine gate_dst (N := 2) rfl ?_); refine box_event ?hg (N := 2) ?hd (cs := #[.int .i64 a0_0, .slice A0_1 l0_1.length c0_1, .int .i64 a0_2]) (t := 31) ?hr ?_; (case hd => rfl); (case hg => rfl); (case hr => first | (go_simp; done) | (go_simp; rfl)); intro gb865 hg w28 hbox hb; have n0_ := Azq.mk (wtq (by repeat (first | (with_reducible first | exact HB.out | apply waq | apply wdq | apply wrq) | exact HB.out)) hb); have n1_ := Azq.mk (hbox); have n2_ := Azq.mk ((by rw [hg]; exact (wzq (by repeat (first | (with_reducible first | exact HB.out | apply waq | apply wdq | apply wrq) | exact HB.out))) : w.heap.size ≤ gb865)); have n3_ := Azq.mk ((by rw [hg]; exact (wzq (by repeat (first | (with_reducible first | exact HB.out | apply waq | apply wdq | apply wrq) | exact HB.out))) : w.heap.size ≤ gb865)); clear HB; have HB := n0_; have BK865 := n1_; have GW865 := n2_; have GE865 := n3_; clear n0_ n1_ n2_ n3_; clear hb hbox hg) | ((with_reducible refine gate_dst (N := 3) rfl ?_); refine box_event ?hg (N := 3) ?hd (cs := #[.int .i64 a1_0, .slice A1_1 l1_1.length c1_1, .int .i64 a1_2]) (t := 31) ?hr ?_; (case hd => rfl); (case hg => rfl); (case hr => first | (go_simp; done) | (go_simp; rfl)); intro gb866 hg w29 hbox hb; have n0_ := Azq.mk (kbq (g := gb865) (o := .cells #[.int .i64 a0_0, .slice A0_1 l0_1.length c0_1, .int .i64 a0_2] 31 (0, 0)) (by (with_reducible repeat (first | refine kdq ?_ _ | refine krq ?_ | refine kaq ?_ _)); exact BK865.out) hb); have n1_ := Azq.mk (wtq (by repeat (first | (with_reducible first | exact HB.out | apply waq | apply wdq | apply wrq | refine wsq ?_ GE865.out) | exact HB.out)) hb); have n2_ := Azq.mk (hbox); have n3_ := Azq.mk ((by rw [hg]; exact (wzq (by repeat (first | (with_reducible first | exact HB.out | apply waq | apply wdq | apply wrq | refine wsq ?_ GE865.out) | exact HB.out))) : w.heap.size ≤ gb866)); have n4_ := Azq.mk ((by rw [hg]; exact (wzq (by repeat (first | (with_reducible first | exact HB.out | apply waq | apply wdq | apply wrq | refine wsq ?_ GE865.out) | exact HB.out))) : w.heap.size ≤ gb866)); have n5_ := Azq.mk ((by rw [hg]; exact Nat.ne_of_lt (klq (g := gb865) (o := .cells #[.int .i64 a0_0, .slice A0_1 l0_1.length c0_1, .int .i64 a0_2] 31 (0, 0)) (by (with_reducible repeat (first | refine kdq ?_ _ | refine krq ?_ | refine kaq ?_ _)); exact BK865.out)) : gb865 ≠ gb866)); have n6_ := Azq.mk ((by rw [hg]; exact Nat.ne_of_gt (klq (g := gb865) (o := .cells #[.int .i64 a0_0, .slice A0_1 l0_1.length c0_1, .int .i64 a0_2] 31 (0, 0)) (by (with_reducible repeat (first | refine kdq ?_ _ | refine krq ?_ | refine kaq ?_ _)); exact BK865.out)) : gb866 ≠ gb865)); clear BK865; clear HB; have BK865 := n0_; have HB := n1_; have BK866 := n2_; have GW866 := n3_; have GE866 := n4_; have NB865_866 := n5_; have NB866_865 := n6_; clear n0_ n1_ n2_ n3_ n4_ n5_ n6_; clear hb hbox hg) | ((with_reducible refine gate_dst (N := 4) rfl ?_); refine box_event ?hg (N := 4) ?hd (cs := #[.int .i64 0, .slice none 0 0, .int .i64 0]) (t := 31) ?hr ?_; (case hd => rfl); (case hg => rfl); (case hr => first | (go_simp; done) | (go_simp; rfl)); intro gb867 hg w30 hbox hb; have n0_ := Azq.mk (kbq (g := gb865) (o := .cells #[.int .i64 a0_0, .slice A0_1 l0_1.length c0_1, .int .i64 a0_2] 31 (0, 0)) (by (with_reducible repeat (first | refine kdq ?_ _ | refine krq ?_ | refine kaq ?_ _)); exact BK865.out) hb); have n1_ := Azq.mk (kbq (g := gb866) (o := .cells #[.int .i64 a1_0, .slice A1_1 l1_1.length c1_1, .int .i64 a1_2] 31 (0, 0)) (by (with_reducible repeat (first | refine kdq ?_ _ | refine krq ?_ | refine kaq ?_ _)); exact BK866.out) hb); have n2_ := Azq.mk (wtq (by repeat (first | (with_reducible first | exact HB.out | apply waq | apply wdq | apply wrq | refine wsq ?_ GE865.out | refine wsq ?_ GE866.out) | exact HB.out)) hb); have n3_ := Azq.mk (hbox); have n4_ := Azq.mk ((by rw [hg]; exact (wzq (by repeat (first | (with_reducible first | exact HB.out | apply waq | apply wdq | apply wrq | refine wsq ?_ GE865.out | refine wsq ?_ GE866.out) | exact HB.out))) : w.heap.size ≤ gb867)); have n5_ := Azq.mk ((by rw [hg]; exact (wzq (by repeat (first | (with_reducible first | exact HB.out | apply waq | apply wdq | apply wrq | refine wsq ?_ GE865.out | refine wsq ?_ GE866.out) | exact HB.out))) : w.heap.size ≤ gb867)); have n6_ := Azq.mk ((by rw [hg]; exact Nat.ne_of_lt (klq (g := gb865) (o := .cells #[.int .i64 a0_0, .slice A0_1 l0_1.length c0_1, .int .i64 a0_2] 31 (0, 0)) (by (with_reducible repeat (first | refine kdq ?_ _ | refine krq ?_ | refine kaq ?_ _)); exact BK865.out)) : gb865 ≠ gb867)); have n7_ := Azq.mk ((by rw [hg]; exact Nat.ne_of_gt (klq (g := gb865) (o := .cells #[.int .i64 a0_0, .slice A0_1 l0_1.length c0_1, .int .i64 a0_2] 31 (0, 0)) (by (with_reducible repeat (first | refine kdq ?_ _ | refine krq ?_ | refine kaq ?_ _)); exact BK865.out)) : gb867 ≠ gb865)); have n8_ := Azq.mk ((by rw [hg]; exact Nat.ne_of_lt (klq (g := gb866) (o := .cells #[.int .i64 a1_0, .slice A1_1 l1_1.length c1_1, .int .i64 a1_2] 31 (0, 0)) (by (with_reducible repeat (first | refine kdq ?_ _ | refine krq ?_ | refine kaq ?_ _)); exact BK866.out)) : gb866 ≠ gb867)); have n9_ := Azq.mk ((by rw [hg]; exact Nat.ne_of_gt (klq (g := gb866) (o := .cells #[.int .i64 a1_0, .slice A1_1 l1_1.length c1_1, .int .i64 a1_2] 31 (0, 0)) (by (with_reducible repeat (first | refine kdq ?_ _ | refine krq ?_ | refine kaq ?_ _)); exact BK866.out)) : gb867 ≠ gb866)); clear BK865; clear BK866; clear HB; have BK865 := n0_; have BK866 := n1_; have HB := n2_; have BK867 := n3_; have GW867 := n4_; have GE867 := n5_; have NB865_867 := n6_; have NB867_865 := n7_; have NB866_867 := n8_; have NB867_866 := n9_; clear n0_ n1_ n2_ n3_ n4_ n5_ n6_ n7_ n8_ n9_; clear hb hbox hg; have hnb31 := NB865_866.out; have hnc31 := NB866_865.out; have hnb32 := NB865_867.out; have hnc32 := NB867_865.out; have hcz33_0 : w30.cell? ⟨gb865, 0, none⟩ = some (.int .i64 a0_0) := (kcq BK865.out 0).trans rfl; have hcz33_1 : w30.cell? ⟨gb865, 1, none⟩ = some (.slice A0_1 l0_1.length c0_1) := (kcq BK865.out 1).trans rfl; have hcz33_2 : w30.cell? ⟨gb865, 2, none⟩ = some (.int .i64 a0_2) := (kcq BK865.out 2).trans rfl; have hfz33_0 := kfq BK865.out 0; have hfz33_1 := kfq BK865.out 1; have hfz33_2 := kfq BK865.out 2; have hnb34 := NB866_867.out; have hnc34 := NB867_866.out; have hcz35_0 : w30.cell? ⟨gb866, 0, none⟩ = some (.int .i64 a1_0) := (kcq BK866.out 0).trans rfl; have hcz35_1 : w30.cell? ⟨gb866, 1, none⟩ = some (.slice A1_1 l1_1.length c1_1) := (kcq BK866.out 1).trans rfl; have hcz35_2 : w30.cell? ⟨gb866, 2, none⟩ = some (.int .i64 a1_2) := (kcq BK866.out 2).trans rfl; have hfz35_0 := kfq BK866.out 0; have hfz35_1 := kfq BK866.out 1; have hfz35_2 := kfq BK866.out 2) | ((with_reducible refine gate_callee (f := 87) rfl ?_); refine goesL_ (some 11) rfl rfl Try.func87 (by kernel_rfl) rfl #[.agg #[.int .i64 a0_0, .slice A0_1 l0_1.length c0_1, .int .i64 a0_2], .agg #[.int .i64 a1_0, .slice A1_1 l1_1.length c1_1, .int .i64 a1_2]] rfl (by (try simp only [List.map_toArray, List.map_cons, List.map_nil]); first | done | rfl | (simp only [List.length_drop, List.length_take]; rfl)) ?_; (with_reducible refine (spec_l03Both.calls k a0_0 _ _ l0_1 a0_2 a1_0 _ _ l1_1 a1_2 t868 _ ?side1 ?side2 ?side3 ?side4 A3.out).mono ?_); (case side1 => repeat (first | exact (Kd.C_below HR0_1.out HB.out) | (with_reducible refine Kd.C_alloc ?_ _) | (with_reducible refine Kd.C_drewN ?_ _) | (with_reducible refine Kd.C_drew ?_))); (case side2 => exact HC0_1.out); (case side3 => repeat (first | exact (Kd.C_below HR1_1.out HB.out) | (with_reducible refine Kd.C_alloc ?_ _) | (with_reducible refine Kd.C_drewN ?_ _) | (with_reducible refine Kd.C_drew ?_))); (case side4 => exact HC1_1.out); rintro e w36 ⟨rfl, hb⟩; refine ⟨_, rfl, ?_⟩; have n0_ := Azq.mk (kbq (g := gb865) (o := .cells #[.int .i64 a0_0, .slice A0_1 l0_1.length c0_1, .int .i64 a0_2] 31 (0, 0)) (by (with_reducible repeat (first | refine kdq ?_ _ | refine krq ?_ | refine kaq ?_ _)); exact BK865.out) hb); have n1_ := Azq.mk (kbq (g := gb866) (o := .cells #[.int .i64 a1_0, .slice A1_1 l1_1.length c1_1, .int .i64 a1_2] 31 (0, 0)) (by (with_reducible repeat (first | refine kdq ?_ _ | refine krq ?_ | refine kaq ?_ _)); exact BK866.out) hb); have n2_ := Azq.mk (kbq (g := gb867) (o := .cells #[.int .i64 0, .slice none 0 0, .int .i64 0] 31 (0, 0)) (by (with_reducible repeat (first | refine kdq ?_ _ | refine krq ?_ | refine kaq ?_ _)); exact BK867.out) hb); have n3_ := Azq.mk (wtq (by repeat (first | (with_reducible first | exact HB.out | apply waq | apply wdq | apply wrq | refine wsq ?_ GE865.out | refine wsq ?_ GE866.out | refine wsq ?_ GE867.out) | exact HB.out)) hb); clear BK865; clear BK866; clear BK867; clear HB; have BK865 := n0_; have BK866 := n1_; have BK867 := n2_; have HB := n3_; clear n0_ n1_ n2_ n3_; (try clear hb); (try clear hb2); (try clear hk); (try clear hi); have hcz37_0 : w36.cell? ⟨gb867, 0, none⟩ = some (.int .i64 0) := (kcq BK867.out 0).trans rfl; have hcz37_1 : w36.cell? ⟨gb867, 1, none⟩ = some (.slice none 0 0) := (kcq BK867.out 1).trans rfl; have hcz37_2 : w36.cell? ⟨gb867, 2, none⟩ = some (.int .i64 0) := (kcq BK867.out 2).trans rfl; have hfz37_0 := kfq BK867.out 0; have hfz37_1 := kfq BK867.out 1; have hfz37_2 := kfq BK867.out 2))
  refine bodyPost_ret (results_ct rfl _ _ gb867 31 #[.int .i64 0, .slice none 0 0, .int .i64 0] (0, 0) _ rfl (by (with_reducible repeat (first | refine kdq ?_ _ | refine krq ?_ | refine kaq ?_ _)); refine blk_put (cs := #[.int .i64 0, .slice none 0 0, .int .i64 0]) ?_ 2 _ rfl; (with_reducible repeat (first | refine kdq ?_ _ | refine krq ?_ | refine kaq ?_ _)); refine blk_put (cs := #[.int .i64 0, .slice none 0 0, .int .i64 0]) ?_ 1 _ rfl; (with_reducible repeat (first | refine kdq ?_ _ | refine krq ?_ | refine kaq ?_ _)); refine blk_put (cs := #[.int .i64 0, .slice none 0 0, .int .i64 0]) ?_ 0 _ rfl; (with_reducible repeat (first | refine kdq ?_ _ | refine krq ?_ | refine kaq ?_ _)); exact BK867.out) Try.underlying31 rfl (by kernel_rfl)) rfl ?_
  exact ⟨_, by first | rfl | (simp [errW_none, errW_some] <;> rfl) | (simp [*, errW_none, errW_some] <;> rfl), by first | exact Kd.R_nil _ _ _ _ _ | exact Kd.N_nil _ _ _ _ _ | exact Kd.V_nil _ _ _ _ _ | exact Kd.Q_nil _ _ _ _ _ | exact Kd.S_nil _ _ _ _ _, by repeat (first | (with_reducible first | exact HB.out | apply waq | apply wdq | apply wrq | refine wsq ?_ GE865.out | refine wsq ?_ GE866.out | refine wsq ?_ GE867.out) | exact HB.out)⟩
end Go.Proofs.Ytdboepiobaehkaa.PW
end
section
namespace Go.Proofs.Ytdboepiobaehkaa.PW
open Go.RowKit Go.Proofs.YtdboepiobaehkaaW.PrintWords Go.Proofs.YtdboepiobaehkaaW.PrintLast Go.Proofs.YtdboepiobaehkaaW.PrintMore
attribute [local go_sem] max2_int min2_int max_two min_two max_three min_three max_four min_four   -- for this text's walks alone
set_option linter.unusedVariables false
set_option linter.unusedSimpArgs false
def laws_eqInt64S.l0 : Nat → List Int → List Int → Int → Option (Bool)
 | 0, _, _, _ => none
 | k + 1, x0, x1, x5 => if x5 < (x0.length : Int) then (if 0 ≤ x5 then (if x5 < (x1.length : Int) then (if (rd x0 x5) = (rd x1 x5) then (laws_eqInt64S.l0 k x0 x1 (wrap64 (x5 + 1))) else (some false)) else (none)) else (none)) else (some true)
def laws_eqInt64S.f (k : Nat) (l0 : List Int) (l1 : List Int) : Option (Bool) := if (l0.length : Int) = (l1.length : Int) then (laws_eqInt64S.l0 k l0 l1 0) else (some false)
theorem laws_eqInt64S.mono_l : ∀ k, (∀ y0 y1 y2, LeO (laws_eqInt64S.l0 k y0 y1 y2) (laws_eqInt64S.l0 (k + 1) y0 y1 y2))
 | 0 => fun _ _ _ r h => by simp [laws_eqInt64S.l0] at h
 | k + 1 => by
  have ih0 := laws_eqInt64S.mono_l k
  ·intro y0 y1 y2
   unfold laws_eqInt64S.l0
   repeat' first
   | (with_reducible exact ih0 _ _ _)
   | (with_reducible exact LeO.refl _)
   | (with_reducible exact LeO.none _)
   | (with_reducible refine LeO.ite ?_ ?_)
   | (with_reducible refine LeO.bind ?_ (fun _ => ?_))
   | exact ih0 _ _ _
   | exact LeO.none _
   | refine LeO.ite ?_ ?_
   | refine LeO.bind ?_ (fun _ => ?_)
theorem laws_eqInt64S.mono : ∀ a0 a1 k, LeO (laws_eqInt64S.f k a0 a1) (laws_eqInt64S.f (k + 1) a0 a1) := by
 intro a0 a1 k
 have ih0 := laws_eqInt64S.mono_l k
 unfold laws_eqInt64S.f
 repeat' first
   | (with_reducible exact ih0 _ _ _)
   | (with_reducible exact LeO.refl _)
   | (with_reducible exact LeO.none _)
   | (with_reducible refine LeO.ite ?_ ?_)
   | (with_reducible refine LeO.bind ?_ (fun _ => ?_))
   | exact ih0 _ _ _
   | exact LeO.none _
   | refine LeO.ite ?_ ?_
   | refine LeO.bind ?_ (fun _ => ?_)
set_option maxHeartbeats 8000000 in
set_option maxRecDepth 100000 in
theorem laws_eqInt64S.calls (k : Nat) (A0 : Option Addr) (c0 : Nat) (l0 : List Int) (A1 : Option Addr) (c1 : Nat) (l1 : List Int) (r : Bool) (w : World) (hr0 : Kd.C (Kd.int .i64) w A0 l0.length l0) (hc0 : l0.length ≤ c0) (hr1 : Kd.C (Kd.int .i64) w A1 l1.length l1) (hc1 : l1.length ≤ c1) (h : laws_eqInt64S.f k l0 l1 = some r) :
  Calls Try.prog 85 #[.slice A0 l0.length c0, .slice A1 l1.length c1] w fun e w' => e = .returned (.bool r) ∧ Drawn0 w w' := by
 have HR0 := Azq.mk hr0
 have HC0 := Azq.mk hc0
 clear hr0 hc0
 have HR1 := Azq.mk hr1
 have HC1 := Azq.mk hc1
 clear hr1 hc1
 have H : (if (l0.length : Int) = (l1.length : Int) then (laws_eqInt64S.l0 k l0 l1 0) else (some false)) = some r := h
 clear h
 by_cases c3 : (l0.length : Int) = (l1.length : Int)
 ·rw [if_pos c3] at H
  have c3b0 : ((l0.length : Int) == (l1.length : Int)) = true := beq_iff_eq.mpr c3
  have c3b1 : ((l0.length : Int) != (l1.length : Int)) = false := bne_eq_false_iff_eq.mpr c3
  have c3b2 : (l0.length == l1.length) = true := by first | simpa using c3 | (simp at c3 ⊢; omega)
  clear c3
  have H' := Azq.mk H
  clear H
  go_enter Try.func85, Try.ntmps85
  go_wp2
  repeat (go_quiet (fail); try go_wp2)
  go_loopg [5] k (fun kq v5 w' => ∃ (x5_1 : Int), v5 = .int .i64 x5_1 ∧ Azq (laws_eqInt64S.l0 kq l0 l1 x5_1 = some r) ∧ Azq (kq ≤ k) ∧ Drawn0 w w')
  case atStart => exact ⟨(0), (by first | rfl | (simp; done) | (simp [*]; done)), H', ⟨Nat.le_refl _⟩, by repeat (first | exact Drawn0.refl _ | apply Drawn0.step)⟩
  case round =>
   clear H'
   try clear c1
   try clear p2
   try clear c3
   try clear c3b0
   try clear c3b1
   try clear c3b2
   obtain ⟨x5_1, rfl, HA, HK1, ⟨m1, rfl⟩⟩ := hrel
   cases gk with
   | zero => exact absurd HA.out (by simp [laws_eqInt64S.l0])
   | succ k1 =>
    have H := HA.out
    clear HA
    simp only [laws_eqInt64S.l0] at H
    by_cases c4 : x5_1 < (l0.length : Int)
    ·rw [if_pos c4] at H
     have c4b0 : decide (x5_1 < (l0.length : Int)) = true := decide_eq_true c4
     clear c4
     by_cases c5 : 0 ≤ x5_1
     ·rw [if_pos c5] at H
      have c5b0 : decide (0 ≤ x5_1) = true := decide_eq_true c5
      clear c5
      by_cases c6 : x5_1 < (l1.length : Int)
      ·rw [if_pos c6] at H
       have c6b0 : decide (x5_1 < (l1.length : Int)) = true := decide_eq_true c6
       clear c6
       by_cases c7 : (rd l0 x5_1) = (rd l1 x5_1)
       ·rw [if_pos c7] at H
        have c7b0 : ((rd l0 x5_1) == (rd l1 x5_1)) = true := beq_iff_eq.mpr c7
        have c7b1 : ((rd l0 x5_1) != (rd l1 x5_1)) = false := bne_eq_false_iff_eq.mpr c7
        clear c7
        have H' := Azq.mk H
        clear H
        have p139 : 0 ≤ (x5_1 : Int) := of_decide_eq_true (by first | (with_reducible assumption) | assumption)
        have q139 : x5_1 < (l0.length : Int) := of_decide_eq_true (by first | (with_reducible assumption) | assumption)
        obtain ⟨ad139, e139, hx139_0⟩ := Kd.at_int HR0.out x5_1 p139 q139
        cases e139
        replace p139 := eq_true p139
        replace q139 := eq_true q139
        have p140 : 0 ≤ (x5_1 : Int) := of_decide_eq_true (by first | (with_reducible assumption) | assumption)
        have q140 : x5_1 < (l1.length : Int) := of_decide_eq_true (by first | (with_reducible assumption) | assumption)
        obtain ⟨ad140, e140, hx140_0⟩ := Kd.at_int HR1.out x5_1 p140 q140
        cases e140
        replace p140 := eq_true p140
        replace q140 := eq_true q140
        go_wp2
        repeat (go_quiet (fail); try go_wp2)
        go_roundg k1
        case measure => have := HK1.out; omega
        case rel => exact ⟨(wrap64 (x5_1 + 1)), (by first | rfl | (simp; done) | (simp [*]; done)), H', ⟨by have := HK1.out; omega⟩, by repeat (first | exact Drawn0.refl _ | apply Drawn0.step)⟩
       ·rw [if_neg c7] at H
        have c7b0 : ((rd l0 x5_1) == (rd l1 x5_1)) = false := beq_eq_false_iff_ne.mpr c7
        have c7b1 : ((rd l0 x5_1) != (rd l1 x5_1)) = true := bne_iff_ne.mpr c7
        obtain rfl := Option.some.inj H
        have p139 : 0 ≤ (x5_1 : Int) := of_decide_eq_true (by first | (with_reducible assumption) | assumption)
        have q139 : x5_1 < (l0.length : Int) := of_decide_eq_true (by first | (with_reducible assumption) | assumption)
        obtain ⟨ad139, e139, hx139_0⟩ := Kd.at_int HR0.out x5_1 p139 q139
        cases e139
        replace p139 := eq_true p139
        replace q139 := eq_true q139
        have p140 : 0 ≤ (x5_1 : Int) := of_decide_eq_true (by first | (with_reducible assumption) | assumption)
        have q140 : x5_1 < (l1.length : Int) := of_decide_eq_true (by first | (with_reducible assumption) | assumption)
        obtain ⟨ad140, e140, hx140_0⟩ := Kd.at_int HR1.out x5_1 p140 q140
        cases e140
        replace p140 := eq_true p140
        replace q140 := eq_true q140
        go_wp2
        repeat (go_quiet (fail); try go_wp2)
        go_ret
        exact ⟨by first | rfl | (simp; done) | (simp [*]; done), by repeat (first | exact Drawn0.refl _ | apply Drawn0.step)⟩
      ·rw [if_neg c6] at H
       exact absurd H (by simp)
     ·rw [if_neg c5] at H
      exact absurd H (by simp)
    ·rw [if_neg c4] at H
     have c4b0 : decide (x5_1 < (l0.length : Int)) = false := decide_eq_false c4
     clear c4
     obtain rfl := Option.some.inj H
     go_wp2
     repeat (go_quiet (fail); try go_wp2)
     go_ret
     exact ⟨by first | rfl | (simp; done) | (simp [*]; done), by repeat (first | exact Drawn0.refl _ | apply Drawn0.step)⟩
 ·rw [if_neg c3] at H
  have c3b0 : ((l0.length : Int) == (l1.length : Int)) = false := beq_eq_false_iff_ne.mpr c3
  have c3b1 : ((l0.length : Int) != (l1.length : Int)) = true := bne_iff_ne.mpr c3
  have c3b2 : (l0.length == l1.length) = false := by first | simpa using c3 | (simp at c3 ⊢; omega)
  obtain rfl := Option.some.inj H
  go_enter Try.func85, Try.ntmps85
  go_wp2
  repeat (go_quiet (fail); try go_wp2)
  go_ret
  exact ⟨by first | rfl | (simp; done) | (simp [*]; done), by repeat (first | exact Drawn0.refl _ | apply Drawn0.step)⟩
end Go.Proofs.Ytdboepiobaehkaa.PW
end
