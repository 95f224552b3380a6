/- Lemmas of the claim: PWx22, Ps, PWx34, PWx7, PWx8. -/
import Derived.Test.YtjddhnjjeomfjaaQESg
import Derived.Test.YtjddhnjjeomfjaaQESi
import Derived.Test.YtjddhnjjeomfjaaQESh
section
namespace Go.Proofs.Ytjddhnjjeomfjaa.PW
open Go.RowKit Go.Proofs.YtjddhnjjeomfjaaW.PrintWords Go.Proofs.YtjddhnjjeomfjaaW.PrintLast Go.Proofs.YtjddhnjjeomfjaaW.PrintMore
attribute [local go_sem] max2_int min2_int max_two min_two max_three min_three max_four min_four   -- for this text's walks alone
set_option linter.unusedVariables false
set_option linter.unusedSimpArgs false
def spec_l03Multiple.j0 : Nat → Int → Bool → Int → List Int → Option (Int × List Int × Int × Bool)
  | 0, _, _, _, _ => none
  | k + 1, x8, x11, x279000, x279001 => if x11 = true then ((spec_l02Of.f k 1).bind fun bt281 => ((spec_l02Add.f k x279000 x279001 bt281.1 bt281.2).bind fun bt285 => (some (bt285.1, bt285.2, x8, false)))) else (some (x279000, x279001, x8, false))
def spec_l03Multiple.f (k : Nat) (a0_0 : Int) (l0_1 : List Int) (a0_2 : Int) (a1 : Int) : Option (Int × List Int × Int × Bool) := (spec_l02Abs.f k a0_0 l0_1).bind fun bt264 => ((spec_l02Length.f k bt264.1 bt264.2).bind fun t269 => (if (wrap64 ((mx (wrap64 ((wrap64 (t269 + a0_2)) - 24)) (-149)) - a0_2)) ≤ 0 then ((spec_l02Left.f k bt264.1 bt264.2 (wrap64 (-(wrap64 ((mx (wrap64 ((wrap64 (t269 + a0_2)) - 24)) (-149)) - a0_2))))).bind fun bt270 => (some (bt270.1, bt270.2, mx (wrap64 ((wrap64 (t269 + a0_2)) - 24)) (-149), true))) else ((spec_l02Cut.f k bt264.1 bt264.2 (wrap64 ((mx (wrap64 ((wrap64 (t269 + a0_2)) - 24)) (-149)) - a0_2))).bind fun bt274 => (if a1 = 0 then ((spec_l02Bit.f bt264.1 bt264.2 (wrap64 ((wrap64 ((mx (wrap64 ((wrap64 (t269 + a0_2)) - 24)) (-149)) - a0_2)) - 1))).bind fun t279 => (if t279 = 1 then (if (wrap64 ((mx (wrap64 ((wrap64 (t269 + a0_2)) - 24)) (-149)) - a0_2)) > 1 then (spec_l03Multiple.j0 k (mx (wrap64 ((wrap64 (t269 + a0_2)) - 24)) (-149)) true bt274.1 bt274.2) else ((spec_l02Bit.f bt274.1 bt274.2 0).bind fun t280 => (spec_l03Multiple.j0 k (mx (wrap64 ((wrap64 (t269 + a0_2)) - 24)) (-149)) (t280 == 1) bt274.1 bt274.2))) else (spec_l03Multiple.j0 k (mx (wrap64 ((wrap64 (t269 + a0_2)) - 24)) (-149)) false bt274.1 bt274.2))) else (if a1 = 1 then (spec_l03Multiple.j0 k (mx (wrap64 ((wrap64 (t269 + a0_2)) - 24)) (-149)) (decide (a0_0 < 0)) bt274.1 bt274.2) else (if a1 = 2 then (spec_l03Multiple.j0 k (mx (wrap64 ((wrap64 (t269 + a0_2)) - 24)) (-149)) (decide (a0_0 > 0)) bt274.1 bt274.2) else (if a1 = 4 then (spec_l03Multiple.j0 k (mx (wrap64 ((wrap64 (t269 + a0_2)) - 24)) (-149)) true bt274.1 bt274.2) else (spec_l03Multiple.j0 k (mx (wrap64 ((wrap64 (t269 + a0_2)) - 24)) (-149)) false bt274.1 bt274.2))))))))
theorem spec_l03Multiple.mono_l : ∀ k, (∀ y0 y1 y2 y3, LeO (spec_l03Multiple.j0 k y0 y1 y2 y3) (spec_l03Multiple.j0 (k + 1) y0 y1 y2 y3))
  | 0 => fun _ _ _ _ r h => by simp [spec_l03Multiple.j0] at h
  | k + 1 => by
    have ih0 := spec_l03Multiple.mono_l k
    · intro y0 y1 y2 y3
      unfold spec_l03Multiple.j0
      repeat' first
      | (with_reducible exact ih0 _ _ _ _)
      | (with_reducible exact spec_l02Abs.mono _ _ _)
      | (with_reducible exact spec_l02Add.mono _ _ _ _ _)
      | (with_reducible exact spec_l02Cut.mono _ _ _ _)
      | (with_reducible exact spec_l02Left.mono _ _ _ _)
      | (with_reducible exact spec_l02Length.mono _ _ _)
      | (with_reducible exact spec_l02Of.mono _ _)
      | (with_reducible exact LeO.refl _)
      | (with_reducible exact LeO.none _)
      | (with_reducible refine LeO.ite ?_ ?_)
      | (with_reducible refine LeO.bind ?_ (fun _ => ?_))
      | exact ih0 _ _ _ _
      | exact spec_l02Abs.mono _ _ _
      | exact spec_l02Add.mono _ _ _ _ _
      | exact spec_l02Cut.mono _ _ _ _
      | exact spec_l02Left.mono _ _ _ _
      | exact spec_l02Length.mono _ _ _
      | exact spec_l02Of.mono _ _
      | exact LeO.none _
      | refine LeO.ite ?_ ?_
      | refine LeO.bind ?_ (fun _ => ?_)
theorem spec_l03Multiple.mono : ∀ a0 a1 a2 a3 k, LeO (spec_l03Multiple.f k a0 a1 a2 a3) (spec_l03Multiple.f (k + 1) a0 a1 a2 a3) := by
  intro a0 a1 a2 a3 k
  have ih0 := spec_l03Multiple.mono_l k
  unfold spec_l03Multiple.f
  repeat' first
      | (with_reducible exact ih0 _ _ _ _)
      | (with_reducible exact spec_l02Abs.mono _ _ _)
      | (with_reducible exact spec_l02Add.mono _ _ _ _ _)
      | (with_reducible exact spec_l02Cut.mono _ _ _ _)
      | (with_reducible exact spec_l02Left.mono _ _ _ _)
      | (with_reducible exact spec_l02Length.mono _ _ _)
      | (with_reducible exact spec_l02Of.mono _ _)
      | (with_reducible exact LeO.refl _)
      | (with_reducible exact LeO.none _)
      | (with_reducible refine LeO.ite ?_ ?_)
      | (with_reducible refine LeO.bind ?_ (fun _ => ?_))
      | exact ih0 _ _ _ _
      | exact spec_l02Abs.mono _ _ _
      | exact spec_l02Add.mono _ _ _ _ _
      | exact spec_l02Cut.mono _ _ _ _
      | exact spec_l02Left.mono _ _ _ _
      | exact spec_l02Length.mono _ _ _
      | exact spec_l02Of.mono _ _
      | exact LeO.none _
      | refine LeO.ite ?_ ?_
      | refine LeO.bind ?_ (fun _ => ?_)
def spec_l03Multiple.T2 : Bool × List (List Nat × List Nat) := (true, [([], []), ([0], [0]), ([], []), ([2], [2]), ([1, 3], [1, 3]), ([4], [4]), ([5], [5]), ([6, 1, 0, 1, 2, 3, 4, 5, 6], [6])])
def spec_l03Multiple.B2 : List Nat := [0, 1, 0, 4, 15, 31, 63, 127]
theorem spec_l03Multiple.tab2 : rtab .any (opsOf Try.f56 2) = spec_l03Multiple.T2 := by kernel_rfl
theorem spec_l03Multiple.bits2 : waitsOk spec_l03Multiple.T2.2 spec_l03Multiple.B2 = true := by kernel_rfl
set_option maxHeartbeats 8000000 in
set_option maxRecDepth 100000 in
theorem spec_l03Multiple.calls (k : Nat) (a0_0 : Int) (A0_1 : Option Addr) (c0_1 : Nat) (l0_1 : List Int) (a0_2 : Int) (a1 : Int) (r1 : Int) (r2 : List Int) (r3 : Int) (r4 : Bool) (w : World) (hr0_1 : Kd.C (Kd.int .i64) w A0_1 l0_1.length l0_1) (hc0_1 : l0_1.length ≤ c0_1) (h : spec_l03Multiple.f k a0_0 l0_1 a0_2 a1 = some (r1, r2, r3, r4)) :
    Calls Try.prog 56 #[.agg #[.int .i64 a0_0, .slice A0_1 l0_1.length c0_1, .int .i64 a0_2], .int .i64 a1] w fun e w' => ∃ v1_ : Value, e = .returned (.tuple #[.agg #[.int .i64 r1, v1_], .int .i64 r3, .bool r4]) ∧ Kd.R (Kd.int .i64) 2 w' w.heap.size (fun _ => True) v1_ r2 ∧ Below w.heap.size w w' := by
  have hu33 := Try.underlying33
  have hu31 := Try.underlying31
  have HR0_1 := Aside0.mk hr0_1
  have HC0_1 := Aside0.mk hc0_1
  clear hr0_1 hc0_1
  have HB := Aside0.mk (Below.refl w.heap.size w)
  have H : ((spec_l02Abs.f k a0_0 l0_1).bind fun bt264 => ((spec_l02Length.f k bt264.1 bt264.2).bind fun t269 => (if (wrap64 ((mx (wrap64 ((wrap64 (t269 + a0_2)) - 24)) (-149)) - a0_2)) ≤ 0 then ((spec_l02Left.f k bt264.1 bt264.2 (wrap64 (-(wrap64 ((mx (wrap64 ((wrap64 (t269 + a0_2)) - 24)) (-149)) - a0_2))))).bind fun bt270 => (some (bt270.1, bt270.2, mx (wrap64 ((wrap64 (t269 + a0_2)) - 24)) (-149), true))) else ((spec_l02Cut.f k bt264.1 bt264.2 (wrap64 ((mx (wrap64 ((wrap64 (t269 + a0_2)) - 24)) (-149)) - a0_2))).bind fun bt274 => (if a1 = 0 then ((spec_l02Bit.f bt264.1 bt264.2 (wrap64 ((wrap64 ((mx (wrap64 ((wrap64 (t269 + a0_2)) - 24)) (-149)) - a0_2)) - 1))).bind fun t279 => (if t279 = 1 then (if (wrap64 ((mx (wrap64 ((wrap64 (t269 + a0_2)) - 24)) (-149)) - a0_2)) > 1 then (spec_l03Multiple.j0 k (mx (wrap64 ((wrap64 (t269 + a0_2)) - 24)) (-149)) true bt274.1 bt274.2) else ((spec_l02Bit.f bt274.1 bt274.2 0).bind fun t280 => (spec_l03Multiple.j0 k (mx (wrap64 ((wrap64 (t269 + a0_2)) - 24)) (-149)) (t280 == 1) bt274.1 bt274.2))) else (spec_l03Multiple.j0 k (mx (wrap64 ((wrap64 (t269 + a0_2)) - 24)) (-149)) false bt274.1 bt274.2))) else (if a1 = 1 then (spec_l03Multiple.j0 k (mx (wrap64 ((wrap64 (t269 + a0_2)) - 24)) (-149)) (decide (a0_0 < 0)) bt274.1 bt274.2) else (if a1 = 2 then (spec_l03Multiple.j0 k (mx (wrap64 ((wrap64 (t269 + a0_2)) - 24)) (-149)) (decide (a0_0 > 0)) bt274.1 bt274.2) else (if a1 = 4 then (spec_l03Multiple.j0 k (mx (wrap64 ((wrap64 (t269 + a0_2)) - 24)) (-149)) true bt274.1 bt274.2) else (spec_l03Multiple.j0 k (mx (wrap64 ((wrap64 (t269 + a0_2)) - 24)) (-149)) false bt274.1 bt274.2))))))))) = some (r1, r2, r3, r4) := h
  clear h
  replace H := Option.bind_eq_some_iff.mp H
  obtain ⟨⟨t264, t265⟩, A30, H⟩ := H
  replace H : ((spec_l02Length.f k t264 t265).bind fun t269 => (if (wrap64 ((mx (wrap64 ((wrap64 (t269 + a0_2)) - 24)) (-149)) - a0_2)) ≤ 0 then ((spec_l02Left.f k t264 t265 (wrap64 (-(wrap64 ((mx (wrap64 ((wrap64 (t269 + a0_2)) - 24)) (-149)) - a0_2))))).bind fun bt270 => (some (bt270.1, bt270.2, mx (wrap64 ((wrap64 (t269 + a0_2)) - 24)) (-149), true))) else ((spec_l02Cut.f k t264 t265 (wrap64 ((mx (wrap64 ((wrap64 (t269 + a0_2)) - 24)) (-149)) - a0_2))).bind fun bt274 => (if a1 = 0 then ((spec_l02Bit.f t264 t265 (wrap64 ((wrap64 ((mx (wrap64 ((wrap64 (t269 + a0_2)) - 24)) (-149)) - a0_2)) - 1))).bind fun t279 => (if t279 = 1 then (if (wrap64 ((mx (wrap64 ((wrap64 (t269 + a0_2)) - 24)) (-149)) - a0_2)) > 1 then (spec_l03Multiple.j0 k (mx (wrap64 ((wrap64 (t269 + a0_2)) - 24)) (-149)) true bt274.1 bt274.2) else ((spec_l02Bit.f bt274.1 bt274.2 0).bind fun t280 => (spec_l03Multiple.j0 k (mx (wrap64 ((wrap64 (t269 + a0_2)) - 24)) (-149)) (t280 == 1) bt274.1 bt274.2))) else (spec_l03Multiple.j0 k (mx (wrap64 ((wrap64 (t269 + a0_2)) - 24)) (-149)) false bt274.1 bt274.2))) else (if a1 = 1 then (spec_l03Multiple.j0 k (mx (wrap64 ((wrap64 (t269 + a0_2)) - 24)) (-149)) (decide (a0_0 < 0)) bt274.1 bt274.2) else (if a1 = 2 then (spec_l03Multiple.j0 k (mx (wrap64 ((wrap64 (t269 + a0_2)) - 24)) (-149)) (decide (a0_0 > 0)) bt274.1 bt274.2) else (if a1 = 4 then (spec_l03Multiple.j0 k (mx (wrap64 ((wrap64 (t269 + a0_2)) - 24)) (-149)) true bt274.1 bt274.2) else (spec_l03Multiple.j0 k (mx (wrap64 ((wrap64 (t269 + a0_2)) - 24)) (-149)) false bt274.1 bt274.2)))))))) = some (r1, r2, r3, r4) := H
  have A3 := Aside0.mk A30
  clear A30
  replace H := Option.bind_eq_some_iff.mp H
  obtain ⟨t269, A40, H⟩ := H
  replace H : (if (wrap64 ((mx (wrap64 ((wrap64 (t269 + a0_2)) - 24)) (-149)) - a0_2)) ≤ 0 then ((spec_l02Left.f k t264 t265 (wrap64 (-(wrap64 ((mx (wrap64 ((wrap64 (t269 + a0_2)) - 24)) (-149)) - a0_2))))).bind fun bt270 => (some (bt270.1, bt270.2, mx (wrap64 ((wrap64 (t269 + a0_2)) - 24)) (-149), true))) else ((spec_l02Cut.f k t264 t265 (wrap64 ((mx (wrap64 ((wrap64 (t269 + a0_2)) - 24)) (-149)) - a0_2))).bind fun bt274 => (if a1 = 0 then ((spec_l02Bit.f t264 t265 (wrap64 ((wrap64 ((mx (wrap64 ((wrap64 (t269 + a0_2)) - 24)) (-149)) - a0_2)) - 1))).bind fun t279 => (if t279 = 1 then (if (wrap64 ((mx (wrap64 ((wrap64 (t269 + a0_2)) - 24)) (-149)) - a0_2)) > 1 then (spec_l03Multiple.j0 k (mx (wrap64 ((wrap64 (t269 + a0_2)) - 24)) (-149)) true bt274.1 bt274.2) else ((spec_l02Bit.f bt274.1 bt274.2 0).bind fun t280 => (spec_l03Multiple.j0 k (mx (wrap64 ((wrap64 (t269 + a0_2)) - 24)) (-149)) (t280 == 1) bt274.1 bt274.2))) else (spec_l03Multiple.j0 k (mx (wrap64 ((wrap64 (t269 + a0_2)) - 24)) (-149)) false bt274.1 bt274.2))) else (if a1 = 1 then (spec_l03Multiple.j0 k (mx (wrap64 ((wrap64 (t269 + a0_2)) - 24)) (-149)) (decide (a0_0 < 0)) bt274.1 bt274.2) else (if a1 = 2 then (spec_l03Multiple.j0 k (mx (wrap64 ((wrap64 (t269 + a0_2)) - 24)) (-149)) (decide (a0_0 > 0)) bt274.1 bt274.2) else (if a1 = 4 then (spec_l03Multiple.j0 k (mx (wrap64 ((wrap64 (t269 + a0_2)) - 24)) (-149)) true bt274.1 bt274.2) else (spec_l03Multiple.j0 k (mx (wrap64 ((wrap64 (t269 + a0_2)) - 24)) (-149)) false bt274.1 bt274.2))))))) = some (r1, r2, r3, r4) := H
  have A4 := Aside0.mk A40
  clear A40
  obtain ⟨ji5, hji5⟩ : ∃ j_ : Int, (mx (wrap64 ((wrap64 (t269 + a0_2)) - 24)) (-149)) = j_ := ⟨_, rfl⟩
  replace H : (if (wrap64 ((ji5) - a0_2)) ≤ 0 then ((spec_l02Left.f k t264 t265 (wrap64 (-(wrap64 ((ji5) - a0_2))))).bind fun bt270 => (some (bt270.1, bt270.2, ji5, true))) else ((spec_l02Cut.f k t264 t265 (wrap64 ((ji5) - a0_2))).bind fun bt274 => (if a1 = 0 then ((spec_l02Bit.f t264 t265 (wrap64 ((wrap64 ((ji5) - a0_2)) - 1))).bind fun t279 => (if t279 = 1 then (if (wrap64 ((ji5) - a0_2)) > 1 then (spec_l03Multiple.j0 k ji5 true bt274.1 bt274.2) else ((spec_l02Bit.f bt274.1 bt274.2 0).bind fun t280 => (spec_l03Multiple.j0 k ji5 (t280 == 1) bt274.1 bt274.2))) else (spec_l03Multiple.j0 k ji5 false bt274.1 bt274.2))) else (if a1 = 1 then (spec_l03Multiple.j0 k ji5 (decide (a0_0 < 0)) bt274.1 bt274.2) else (if a1 = 2 then (spec_l03Multiple.j0 k ji5 (decide (a0_0 > 0)) bt274.1 bt274.2) else (if a1 = 4 then (spec_l03Multiple.j0 k ji5 true bt274.1 bt274.2) else (spec_l03Multiple.j0 k ji5 false bt274.1 bt274.2))))))) = some (r1, r2, r3, r4) := by first | (rw [hji5] at H; exact H) | (simp only [hji5] at H ⊢; exact H)
  (try rw [hji5] at A3)
  (try rw [hji5] at A4)
  have hji5_ : (if (wrap64 ((wrap64 (t269 + a0_2)) - 24)) < (-149) then (-149) else (wrap64 ((wrap64 (t269 + a0_2)) - 24))) = ji5 := hji5
  by_cases c6 : (wrap64 ((ji5) - a0_2)) ≤ 0
  · rw [if_pos c6] at H
    have c6b0 : decide ((wrap64 ((ji5) - a0_2)) ≤ 0) = true := decide_eq_true c6
    clear c6
    replace H := Option.bind_eq_some_iff.mp H
    obtain ⟨⟨t270, t271⟩, A70, H⟩ := H
    replace H : (some (t270, t271, ji5, true)) = some (r1, r2, r3, r4) := H
    have A7 := Aside0.mk A70
    clear A70
    simp only [Option.some.injEq, Prod.mk.injEq] at H
    obtain ⟨rfl, rfl, rfl, rfl⟩ := H
    go_enter Try.func56, Try.ntmps56
    try go_wp2_with (first | ((with_reducible refine gate_dst (N := 2) rfl ?_); refine box_event ?hg (N := 2) ?hd (cs := #[.int .i64 a0_0, .slice A0_1 l0_1.length c0_1, .int .i64 a0_2]) (t := 33) ?hr ?_; (case hd => rfl); (case hg => rfl); (case hr => first | (go_simp; done) | (go_simp; rfl)); intro gb262 hg w8 hbox hb; have n0_ := Aside0.mk (below_step (by repeat (first | (with_reducible first | exact HB.out | apply below_alloc | apply pw_below_drewN | apply below_drew1) | exact HB.out)) hb); have n1_ := Aside0.mk (hbox); have n2_ := Aside0.mk ((by rw [hg]; exact (below_size (by repeat (first | (with_reducible first | exact HB.out | apply below_alloc | apply pw_below_drewN | apply below_drew1) | exact HB.out))) : w.heap.size ≤ gb262)); have n3_ := Aside0.mk ((by rw [hg]; exact (below_size (by repeat (first | (with_reducible first | exact HB.out | apply below_alloc | apply pw_below_drewN | apply below_drew1) | exact HB.out))) : w.heap.size ≤ gb262)); clear HB; have HB := n0_; have BK262 := n1_; have GW262 := n2_; have GE262 := n3_; clear n0_ n1_ n2_ n3_; clear hb hbox hg) | ((with_reducible refine gate_dst (N := 4) rfl ?_); refine box_event ?hg (N := 4) ?hd (cs := #[.int .i64 0, .slice none 0 0]) (t := 31) ?hr ?_; (case hd => rfl); (case hg => rfl); (case hr => first | (go_simp; done) | (go_simp; rfl)); intro gb263 hg w9 hbox hb; have n0_ := Aside0.mk (blk_below (g := gb262) (o := .cells #[.int .i64 a0_0, .slice A0_1 l0_1.length c0_1, .int .i64 a0_2] 33 (0, 0)) (by (with_reducible repeat (first | refine blk_drewN ?_ _ | refine blk_drew ?_ | refine blk_alloc ?_ _)); exact BK262.out) hb); have n1_ := Aside0.mk (below_step (by repeat (first | (with_reducible first | exact HB.out | apply below_alloc | apply pw_below_drewN | apply below_drew1 | refine below_set ?_ GE262.out) | exact HB.out)) hb); have n2_ := Aside0.mk (hbox); have n3_ := Aside0.mk ((by rw [hg]; exact (below_size (by repeat (first | (with_reducible first | exact HB.out | apply below_alloc | apply pw_below_drewN | apply below_drew1 | refine below_set ?_ GE262.out) | exact HB.out))) : w.heap.size ≤ gb263)); have n4_ := Aside0.mk ((by rw [hg]; exact (below_size (by repeat (first | (with_reducible first | exact HB.out | apply below_alloc | apply pw_below_drewN | apply below_drew1 | refine below_set ?_ GE262.out) | exact HB.out))) : w.heap.size ≤ gb263)); have n5_ := Aside0.mk ((by rw [hg]; exact Nat.ne_of_lt (blk_lt (g := gb262) (o := .cells #[.int .i64 a0_0, .slice A0_1 l0_1.length c0_1, .int .i64 a0_2] 33 (0, 0)) (by (with_reducible repeat (first | refine blk_drewN ?_ _ | refine blk_drew ?_ | refine blk_alloc ?_ _)); exact BK262.out)) : gb262 ≠ gb263)); have n6_ := Aside0.mk ((by rw [hg]; exact Nat.ne_of_gt (blk_lt (g := gb262) (o := .cells #[.int .i64 a0_0, .slice A0_1 l0_1.length c0_1, .int .i64 a0_2] 33 (0, 0)) (by (with_reducible repeat (first | refine blk_drewN ?_ _ | refine blk_drew ?_ | refine blk_alloc ?_ _)); exact BK262.out)) : gb263 ≠ gb262)); clear BK262; clear HB; have BK262 := n0_; have HB := n1_; have BK263 := n2_; have GW263 := n3_; have GE263 := n4_; have NB262_263 := n5_; have NB263_262 := n6_; clear n0_ n1_ n2_ n3_ n4_ n5_ n6_; clear hb hbox hg; have hnb10 := NB262_263.out; have hnc10 := NB263_262.out; have hcz11_0 : w9.cell? ⟨gb262, 0, none⟩ = some (.int .i64 a0_0) := (blk_cell BK262.out 0).trans rfl; have hcz11_1 : w9.cell? ⟨gb262, 1, none⟩ = some (.slice A0_1 l0_1.length c0_1) := (blk_cell BK262.out 1).trans rfl; have hcz11_2 : w9.cell? ⟨gb262, 2, none⟩ = some (.int .i64 a0_2) := (blk_cell BK262.out 2).trans rfl; have hfz11_0 := blk_frozen BK262.out 0; have hfz11_1 := blk_frozen BK262.out 1; have hfz11_2 := blk_frozen BK262.out 2) | ((with_reducible refine gate_callee (f := 101) rfl ?_); refine goesL_ (some 14) rfl rfl Try.func101 (by kernel_rfl) rfl #[.agg #[.int .i64 a0_0, .slice A0_1 l0_1.length c0_1]] rfl (by (try simp only [List.map_toArray, List.map_cons, List.map_nil]); first | done | rfl | (simp only [List.length_drop, List.length_take]; rfl)) ?_; (with_reducible refine (spec_l02Abs.calls k a0_0 _ _ l0_1 t264 t265 _ ?side1 ?side2 A3.out).mono ?_); (case side1 => repeat (first | exact (Kd.C_below HR0_1.out HB.out) | (with_reducible refine Kd.C_alloc ?_ _) | (with_reducible refine Kd.C_drewN ?_ _) | (with_reducible refine Kd.C_drew ?_))); (case side2 => exact HC0_1.out); rintro e w12 ⟨v266, rfl, ho0, hb⟩; refine ⟨_, rfl, ?_⟩; have n0_ := Aside0.mk (Kd.R_lower ho0 (below_size (by repeat (first | (with_reducible first | exact HB.out | apply below_alloc | apply pw_below_drewN | apply below_drew1 | refine below_set ?_ GE262.out | refine below_set ?_ GE263.out) | exact HB.out)))); have n1_ := Aside0.mk (blk_below (g := gb262) (o := .cells #[.int .i64 a0_0, .slice A0_1 l0_1.length c0_1, .int .i64 a0_2] 33 (0, 0)) (by (with_reducible repeat (first | refine blk_drewN ?_ _ | refine blk_drew ?_ | refine blk_alloc ?_ _)); exact BK262.out) hb); have n2_ := Aside0.mk (blk_below (g := gb263) (o := .cells #[.int .i64 0, .slice none 0 0] 31 (0, 0)) (by (with_reducible repeat (first | refine blk_drewN ?_ _ | refine blk_drew ?_ | refine blk_alloc ?_ _)); exact BK263.out) hb); have n3_ := Aside0.mk (below_step (by repeat (first | (with_reducible first | exact HB.out | apply below_alloc | apply pw_below_drewN | apply below_drew1 | refine below_set ?_ GE262.out | refine below_set ?_ GE263.out) | exact HB.out)) hb); clear BK262; clear BK263; clear HB; have HO267 := n0_; have BK262 := n1_; have BK263 := n2_; have HB := n3_; clear n0_ n1_ n2_ n3_; (try clear hb); (try clear hb2); (try clear hk); (try clear hi); (try clear ho0)) | ((with_reducible refine gate_dst (N := 7) rfl ?_); refine box_event ?hg (N := 7) ?hd (cs := #[.int .i64 0, .slice none 0 0]) (t := 31) ?hr ?_; (case hd => rfl); (case hg => rfl); (case hr => first | (go_simp; done) | (go_simp; rfl)); intro gb268 hg w13 hbox hb; have n0_ := Aside0.mk (Kd.R_below (by (with_reducible repeat (first | apply Kd.R_alloc | apply Kd.R_drewN | apply Kd.R_drew)); exact HO267.out) hb); have n1_ := Aside0.mk (blk_below (g := gb262) (o := .cells #[.int .i64 a0_0, .slice A0_1 l0_1.length c0_1, .int .i64 a0_2] 33 (0, 0)) (by (with_reducible repeat (first | refine blk_drewN ?_ _ | refine blk_drew ?_ | refine blk_alloc ?_ _)); exact BK262.out) hb); have n2_ := Aside0.mk (blk_below (g := gb263) (o := .cells #[.int .i64 0, .slice none 0 0] 31 (0, 0)) (by (with_reducible repeat (first | refine blk_drewN ?_ _ | refine blk_drew ?_ | refine blk_alloc ?_ _)); exact BK263.out) hb); have n3_ := Aside0.mk (below_step (by repeat (first | (with_reducible first | exact HB.out | apply below_alloc | apply pw_below_drewN | apply below_drew1 | refine below_set ?_ GE262.out | refine below_set ?_ GE263.out) | exact HB.out)) hb); have n4_ := Aside0.mk (hbox); have n5_ := Aside0.mk ((by rw [hg]; exact (below_size (by repeat (first | (with_reducible first | exact HB.out | apply below_alloc | apply pw_below_drewN | apply below_drew1 | refine below_set ?_ GE262.out | refine below_set ?_ GE263.out) | exact HB.out))) : w.heap.size ≤ gb268)); have n6_ := Aside0.mk ((by rw [hg]; exact (below_size (by repeat (first | (with_reducible first | exact HB.out | apply below_alloc | apply pw_below_drewN | apply below_drew1 | refine below_set ?_ GE262.out | refine below_set ?_ GE263.out) | exact HB.out))) : w.heap.size ≤ gb268)); have n7_ := Aside0.mk ((by rw [hg]; exact Nat.ne_of_lt (blk_lt (g := gb262) (o := .cells #[.int .i64 a0_0, .slice A0_1 l0_1.length c0_1, .int .i64 a0_2] 33 (0, 0)) (by (with_reducible repeat (first | refine blk_drewN ?_ _ | refine blk_drew ?_ | refine blk_alloc ?_ _)); exact BK262.out)) : gb262 ≠ gb268)); have n8_ := Aside0.mk ((by rw [hg]; exact Nat.ne_of_gt (blk_lt (g := gb262) (o := .cells #[.int .i64 a0_0, .slice A0_1 l0_1.length c0_1, .int .i64 a0_2] 33 (0, 0)) (by (with_reducible repeat (first | refine blk_drewN ?_ _ | refine blk_drew ?_ | refine blk_alloc ?_ _)); exact BK262.out)) : gb268 ≠ gb262)); have n9_ := Aside0.mk ((by rw [hg]; exact Nat.ne_of_lt (blk_lt (g := gb263) (o := .cells #[.int .i64 0, .slice none 0 0] 31 (0, 0)) (by (with_reducible repeat (first | refine blk_drewN ?_ _ | refine blk_drew ?_ | refine blk_alloc ?_ _)); exact BK263.out)) : gb263 ≠ gb268)); have n10_ := Aside0.mk ((by rw [hg]; exact Nat.ne_of_gt (blk_lt (g := gb263) (o := .cells #[.int .i64 0, .slice none 0 0] 31 (0, 0)) (by (with_reducible repeat (first | refine blk_drewN ?_ _ | refine blk_drew ?_ | refine blk_alloc ?_ _)); exact BK263.out)) : gb268 ≠ gb263)); clear HO267; clear BK262; clear BK263; clear HB; have HO267 := n0_; have BK262 := n1_; have BK263 := n2_; have HB := n3_; have BK268 := n4_; have GW268 := n5_; have GE268 := n6_; have NB262_268 := n7_; have NB268_262 := n8_; have NB263_268 := n9_; have NB268_263 := n10_; clear n0_ n1_ n2_ n3_ n4_ n5_ n6_ n7_ n8_ n9_ n10_; clear hb hbox hg; have hnb14 := NB268_262.out; have hnc14 := NB262_268.out; have hnb15 := NB268_263.out; have hnc15 := NB263_268.out; have hcz16_0 : w13.cell? ⟨gb268, 0, none⟩ = some (.int .i64 0) := (blk_cell BK268.out 0).trans rfl; have hcz16_1 : w13.cell? ⟨gb268, 1, none⟩ = some (.slice none 0 0) := (blk_cell BK268.out 1).trans rfl; have hfz16_0 := blk_frozen BK268.out 0; have hfz16_1 := blk_frozen BK268.out 1; obtain ⟨Ao17, co17, eo17⟩ := Kd.R_slice HO267.out; subst eo17))
    have n0_ : Aside0 (Kd.R (Kd.int .i64) 2 ((w13.setCell ⟨gb268, 0, none⟩ (.int .i64 t264)).setCell ⟨gb268, 1, none⟩ (.slice Ao17 t265.length co17)) w.heap.size (fun _ => True) (.slice Ao17 t265.length co17) t265) := ⟨by (with_reducible repeat (first | apply Kd.R_alloc | apply Kd.R_drewN | apply Kd.R_drew)); exact Kd.R_mono (Kd.R_far (p := ⟨gb268, 1, none⟩) (Kd.R_far (p := ⟨gb268, 0, none⟩) (Kd.R_types HO267.out BK268.out (by decide)) (fun _ hk => hk.2) (.int .i64 t264)) (fun _ hk => hk.2) (.slice Ao17 t265.length co17)) (fun _ hk => trivial)⟩
    have n1_ : Aside0 (((w13.setCell ⟨gb268, 0, none⟩ (.int .i64 t264)).setCell ⟨gb268, 1, none⟩ (.slice Ao17 t265.length co17)).heap[gb262]? = some (.cells #[.int .i64 a0_0, .slice A0_1 l0_1.length c0_1, .int .i64 a0_2] 33 (0, 0))) := ⟨by (with_reducible repeat (first | refine blk_drewN ?_ _ | refine blk_drew ?_ | refine blk_alloc ?_ _)); refine blk_far ?_ NB262_268.out _; (with_reducible repeat (first | refine blk_drewN ?_ _ | refine blk_drew ?_ | refine blk_alloc ?_ _)); refine blk_far ?_ NB262_268.out _; (with_reducible repeat (first | refine blk_drewN ?_ _ | refine blk_drew ?_ | refine blk_alloc ?_ _)); exact BK262.out⟩
    have n2_ : Aside0 (((w13.setCell ⟨gb268, 0, none⟩ (.int .i64 t264)).setCell ⟨gb268, 1, none⟩ (.slice Ao17 t265.length co17)).heap[gb263]? = some (.cells #[.int .i64 0, .slice none 0 0] 31 (0, 0))) := ⟨by (with_reducible repeat (first | refine blk_drewN ?_ _ | refine blk_drew ?_ | refine blk_alloc ?_ _)); refine blk_far ?_ NB263_268.out _; (with_reducible repeat (first | refine blk_drewN ?_ _ | refine blk_drew ?_ | refine blk_alloc ?_ _)); refine blk_far ?_ NB263_268.out _; (with_reducible repeat (first | refine blk_drewN ?_ _ | refine blk_drew ?_ | refine blk_alloc ?_ _)); exact BK263.out⟩
    have n3_ : Aside0 (((w13.setCell ⟨gb268, 0, none⟩ (.int .i64 t264)).setCell ⟨gb268, 1, none⟩ (.slice Ao17 t265.length co17)).heap[gb268]? = some (.cells #[.int .i64 t264, .slice Ao17 t265.length co17] 31 (0, 0))) := ⟨by (with_reducible repeat (first | refine blk_drewN ?_ _ | refine blk_drew ?_ | refine blk_alloc ?_ _)); refine blk_put (cs := #[.int .i64 t264, .slice none 0 0]) ?_ 1 _ rfl; (with_reducible repeat (first | refine blk_drewN ?_ _ | refine blk_drew ?_ | refine blk_alloc ?_ _)); refine blk_put (cs := #[.int .i64 0, .slice none 0 0]) ?_ 0 _ rfl; (with_reducible repeat (first | refine blk_drewN ?_ _ | refine blk_drew ?_ | refine blk_alloc ?_ _)); exact BK268.out⟩
    have n4_ : Aside0 (Below w.heap.size w ((w13.setCell ⟨gb268, 0, none⟩ (.int .i64 t264)).setCell ⟨gb268, 1, none⟩ (.slice Ao17 t265.length co17))) := ⟨by repeat (first | (with_reducible first | exact HB.out | apply below_alloc | apply pw_below_drewN | apply below_drew1 | refine below_set ?_ GE262.out | refine below_set ?_ GE263.out | refine below_set ?_ GE268.out) | exact HB.out)⟩
    (try clear HO267)
    (try clear BK262)
    (try clear BK263)
    (try clear BK268)
    (try clear HB)
    generalize ((w13.setCell ⟨gb268, 0, none⟩ (.int .i64 t264)).setCell ⟨gb268, 1, none⟩ (.slice Ao17 t265.length co17)) = w18 at n0_ n1_ n2_ n3_ n4_ ⊢
    have HO267 := n0_
    have BK262 := n1_
    have BK263 := n2_
    have BK268 := n3_
    have HB := n4_
    clear n0_ n1_ n2_ n3_ n4_
    have n0_ := Aside0.mk (Kd.R_drew HO267.out)
    have n1_ := Aside0.mk (blk_drew BK262.out)
    have n2_ := Aside0.mk (blk_drew BK263.out)
    have n3_ := Aside0.mk (blk_drew BK268.out)
    have n4_ := Aside0.mk (below_drew1 HB.out)
    clear HO267
    clear BK262
    clear BK263
    clear BK268
    clear HB
    have HO267 := n0_
    have BK262 := n1_
    have BK263 := n2_
    have BK268 := n3_
    have HB := n4_
    clear n0_ n1_ n2_ n3_ n4_
    refine start_ (n := 8) (S := fun w' => w'.cell? ⟨gb268, 0, none⟩ = some (.int .i64 t264) ∧ w'.cell? ⟨gb268, 1, none⟩ = some (.slice Ao17 t265.length co17) ∧ w'.cell? ⟨gb262, 0, none⟩ = some (.int .i64 a0_0) ∧ w'.cell? ⟨gb262, 1, none⟩ = some (.slice A0_1 l0_1.length c0_1) ∧ w'.cell? ⟨gb262, 2, none⟩ = some (.int .i64 a0_2)) (ds := []) #[false, false, false, false, false, false, false, false] (by kernel_rfl) rfl rfl ⟨(blk_cell BK268.out 0).trans rfl, (blk_cell BK268.out 1).trans rfl, (blk_cell BK262.out 0).trans rfl, (blk_cell BK262.out 1).trans rfl, (blk_cell BK262.out 2).trans rfl⟩ (fun hHeld => ?_); refine with_tabW spec_l03Multiple.tab2 spec_l03Multiple.bits2 (fun HT_ HW_ => ?_)
    generalize w18.drew = w19 at HO267 BK262 BK263 BK268 HB hHeld ⊢
    refine pure_ (i := 2) (N := some 17) (v := ?_) (a' := ?_) #[false, false, true, false, false, false, false, false] rfl rfl (any_of HT_.out (by kernel_rfl)) (fun _ _ _ h => h) (Or.inl ⟨by rfl, ?_⟩) ?_ ?_
    rotate_left
    · intro w'
      go_simp
      with_reducible rfl
    rotate_left
    · simp only [Act.put, List.setIfInBounds_toArray, List.set_cons_zero, List.set_cons_succ, i64_w, i32_w]
      rfl
    refine take_ (i := 0) (N := some 15) (v := ?_) (a' := ?_) #[true, false, true, false, false, false, false, false] rfl rfl (take_ofW HT_.out HW_.out (by kernel_rfl)) (fun _ _ _ h => h) (Or.inl ⟨by rfl, ?_⟩) hHeld ?_ ?_
    rotate_left
    · rintro w' ⟨s0, s1, s2, s3, s4⟩
      go_simp
      with_reducible rfl
    rotate_left
    · simp only [Act.put, List.setIfInBounds_toArray, List.set_cons_zero, List.set_cons_succ, i64_w, i32_w]
      rfl
    refine take_ (i := 3) (N := some 18) (v := ?_) (a' := ?_) #[true, false, true, true, false, false, false, false] rfl rfl (take_ofW HT_.out HW_.out (by kernel_rfl)) (fun _ _ _ h => h) (Or.inl ⟨by rfl, ?_⟩) hHeld ?_ ?_
    rotate_left
    · rintro w' ⟨s0, s1, s2, s3, s4⟩
      go_simp
      with_reducible rfl
    rotate_left
    · simp only [Act.put, List.setIfInBounds_toArray, List.set_cons_zero, List.set_cons_succ, i64_w, i32_w]
      rfl
    refine one_ (i := 1) (N := some 16) #[true, true, true, true, false, false, false, false] rfl rfl (one_of HT_.out (by kernel_rfl)) (by decide) (fun K hK => ?_)
    refine goes_ Try.func57 (by kernel_rfl) rfl #[.agg #[.int .i64 t264, .slice Ao17 t265.length co17]] (by rfl) rfl rfl (by (try simp only [List.map_toArray, List.map_cons, List.map_nil]); first | done | rfl | (simp only [List.length_drop, List.length_take]; rfl)) ?_
    with_reducible refine (spec_l02Length.calls k t264 _ _ t265 t269 _ ?side1 ?side2 A4.out).mono ?_
    (case side1 => repeat (first | exact (Kd.R_reads' HO267.out).2.2 | (with_reducible refine Kd.C_alloc ?_ _) | (with_reducible refine Kd.C_drewN ?_ _) | (with_reducible refine Kd.C_drew ?_)))
    (case side2 => exact (Kd.R_reads' HO267.out).2.1)
    rintro e w20 ⟨rfl, hb⟩
    refine ⟨_, rfl, ?_⟩
    have n0_ := Aside0.mk (Kd.R_below (by (with_reducible repeat (first | apply Kd.R_alloc | apply Kd.R_drewN | apply Kd.R_drew)); exact HO267.out) hb)
    have n1_ := Aside0.mk (blk_below (g := gb262) (o := .cells #[.int .i64 a0_0, .slice A0_1 l0_1.length c0_1, .int .i64 a0_2] 33 (0, 0)) (by (with_reducible repeat (first | refine blk_drewN ?_ _ | refine blk_drew ?_ | refine blk_alloc ?_ _)); exact BK262.out) hb)
    have n2_ := Aside0.mk (blk_below (g := gb263) (o := .cells #[.int .i64 0, .slice none 0 0] 31 (0, 0)) (by (with_reducible repeat (first | refine blk_drewN ?_ _ | refine blk_drew ?_ | refine blk_alloc ?_ _)); exact BK263.out) hb)
    have n3_ := Aside0.mk (blk_below (g := gb268) (o := .cells #[.int .i64 t264, .slice Ao17 t265.length co17] 31 (0, 0)) (by (with_reducible repeat (first | refine blk_drewN ?_ _ | refine blk_drew ?_ | refine blk_alloc ?_ _)); exact BK268.out) hb)
    have n4_ := Aside0.mk (below_step (by repeat (first | (with_reducible first | exact HB.out | apply below_alloc | apply pw_below_drewN | apply below_drew1 | refine below_set ?_ GE262.out | refine below_set ?_ GE263.out | refine below_set ?_ GE268.out) | exact HB.out)) hb)
    clear HO267
    clear BK262
    clear BK263
    clear BK268
    clear HB
    have HO267 := n0_
    have BK262 := n1_
    have BK263 := n2_
    have BK268 := n3_
    have HB := n4_
    clear n0_ n1_ n2_ n3_ n4_
    (try clear hb)
    (try clear hb2)
    (try clear hk)
    (try clear hi)
    refine hK.out _ _ ⟨(blk_cell BK268.out 0).trans rfl, (blk_cell BK268.out 1).trans rfl, (blk_cell BK262.out 0).trans rfl, (blk_cell BK262.out 1).trans rfl, (blk_cell BK262.out 2).trans rfl⟩ (fun hHeld => ?_)
    clear hK K
    refine norm_ (a' := ?_) ?_ ?_
    rotate_left
    · show Act.put _ (some 16) _ = _
      simp only [Act.put, List.setIfInBounds_toArray, List.set_cons_zero, List.set_cons_succ, i64_w, i32_w]
      rfl
    refine pure_ (i := 4) (N := some 19) (v := ?_) (a' := ?_) #[true, true, true, true, true, false, false, false] rfl rfl (any_of HT_.out (by kernel_rfl)) (fun _ _ _ h => h) (Or.inl ⟨by rfl, ?_⟩) ?_ ?_
    rotate_left
    · intro w'
      go_simp
      with_reducible rfl
    rotate_left
    · simp only [Act.put, List.setIfInBounds_toArray, List.set_cons_zero, List.set_cons_succ, i64_w, i32_w]
      rfl
    refine pure_ (i := 5) (N := some 20) (v := ?_) (a' := ?_) #[true, true, true, true, true, true, false, false] rfl rfl (any_of HT_.out (by kernel_rfl)) (fun _ _ _ h => h) (Or.inl ⟨by rfl, ?_⟩) ?_ ?_
    rotate_left
    · intro w'
      go_simp
      with_reducible rfl
    rotate_left
    · simp only [Act.put, List.setIfInBounds_toArray, List.set_cons_zero, List.set_cons_succ, i64_w, i32_w]
      rfl
    refine pure_ (i := 6) (N := some 21) (v := ?_) (a' := ?_) #[true, true, true, true, true, true, true, false] rfl rfl (any_of HT_.out (by kernel_rfl)) (fun _ _ _ h => h) (Or.inl ⟨by rfl, ?_⟩) ?_ ?_
    rotate_left
    · intro w'
      go_simp
      with_reducible rfl
    rotate_left
    · simp only [Act.put, List.setIfInBounds_toArray, List.set_cons_zero, List.set_cons_succ, i64_w, i32_w]
      rfl
    refine pure_ (i := 7) (N := some 8) (v := ?_) (a' := ?_) #[true, true, true, true, true, true, true, true] rfl rfl (any_of HT_.out (by kernel_rfl)) (fun _ _ _ h => h) (Or.inl ⟨by rfl, ?_⟩) ?_ ?_
    rotate_left
    · intro w'
      go_simp
      with_reducible rfl
    rotate_left
    · simp only [Act.put, List.setIfInBounds_toArray, List.set_cons_zero, List.set_cons_succ, i64_w, i32_w]
      rfl
    refine done_ (done_of HT_.out (by kernel_rfl)) ?_
    have hcz21_0 : w20.cell? ⟨gb262, 0, none⟩ = some (.int .i64 a0_0) := (blk_cell BK262.out 0).trans rfl
    have hcz21_1 : w20.cell? ⟨gb262, 1, none⟩ = some (.slice A0_1 l0_1.length c0_1) := (blk_cell BK262.out 1).trans rfl
    have hcz21_2 : w20.cell? ⟨gb262, 2, none⟩ = some (.int .i64 a0_2) := (blk_cell BK262.out 2).trans rfl
    have hfz21_0 := blk_frozen BK262.out 0
    have hfz21_1 := blk_frozen BK262.out 1
    have hfz21_2 := blk_frozen BK262.out 2
    have hcz22_0 : w20.cell? ⟨gb268, 0, none⟩ = some (.int .i64 t264) := (blk_cell BK268.out 0).trans rfl
    have hcz22_1 : w20.cell? ⟨gb268, 1, none⟩ = some (.slice Ao17 t265.length co17) := (blk_cell BK268.out 1).trans rfl
    have hfz22_0 := blk_frozen BK268.out 0
    have hfz22_1 := blk_frozen BK268.out 1
    try go_wp2_with (first | ((with_reducible refine gate_callee (f := 102) rfl ?_); refine goesL_ (some 31) rfl rfl Try.func102 (by kernel_rfl) rfl #[.agg #[.int .i64 t264, .slice Ao17 t265.length co17], .int .i64 (wrap64 (-(wrap64 ((ji5) - a0_2))))] rfl (by (try simp only [List.map_toArray, List.map_cons, List.map_nil]); first | done | (simp only [hji5]; rfl) | rfl | (simp only [List.length_drop, List.length_take]; rfl)) ?_; (with_reducible refine (spec_l02Left.calls k t264 _ _ t265 (wrap64 (-(wrap64 ((ji5) - a0_2)))) t270 t271 _ ?side1 ?side2 A7.out).mono ?_); (case side1 => repeat (first | exact (Kd.R_reads' HO267.out).2.2 | (with_reducible refine Kd.C_alloc ?_ _) | (with_reducible refine Kd.C_drewN ?_ _) | (with_reducible refine Kd.C_drew ?_))); (case side2 => exact (Kd.R_reads' HO267.out).2.1); rintro e w23 ⟨v272, rfl, ho0, hb⟩; refine ⟨_, rfl, ?_⟩; have n0_ := Aside0.mk (Kd.R_elder' (by (with_reducible repeat (first | apply Kd.R_alloc | apply Kd.R_drewN | apply Kd.R_drew)); exact HO267.out) (Kd.R_base ho0) hb); have n1_ := Aside0.mk (Kd.R_lower (Kd.R_new' ho0 (Kd.R_lt (by (with_reducible repeat (first | apply Kd.R_alloc | apply Kd.R_drewN | apply Kd.R_drew)); exact HO267.out))) (below_size (by repeat (first | (with_reducible first | exact HB.out | apply below_alloc | apply pw_below_drewN | apply below_drew1 | refine below_set ?_ GE262.out | refine below_set ?_ GE263.out | refine below_set ?_ GE268.out) | exact HB.out)))); have n2_ := Aside0.mk (blk_below (g := gb262) (o := .cells #[.int .i64 a0_0, .slice A0_1 l0_1.length c0_1, .int .i64 a0_2] 33 (0, 0)) (by (with_reducible repeat (first | refine blk_drewN ?_ _ | refine blk_drew ?_ | refine blk_alloc ?_ _)); exact BK262.out) hb); have n3_ := Aside0.mk (blk_below (g := gb263) (o := .cells #[.int .i64 0, .slice none 0 0] 31 (0, 0)) (by (with_reducible repeat (first | refine blk_drewN ?_ _ | refine blk_drew ?_ | refine blk_alloc ?_ _)); exact BK263.out) hb); have n4_ := Aside0.mk (blk_below (g := gb268) (o := .cells #[.int .i64 t264, .slice Ao17 t265.length co17] 31 (0, 0)) (by (with_reducible repeat (first | refine blk_drewN ?_ _ | refine blk_drew ?_ | refine blk_alloc ?_ _)); exact BK268.out) hb); have n5_ := Aside0.mk (below_step (by repeat (first | (with_reducible first | exact HB.out | apply below_alloc | apply pw_below_drewN | apply below_drew1 | refine below_set ?_ GE262.out | refine below_set ?_ GE263.out | refine below_set ?_ GE268.out) | exact HB.out)) hb); clear HO267; clear BK262; clear BK263; clear BK268; clear HB; have HO267 := n0_; have HO273 := n1_; have BK262 := n2_; have BK263 := n3_; have BK268 := n4_; have HB := n5_; clear n0_ n1_ n2_ n3_ n4_ n5_; (try clear hb); (try clear hb2); (try clear hk); (try clear hi); (try clear ho0); have hcz24_0 : w23.cell? ⟨gb263, 0, none⟩ = some (.int .i64 0) := (blk_cell BK263.out 0).trans rfl; have hcz24_1 : w23.cell? ⟨gb263, 1, none⟩ = some (.slice none 0 0) := (blk_cell BK263.out 1).trans rfl; have hfz24_0 := blk_frozen BK263.out 0; have hfz24_1 := blk_frozen BK263.out 1; obtain ⟨Ao25, co25, eo25⟩ := Kd.R_slice HO273.out; subst eo25))
    refine bodyPost_ret (results_ctt rfl _ _ gb263 31 #[.int .i64 t270, .slice Ao25 t271.length co25] (0, 0) _ rfl (by (with_reducible repeat (first | refine blk_drewN ?_ _ | refine blk_drew ?_ | refine blk_alloc ?_ _)); refine blk_put (cs := #[.int .i64 t270, .slice none 0 0]) ?_ 1 _ rfl; (with_reducible repeat (first | refine blk_drewN ?_ _ | refine blk_drew ?_ | refine blk_alloc ?_ _)); refine blk_put (cs := #[.int .i64 0, .slice none 0 0]) ?_ 0 _ rfl; (with_reducible repeat (first | refine blk_drewN ?_ _ | refine blk_drew ?_ | refine blk_alloc ?_ _)); exact BK263.out) Try.underlying31 rfl (by kernel_rfl)) rfl ?_
    exact ⟨_, by first | rfl | (simp [errW_none, errW_some] <;> rfl) | (simp only [← hji5]; first | rfl | (simp [errW_none, errW_some] <;> rfl)) | (simp [*, errW_none, errW_some] <;> rfl), by (with_reducible repeat (first | apply Kd.R_alloc | apply Kd.R_drewN | apply Kd.R_drew)); exact Kd.R_mono (Kd.R_far (p := ⟨gb263, 1, none⟩) (Kd.R_far (p := ⟨gb263, 0, none⟩) (Kd.R_types HO273.out BK263.out (by decide)) (fun _ hk => hk.2) (.int .i64 t270)) (fun _ hk => hk.2) (.slice Ao25 t271.length co25)) (fun _ hk => trivial), by repeat (first | (with_reducible first | exact HB.out | apply below_alloc | apply pw_below_drewN | apply below_drew1 | refine below_set ?_ GE262.out | refine below_set ?_ GE263.out | refine below_set ?_ GE268.out) | exact HB.out)⟩
  · rw [if_neg c6] at H
    have c6b0 : decide ((wrap64 ((ji5) - a0_2)) ≤ 0) = false := decide_eq_false c6
    clear c6
    replace H := Option.bind_eq_some_iff.mp H
    obtain ⟨⟨t274, t275⟩, A260, H⟩ := H
    replace H : (if a1 = 0 then ((spec_l02Bit.f t264 t265 (wrap64 ((wrap64 ((ji5) - a0_2)) - 1))).bind fun t279 => (if t279 = 1 then (if (wrap64 ((ji5) - a0_2)) > 1 then (spec_l03Multiple.j0 k ji5 true t274 t275) else ((spec_l02Bit.f t274 t275 0).bind fun t280 => (spec_l03Multiple.j0 k ji5 (t280 == 1) t274 t275))) else (spec_l03Multiple.j0 k ji5 false t274 t275))) else (if a1 = 1 then (spec_l03Multiple.j0 k ji5 (decide (a0_0 < 0)) t274 t275) else (if a1 = 2 then (spec_l03Multiple.j0 k ji5 (decide (a0_0 > 0)) t274 t275) else (if a1 = 4 then (spec_l03Multiple.j0 k ji5 true t274 t275) else (spec_l03Multiple.j0 k ji5 false t274 t275))))) = some (r1, r2, r3, r4) := H
    have A26 := Aside0.mk A260
    clear A260
    have HC27 := Aside0.mk H
    clear H
    go_enter Try.func56, Try.ntmps56
    try go_wp2_with (first | ((with_reducible refine gate_dst (N := 2) rfl ?_); refine box_event ?hg (N := 2) ?hd (cs := #[.int .i64 a0_0, .slice A0_1 l0_1.length c0_1, .int .i64 a0_2]) (t := 33) ?hr ?_; (case hd => rfl); (case hg => rfl); (case hr => first | (go_simp; done) | (go_simp; rfl)); intro gb262 hg w28 hbox hb; have n0_ := Aside0.mk (below_step (by repeat (first | (with_reducible first | exact HB.out | apply below_alloc | apply pw_below_drewN | apply below_drew1) | exact HB.out)) hb); have n1_ := Aside0.mk (hbox); have n2_ := Aside0.mk ((by rw [hg]; exact (below_size (by repeat (first | (with_reducible first | exact HB.out | apply below_alloc | apply pw_below_drewN | apply below_drew1) | exact HB.out))) : w.heap.size ≤ gb262)); have n3_ := Aside0.mk ((by rw [hg]; exact (below_size (by repeat (first | (with_reducible first | exact HB.out | apply below_alloc | apply pw_below_drewN | apply below_drew1) | exact HB.out))) : w.heap.size ≤ gb262)); clear HB; have HB := n0_; have BK262 := n1_; have GW262 := n2_; have GE262 := n3_; clear n0_ n1_ n2_ n3_; clear hb hbox hg) | ((with_reducible refine gate_dst (N := 4) rfl ?_); refine box_event ?hg (N := 4) ?hd (cs := #[.int .i64 0, .slice none 0 0]) (t := 31) ?hr ?_; (case hd => rfl); (case hg => rfl); (case hr => first | (go_simp; done) | (go_simp; rfl)); intro gb263 hg w29 hbox hb; have n0_ := Aside0.mk (blk_below (g := gb262) (o := .cells #[.int .i64 a0_0, .slice A0_1 l0_1.length c0_1, .int .i64 a0_2] 33 (0, 0)) (by (with_reducible repeat (first | refine blk_drewN ?_ _ | refine blk_drew ?_ | refine blk_alloc ?_ _)); exact BK262.out) hb); have n1_ := Aside0.mk (below_step (by repeat (first | (with_reducible first | exact HB.out | apply below_alloc | apply pw_below_drewN | apply below_drew1 | refine below_set ?_ GE262.out) | exact HB.out)) hb); have n2_ := Aside0.mk (hbox); have n3_ := Aside0.mk ((by rw [hg]; exact (below_size (by repeat (first | (with_reducible first | exact HB.out | apply below_alloc | apply pw_below_drewN | apply below_drew1 | refine below_set ?_ GE262.out) | exact HB.out))) : w.heap.size ≤ gb263)); have n4_ := Aside0.mk ((by rw [hg]; exact (below_size (by repeat (first | (with_reducible first | exact HB.out | apply below_alloc | apply pw_below_drewN | apply below_drew1 | refine below_set ?_ GE262.out) | exact HB.out))) : w.heap.size ≤ gb263)); have n5_ := Aside0.mk ((by rw [hg]; exact Nat.ne_of_lt (blk_lt (g := gb262) (o := .cells #[.int .i64 a0_0, .slice A0_1 l0_1.length c0_1, .int .i64 a0_2] 33 (0, 0)) (by (with_reducible repeat (first | refine blk_drewN ?_ _ | refine blk_drew ?_ | refine blk_alloc ?_ _)); exact BK262.out)) : gb262 ≠ gb263)); have n6_ := Aside0.mk ((by rw [hg]; exact Nat.ne_of_gt (blk_lt (g := gb262) (o := .cells #[.int .i64 a0_0, .slice A0_1 l0_1.length c0_1, .int .i64 a0_2] 33 (0, 0)) (by (with_reducible repeat (first | refine blk_drewN ?_ _ | refine blk_drew ?_ | refine blk_alloc ?_ _)); exact BK262.out)) : gb263 ≠ gb262)); clear BK262; clear HB; have BK262 := n0_; have HB := n1_; have BK263 := n2_; have GW263 := n3_; have GE263 := n4_; have NB262_263 := n5_; have NB263_262 := n6_; clear n0_ n1_ n2_ n3_ n4_ n5_ n6_; clear hb hbox hg; have hnb30 := NB262_263.out; have hnc30 := NB263_262.out; have hcz31_0 : w29.cell? ⟨gb262, 0, none⟩ = some (.int .i64 a0_0) := (blk_cell BK262.out 0).trans rfl; have hcz31_1 : w29.cell? ⟨gb262, 1, none⟩ = some (.slice A0_1 l0_1.length c0_1) := (blk_cell BK262.out 1).trans rfl; have hcz31_2 : w29.cell? ⟨gb262, 2, none⟩ = some (.int .i64 a0_2) := (blk_cell BK262.out 2).trans rfl; have hfz31_0 := blk_frozen BK262.out 0; have hfz31_1 := blk_frozen BK262.out 1; have hfz31_2 := blk_frozen BK262.out 2) | ((with_reducible refine gate_callee (f := 101) rfl ?_); refine goesL_ (some 14) rfl rfl Try.func101 (by kernel_rfl) rfl #[.agg #[.int .i64 a0_0, .slice A0_1 l0_1.length c0_1]] rfl (by (try simp only [List.map_toArray, List.map_cons, List.map_nil]); first | done | rfl | (simp only [List.length_drop, List.length_take]; rfl)) ?_; (with_reducible refine (spec_l02Abs.calls k a0_0 _ _ l0_1 t264 t265 _ ?side1 ?side2 A3.out).mono ?_); (case side1 => repeat (first | exact (Kd.C_below HR0_1.out HB.out) | (with_reducible refine Kd.C_alloc ?_ _) | (with_reducible refine Kd.C_drewN ?_ _) | (with_reducible refine Kd.C_drew ?_))); (case side2 => exact HC0_1.out); rintro e w32 ⟨v266, rfl, ho0, hb⟩; refine ⟨_, rfl, ?_⟩; have n0_ := Aside0.mk (Kd.R_lower ho0 (below_size (by repeat (first | (with_reducible first | exact HB.out | apply below_alloc | apply pw_below_drewN | apply below_drew1 | refine below_set ?_ GE262.out | refine below_set ?_ GE263.out) | exact HB.out)))); have n1_ := Aside0.mk (blk_below (g := gb262) (o := .cells #[.int .i64 a0_0, .slice A0_1 l0_1.length c0_1, .int .i64 a0_2] 33 (0, 0)) (by (with_reducible repeat (first | refine blk_drewN ?_ _ | refine blk_drew ?_ | refine blk_alloc ?_ _)); exact BK262.out) hb); have n2_ := Aside0.mk (blk_below (g := gb263) (o := .cells #[.int .i64 0, .slice none 0 0] 31 (0, 0)) (by (with_reducible repeat (first | refine blk_drewN ?_ _ | refine blk_drew ?_ | refine blk_alloc ?_ _)); exact BK263.out) hb); have n3_ := Aside0.mk (below_step (by repeat (first | (with_reducible first | exact HB.out | apply below_alloc | apply pw_below_drewN | apply below_drew1 | refine below_set ?_ GE262.out | refine below_set ?_ GE263.out) | exact HB.out)) hb); clear BK262; clear BK263; clear HB; have HO267 := n0_; have BK262 := n1_; have BK263 := n2_; have HB := n3_; clear n0_ n1_ n2_ n3_; (try clear hb); (try clear hb2); (try clear hk); (try clear hi); (try clear ho0)) | ((with_reducible refine gate_dst (N := 7) rfl ?_); refine box_event ?hg (N := 7) ?hd (cs := #[.int .i64 0, .slice none 0 0]) (t := 31) ?hr ?_; (case hd => rfl); (case hg => rfl); (case hr => first | (go_simp; done) | (go_simp; rfl)); intro gb268 hg w33 hbox hb; have n0_ := Aside0.mk (Kd.R_below (by (with_reducible repeat (first | apply Kd.R_alloc | apply Kd.R_drewN | apply Kd.R_drew)); exact HO267.out) hb); have n1_ := Aside0.mk (blk_below (g := gb262) (o := .cells #[.int .i64 a0_0, .slice A0_1 l0_1.length c0_1, .int .i64 a0_2] 33 (0, 0)) (by (with_reducible repeat (first | refine blk_drewN ?_ _ | refine blk_drew ?_ | refine blk_alloc ?_ _)); exact BK262.out) hb); have n2_ := Aside0.mk (blk_below (g := gb263) (o := .cells #[.int .i64 0, .slice none 0 0] 31 (0, 0)) (by (with_reducible repeat (first | refine blk_drewN ?_ _ | refine blk_drew ?_ | refine blk_alloc ?_ _)); exact BK263.out) hb); have n3_ := Aside0.mk (below_step (by repeat (first | (with_reducible first | exact HB.out | apply below_alloc | apply pw_below_drewN | apply below_drew1 | refine below_set ?_ GE262.out | refine below_set ?_ GE263.out) | exact HB.out)) hb); have n4_ := Aside0.mk (hbox); have n5_ := Aside0.mk ((by rw [hg]; exact (below_size (by repeat (first | (with_reducible first | exact HB.out | apply below_alloc | apply pw_below_drewN | apply below_drew1 | refine below_set ?_ GE262.out | refine below_set ?_ GE263.out) | exact HB.out))) : w.heap.size ≤ gb268)); have n6_ := Aside0.mk ((by rw [hg]; exact (below_size (by repeat (first | (with_reducible first | exact HB.out | apply below_alloc | apply pw_below_drewN | apply below_drew1 | refine below_set ?_ GE262.out | refine below_set ?_ GE263.out) | exact HB.out))) : w.heap.size ≤ gb268)); have n7_ := Aside0.mk ((by rw [hg]; exact Nat.ne_of_lt (blk_lt (g := gb262) (o := .cells #[.int .i64 a0_0, .slice A0_1 l0_1.length c0_1, .int .i64 a0_2] 33 (0, 0)) (by (with_reducible repeat (first | refine blk_drewN ?_ _ | refine blk_drew ?_ | refine blk_alloc ?_ _)); exact BK262.out)) : gb262 ≠ gb268)); have n8_ := Aside0.mk ((by rw [hg]; exact Nat.ne_of_gt (blk_lt (g := gb262) (o := .cells #[.int .i64 a0_0, .slice A0_1 l0_1.length c0_1, .int .i64 a0_2] 33 (0, 0)) (by (with_reducible repeat (first | refine blk_drewN ?_ _ | refine blk_drew ?_ | refine blk_alloc ?_ _)); exact BK262.out)) : gb268 ≠ gb262)); have n9_ := Aside0.mk ((by rw [hg]; exact Nat.ne_of_lt (blk_lt (g := gb263) (o := .cells #[.int .i64 0, .slice none 0 0] 31 (0, 0)) (by (with_reducible repeat (first | refine blk_drewN ?_ _ | refine blk_drew ?_ | refine blk_alloc ?_ _)); exact BK263.out)) : gb263 ≠ gb268)); have n10_ := Aside0.mk ((by rw [hg]; exact Nat.ne_of_gt (blk_lt (g := gb263) (o := .cells #[.int .i64 0, .slice none 0 0] 31 (0, 0)) (by (with_reducible repeat (first | refine blk_drewN ?_ _ | refine blk_drew ?_ | refine blk_alloc ?_ _)); exact BK263.out)) : gb268 ≠ gb263)); clear HO267; clear BK262; clear BK263; clear HB; have HO267 := n0_; have BK262 := n1_; have BK263 := n2_; have HB := n3_; have BK268 := n4_; have GW268 := n5_; have GE268 := n6_; have NB262_268 := n7_; have NB268_262 := n8_; have NB263_268 := n9_; have NB268_263 := n10_; clear n0_ n1_ n2_ n3_ n4_ n5_ n6_ n7_ n8_ n9_ n10_; clear hb hbox hg; have hnb34 := NB268_262.out; have hnc34 := NB262_268.out; have hnb35 := NB268_263.out; have hnc35 := NB263_268.out; have hcz36_0 : w33.cell? ⟨gb268, 0, none⟩ = some (.int .i64 0) := (blk_cell BK268.out 0).trans rfl; have hcz36_1 : w33.cell? ⟨gb268, 1, none⟩ = some (.slice none 0 0) := (blk_cell BK268.out 1).trans rfl; have hfz36_0 := blk_frozen BK268.out 0; have hfz36_1 := blk_frozen BK268.out 1; obtain ⟨Ao37, co37, eo37⟩ := Kd.R_slice HO267.out; subst eo37))
    have n0_ : Aside0 (Kd.R (Kd.int .i64) 2 ((w33.setCell ⟨gb268, 0, none⟩ (.int .i64 t264)).setCell ⟨gb268, 1, none⟩ (.slice Ao37 t265.length co37)) w.heap.size (fun _ => True) (.slice Ao37 t265.length co37) t265) := ⟨by (with_reducible repeat (first | apply Kd.R_alloc | apply Kd.R_drewN | apply Kd.R_drew)); exact Kd.R_mono (Kd.R_far (p := ⟨gb268, 1, none⟩) (Kd.R_far (p := ⟨gb268, 0, none⟩) (Kd.R_types HO267.out BK268.out (by decide)) (fun _ hk => hk.2) (.int .i64 t264)) (fun _ hk => hk.2) (.slice Ao37 t265.length co37)) (fun _ hk => trivial)⟩
    have n1_ : Aside0 (((w33.setCell ⟨gb268, 0, none⟩ (.int .i64 t264)).setCell ⟨gb268, 1, none⟩ (.slice Ao37 t265.length co37)).heap[gb262]? = some (.cells #[.int .i64 a0_0, .slice A0_1 l0_1.length c0_1, .int .i64 a0_2] 33 (0, 0))) := ⟨by (with_reducible repeat (first | refine blk_drewN ?_ _ | refine blk_drew ?_ | refine blk_alloc ?_ _)); refine blk_far ?_ NB262_268.out _; (with_reducible repeat (first | refine blk_drewN ?_ _ | refine blk_drew ?_ | refine blk_alloc ?_ _)); refine blk_far ?_ NB262_268.out _; (with_reducible repeat (first | refine blk_drewN ?_ _ | refine blk_drew ?_ | refine blk_alloc ?_ _)); exact BK262.out⟩
    have n2_ : Aside0 (((w33.setCell ⟨gb268, 0, none⟩ (.int .i64 t264)).setCell ⟨gb268, 1, none⟩ (.slice Ao37 t265.length co37)).heap[gb263]? = some (.cells #[.int .i64 0, .slice none 0 0] 31 (0, 0))) := ⟨by (with_reducible repeat (first | refine blk_drewN ?_ _ | refine blk_drew ?_ | refine blk_alloc ?_ _)); refine blk_far ?_ NB263_268.out _; (with_reducible repeat (first | refine blk_drewN ?_ _ | refine blk_drew ?_ | refine blk_alloc ?_ _)); refine blk_far ?_ NB263_268.out _; (with_reducible repeat (first | refine blk_drewN ?_ _ | refine blk_drew ?_ | refine blk_alloc ?_ _)); exact BK263.out⟩
    have n3_ : Aside0 (((w33.setCell ⟨gb268, 0, none⟩ (.int .i64 t264)).setCell ⟨gb268, 1, none⟩ (.slice Ao37 t265.length co37)).heap[gb268]? = some (.cells #[.int .i64 t264, .slice Ao37 t265.length co37] 31 (0, 0))) := ⟨by (with_reducible repeat (first | refine blk_drewN ?_ _ | refine blk_drew ?_ | refine blk_alloc ?_ _)); refine blk_put (cs := #[.int .i64 t264, .slice none 0 0]) ?_ 1 _ rfl; (with_reducible repeat (first | refine blk_drewN ?_ _ | refine blk_drew ?_ | refine blk_alloc ?_ _)); refine blk_put (cs := #[.int .i64 0, .slice none 0 0]) ?_ 0 _ rfl; (with_reducible repeat (first | refine blk_drewN ?_ _ | refine blk_drew ?_ | refine blk_alloc ?_ _)); exact BK268.out⟩
    have n4_ : Aside0 (Below w.heap.size w ((w33.setCell ⟨gb268, 0, none⟩ (.int .i64 t264)).setCell ⟨gb268, 1, none⟩ (.slice Ao37 t265.length co37))) := ⟨by repeat (first | (with_reducible first | exact HB.out | apply below_alloc | apply pw_below_drewN | apply below_drew1 | refine below_set ?_ GE262.out | refine below_set ?_ GE263.out | refine below_set ?_ GE268.out) | exact HB.out)⟩
    (try clear HO267)
    (try clear BK262)
    (try clear BK263)
    (try clear BK268)
    (try clear HB)
    generalize ((w33.setCell ⟨gb268, 0, none⟩ (.int .i64 t264)).setCell ⟨gb268, 1, none⟩ (.slice Ao37 t265.length co37)) = w38 at n0_ n1_ n2_ n3_ n4_ ⊢
    have HO267 := n0_
    have BK262 := n1_
    have BK263 := n2_
    have BK268 := n3_
    have HB := n4_
    clear n0_ n1_ n2_ n3_ n4_
    have n0_ := Aside0.mk (Kd.R_drew HO267.out)
    have n1_ := Aside0.mk (blk_drew BK262.out)
    have n2_ := Aside0.mk (blk_drew BK263.out)
    have n3_ := Aside0.mk (blk_drew BK268.out)
    have n4_ := Aside0.mk (below_drew1 HB.out)
    clear HO267
    clear BK262
    clear BK263
    clear BK268
    clear HB
    have HO267 := n0_
    have BK262 := n1_
    have BK263 := n2_
    have BK268 := n3_
    have HB := n4_
    clear n0_ n1_ n2_ n3_ n4_
    refine start_ (n := 8) (S := fun w' => w'.cell? ⟨gb268, 0, none⟩ = some (.int .i64 t264) ∧ w'.cell? ⟨gb268, 1, none⟩ = some (.slice Ao37 t265.length co37) ∧ w'.cell? ⟨gb262, 0, none⟩ = some (.int .i64 a0_0) ∧ w'.cell? ⟨gb262, 1, none⟩ = some (.slice A0_1 l0_1.length c0_1) ∧ w'.cell? ⟨gb262, 2, none⟩ = some (.int .i64 a0_2)) (ds := []) #[false, false, false, false, false, false, false, false] (by kernel_rfl) rfl rfl ⟨(blk_cell BK268.out 0).trans rfl, (blk_cell BK268.out 1).trans rfl, (blk_cell BK262.out 0).trans rfl, (blk_cell BK262.out 1).trans rfl, (blk_cell BK262.out 2).trans rfl⟩ (fun hHeld => ?_); refine with_tabW spec_l03Multiple.tab2 spec_l03Multiple.bits2 (fun HT_ HW_ => ?_)
    generalize w38.drew = w39 at HO267 BK262 BK263 BK268 HB hHeld ⊢
    refine pure_ (i := 2) (N := some 17) (v := ?_) (a' := ?_) #[false, false, true, false, false, false, false, false] rfl rfl (any_of HT_.out (by kernel_rfl)) (fun _ _ _ h => h) (Or.inl ⟨by rfl, ?_⟩) ?_ ?_
    rotate_left
    · intro w'
      go_simp
      with_reducible rfl
    rotate_left
    · simp only [Act.put, List.setIfInBounds_toArray, List.set_cons_zero, List.set_cons_succ, i64_w, i32_w]
      rfl
    refine take_ (i := 0) (N := some 15) (v := ?_) (a' := ?_) #[true, false, true, false, false, false, false, false] rfl rfl (take_ofW HT_.out HW_.out (by kernel_rfl)) (fun _ _ _ h => h) (Or.inl ⟨by rfl, ?_⟩) hHeld ?_ ?_
    rotate_left
    · rintro w' ⟨s0, s1, s2, s3, s4⟩
      go_simp
      with_reducible rfl
    rotate_left
    · simp only [Act.put, List.setIfInBounds_toArray, List.set_cons_zero, List.set_cons_succ, i64_w, i32_w]
      rfl
    refine take_ (i := 3) (N := some 18) (v := ?_) (a' := ?_) #[true, false, true, true, false, false, false, false] rfl rfl (take_ofW HT_.out HW_.out (by kernel_rfl)) (fun _ _ _ h => h) (Or.inl ⟨by rfl, ?_⟩) hHeld ?_ ?_
    rotate_left
    · rintro w' ⟨s0, s1, s2, s3, s4⟩
      go_simp
      with_reducible rfl
    rotate_left
    · simp only [Act.put, List.setIfInBounds_toArray, List.set_cons_zero, List.set_cons_succ, i64_w, i32_w]
      rfl
    refine one_ (i := 1) (N := some 16) #[true, true, true, true, false, false, false, false] rfl rfl (one_of HT_.out (by kernel_rfl)) (by decide) (fun K hK => ?_)
    refine goes_ Try.func57 (by kernel_rfl) rfl #[.agg #[.int .i64 t264, .slice Ao37 t265.length co37]] (by rfl) rfl rfl (by (try simp only [List.map_toArray, List.map_cons, List.map_nil]); first | done | rfl | (simp only [List.length_drop, List.length_take]; rfl)) ?_
    with_reducible refine (spec_l02Length.calls k t264 _ _ t265 t269 _ ?side1 ?side2 A4.out).mono ?_
    (case side1 => repeat (first | exact (Kd.R_reads' HO267.out).2.2 | (with_reducible refine Kd.C_alloc ?_ _) | (with_reducible refine Kd.C_drewN ?_ _) | (with_reducible refine Kd.C_drew ?_)))
    (case side2 => exact (Kd.R_reads' HO267.out).2.1)
    rintro e w40 ⟨rfl, hb⟩
    refine ⟨_, rfl, ?_⟩
    have n0_ := Aside0.mk (Kd.R_below (by (with_reducible repeat (first | apply Kd.R_alloc | apply Kd.R_drewN | apply Kd.R_drew)); exact HO267.out) hb)
    have n1_ := Aside0.mk (blk_below (g := gb262) (o := .cells #[.int .i64 a0_0, .slice A0_1 l0_1.length c0_1, .int .i64 a0_2] 33 (0, 0)) (by (with_reducible repeat (first | refine blk_drewN ?_ _ | refine blk_drew ?_ | refine blk_alloc ?_ _)); exact BK262.out) hb)
    have n2_ := Aside0.mk (blk_below (g := gb263) (o := .cells #[.int .i64 0, .slice none 0 0] 31 (0, 0)) (by (with_reducible repeat (first | refine blk_drewN ?_ _ | refine blk_drew ?_ | refine blk_alloc ?_ _)); exact BK263.out) hb)
    have n3_ := Aside0.mk (blk_below (g := gb268) (o := .cells #[.int .i64 t264, .slice Ao37 t265.length co37] 31 (0, 0)) (by (with_reducible repeat (first | refine blk_drewN ?_ _ | refine blk_drew ?_ | refine blk_alloc ?_ _)); exact BK268.out) hb)
    have n4_ := Aside0.mk (below_step (by repeat (first | (with_reducible first | exact HB.out | apply below_alloc | apply pw_below_drewN | apply below_drew1 | refine below_set ?_ GE262.out | refine below_set ?_ GE263.out | refine below_set ?_ GE268.out) | exact HB.out)) hb)
    clear HO267
    clear BK262
    clear BK263
    clear BK268
    clear HB
    have HO267 := n0_
    have BK262 := n1_
    have BK263 := n2_
    have BK268 := n3_
    have HB := n4_
    clear n0_ n1_ n2_ n3_ n4_
    (try clear hb)
    (try clear hb2)
    (try clear hk)
    (try clear hi)
    refine hK.out _ _ ⟨(blk_cell BK268.out 0).trans rfl, (blk_cell BK268.out 1).trans rfl, (blk_cell BK262.out 0).trans rfl, (blk_cell BK262.out 1).trans rfl, (blk_cell BK262.out 2).trans rfl⟩ (fun hHeld => ?_)
    clear hK K
    refine norm_ (a' := ?_) ?_ ?_
    rotate_left
    · show Act.put _ (some 16) _ = _
      simp only [Act.put, List.setIfInBounds_toArray, List.set_cons_zero, List.set_cons_succ, i64_w, i32_w]
      rfl
    refine pure_ (i := 4) (N := some 19) (v := ?_) (a' := ?_) #[true, true, true, true, true, false, false, false] rfl rfl (any_of HT_.out (by kernel_rfl)) (fun _ _ _ h => h) (Or.inl ⟨by rfl, ?_⟩) ?_ ?_
    rotate_left
    · intro w'
      go_simp
      with_reducible rfl
    rotate_left
    · simp only [Act.put, List.setIfInBounds_toArray, List.set_cons_zero, List.set_cons_succ, i64_w, i32_w]
      rfl
    refine pure_ (i := 5) (N := some 20) (v := ?_) (a' := ?_) #[true, true, true, true, true, true, false, false] rfl rfl (any_of HT_.out (by kernel_rfl)) (fun _ _ _ h => h) (Or.inl ⟨by rfl, ?_⟩) ?_ ?_
    rotate_left
    · intro w'
      go_simp
      with_reducible rfl
    rotate_left
    · simp only [Act.put, List.setIfInBounds_toArray, List.set_cons_zero, List.set_cons_succ, i64_w, i32_w]
      rfl
    refine pure_ (i := 6) (N := some 21) (v := ?_) (a' := ?_) #[true, true, true, true, true, true, true, false] rfl rfl (any_of HT_.out (by kernel_rfl)) (fun _ _ _ h => h) (Or.inl ⟨by rfl, ?_⟩) ?_ ?_
    rotate_left
    · intro w'
      go_simp
      with_reducible rfl
    rotate_left
    · simp only [Act.put, List.setIfInBounds_toArray, List.set_cons_zero, List.set_cons_succ, i64_w, i32_w]
      rfl
    refine pure_ (i := 7) (N := some 8) (v := ?_) (a' := ?_) #[true, true, true, true, true, true, true, true] rfl rfl (any_of HT_.out (by kernel_rfl)) (fun _ _ _ h => h) (Or.inl ⟨by rfl, ?_⟩) ?_ ?_
    rotate_left
    · intro w'
      go_simp
      with_reducible rfl
    rotate_left
    · simp only [Act.put, List.setIfInBounds_toArray, List.set_cons_zero, List.set_cons_succ, i64_w, i32_w]
      rfl
    refine done_ (done_of HT_.out (by kernel_rfl)) ?_
    have hcz41_0 : w40.cell? ⟨gb262, 0, none⟩ = some (.int .i64 a0_0) := (blk_cell BK262.out 0).trans rfl
    have hcz41_1 : w40.cell? ⟨gb262, 1, none⟩ = some (.slice A0_1 l0_1.length c0_1) := (blk_cell BK262.out 1).trans rfl
    have hcz41_2 : w40.cell? ⟨gb262, 2, none⟩ = some (.int .i64 a0_2) := (blk_cell BK262.out 2).trans rfl
    have hfz41_0 := blk_frozen BK262.out 0
    have hfz41_1 := blk_frozen BK262.out 1
    have hfz41_2 := blk_frozen BK262.out 2
    have hcz42_0 : w40.cell? ⟨gb268, 0, none⟩ = some (.int .i64 t264) := (blk_cell BK268.out 0).trans rfl
    have hcz42_1 : w40.cell? ⟨gb268, 1, none⟩ = some (.slice Ao37 t265.length co37) := (blk_cell BK268.out 1).trans rfl
    have hfz42_0 := blk_frozen BK268.out 0
    have hfz42_1 := blk_frozen BK268.out 1
    go_upto_block 0 with (first | ((with_reducible refine gate_callee (f := 103) rfl ?_); refine goesL_ (some 35) rfl rfl Try.func103 (by kernel_rfl) rfl #[.agg #[.int .i64 t264, .slice Ao37 t265.length co37], .int .i64 (wrap64 ((ji5) - a0_2))] rfl (by (try simp only [List.map_toArray, List.map_cons, List.map_nil]); first | done | (simp only [hji5]; rfl) | rfl | (simp only [List.length_drop, List.length_take]; rfl)) ?_; (with_reducible refine (spec_l02Cut.calls k t264 _ _ t265 (wrap64 ((ji5) - a0_2)) t274 t275 _ ?side1 ?side2 A26.out).mono ?_); (case side1 => repeat (first | exact (Kd.R_reads' HO267.out).2.2 | (with_reducible refine Kd.C_alloc ?_ _) | (with_reducible refine Kd.C_drewN ?_ _) | (with_reducible refine Kd.C_drew ?_))); (case side2 => exact (Kd.R_reads' HO267.out).2.1); rintro e w43 ⟨v276, rfl, ho0, hb⟩; refine ⟨_, rfl, ?_⟩; have n0_ := Aside0.mk (Kd.R_elder' (by (with_reducible repeat (first | apply Kd.R_alloc | apply Kd.R_drewN | apply Kd.R_drew)); exact HO267.out) (Kd.R_base ho0) hb); have n1_ := Aside0.mk (Kd.R_lower (Kd.R_new' ho0 (Kd.R_lt (by (with_reducible repeat (first | apply Kd.R_alloc | apply Kd.R_drewN | apply Kd.R_drew)); exact HO267.out))) (below_size (by repeat (first | (with_reducible first | exact HB.out | apply below_alloc | apply pw_below_drewN | apply below_drew1 | refine below_set ?_ GE262.out | refine below_set ?_ GE263.out | refine below_set ?_ GE268.out) | exact HB.out)))); have n2_ := Aside0.mk (blk_below (g := gb262) (o := .cells #[.int .i64 a0_0, .slice A0_1 l0_1.length c0_1, .int .i64 a0_2] 33 (0, 0)) (by (with_reducible repeat (first | refine blk_drewN ?_ _ | refine blk_drew ?_ | refine blk_alloc ?_ _)); exact BK262.out) hb); have n3_ := Aside0.mk (blk_below (g := gb263) (o := .cells #[.int .i64 0, .slice none 0 0] 31 (0, 0)) (by (with_reducible repeat (first | refine blk_drewN ?_ _ | refine blk_drew ?_ | refine blk_alloc ?_ _)); exact BK263.out) hb); have n4_ := Aside0.mk (blk_below (g := gb268) (o := .cells #[.int .i64 t264, .slice Ao37 t265.length co37] 31 (0, 0)) (by (with_reducible repeat (first | refine blk_drewN ?_ _ | refine blk_drew ?_ | refine blk_alloc ?_ _)); exact BK268.out) hb); have n5_ := Aside0.mk (below_step (by repeat (first | (with_reducible first | exact HB.out | apply below_alloc | apply pw_below_drewN | apply below_drew1 | refine below_set ?_ GE262.out | refine below_set ?_ GE263.out | refine below_set ?_ GE268.out) | exact HB.out)) hb); clear HO267; clear BK262; clear BK263; clear BK268; clear HB; have HO267 := n0_; have HO277 := n1_; have BK262 := n2_; have BK263 := n3_; have BK268 := n4_; have HB := n5_; clear n0_ n1_ n2_ n3_ n4_ n5_; (try clear hb); (try clear hb2); (try clear hk); (try clear hi); (try clear ho0)) | ((with_reducible refine gate_dst (N := 10) rfl ?_); refine box_event ?hg (N := 10) ?hd (cs := #[.int .i64 0, .slice none 0 0]) (t := 31) ?hr ?_; (case hd => rfl); (case hg => rfl); (case hr => first | (go_simp; done) | (go_simp; rfl)); intro gb278 hg w44 hbox hb; have n0_ := Aside0.mk (Kd.R_below (by (with_reducible repeat (first | apply Kd.R_alloc | apply Kd.R_drewN | apply Kd.R_drew)); exact HO267.out) hb); have n1_ := Aside0.mk (Kd.R_below (by (with_reducible repeat (first | apply Kd.R_alloc | apply Kd.R_drewN | apply Kd.R_drew)); exact HO277.out) hb); have n2_ := Aside0.mk (blk_below (g := gb262) (o := .cells #[.int .i64 a0_0, .slice A0_1 l0_1.length c0_1, .int .i64 a0_2] 33 (0, 0)) (by (with_reducible repeat (first | refine blk_drewN ?_ _ | refine blk_drew ?_ | refine blk_alloc ?_ _)); exact BK262.out) hb); have n3_ := Aside0.mk (blk_below (g := gb263) (o := .cells #[.int .i64 0, .slice none 0 0] 31 (0, 0)) (by (with_reducible repeat (first | refine blk_drewN ?_ _ | refine blk_drew ?_ | refine blk_alloc ?_ _)); exact BK263.out) hb); have n4_ := Aside0.mk (blk_below (g := gb268) (o := .cells #[.int .i64 t264, .slice Ao37 t265.length co37] 31 (0, 0)) (by (with_reducible repeat (first | refine blk_drewN ?_ _ | refine blk_drew ?_ | refine blk_alloc ?_ _)); exact BK268.out) hb); have n5_ := Aside0.mk (below_step (by repeat (first | (with_reducible first | exact HB.out | apply below_alloc | apply pw_below_drewN | apply below_drew1 | refine below_set ?_ GE262.out | refine below_set ?_ GE263.out | refine below_set ?_ GE268.out) | exact HB.out)) hb); have n6_ := Aside0.mk (hbox); have n7_ := Aside0.mk ((by rw [hg]; exact (below_size (by repeat (first | (with_reducible first | exact HB.out | apply below_alloc | apply pw_below_drewN | apply below_drew1 | refine below_set ?_ GE262.out | refine below_set ?_ GE263.out | refine below_set ?_ GE268.out) | exact HB.out))) : w.heap.size ≤ gb278)); have n8_ := Aside0.mk ((by rw [hg]; exact (below_size (by repeat (first | (with_reducible first | exact HB.out | apply below_alloc | apply pw_below_drewN | apply below_drew1 | refine below_set ?_ GE262.out | refine below_set ?_ GE263.out | refine below_set ?_ GE268.out) | exact HB.out))) : w.heap.size ≤ gb278)); have n9_ := Aside0.mk ((by rw [hg]; exact Nat.ne_of_lt (blk_lt (g := gb262) (o := .cells #[.int .i64 a0_0, .slice A0_1 l0_1.length c0_1, .int .i64 a0_2] 33 (0, 0)) (by (with_reducible repeat (first | refine blk_drewN ?_ _ | refine blk_drew ?_ | refine blk_alloc ?_ _)); exact BK262.out)) : gb262 ≠ gb278)); have n10_ := Aside0.mk ((by rw [hg]; exact Nat.ne_of_gt (blk_lt (g := gb262) (o := .cells #[.int .i64 a0_0, .slice A0_1 l0_1.length c0_1, .int .i64 a0_2] 33 (0, 0)) (by (with_reducible repeat (first | refine blk_drewN ?_ _ | refine blk_drew ?_ | refine blk_alloc ?_ _)); exact BK262.out)) : gb278 ≠ gb262)); have n11_ := Aside0.mk ((by rw [hg]; exact Nat.ne_of_lt (blk_lt (g := gb263) (o := .cells #[.int .i64 0, .slice none 0 0] 31 (0, 0)) (by (with_reducible repeat (first | refine blk_drewN ?_ _ | refine blk_drew ?_ | refine blk_alloc ?_ _)); exact BK263.out)) : gb263 ≠ gb278)); have n12_ := Aside0.mk ((by rw [hg]; exact Nat.ne_of_gt (blk_lt (g := gb263) (o := .cells #[.int .i64 0, .slice none 0 0] 31 (0, 0)) (by (with_reducible repeat (first | refine blk_drewN ?_ _ | refine blk_drew ?_ | refine blk_alloc ?_ _)); exact BK263.out)) : gb278 ≠ gb263)); have n13_ := Aside0.mk ((by rw [hg]; exact Nat.ne_of_lt (blk_lt (g := gb268) (o := .cells #[.int .i64 t264, .slice Ao37 t265.length co37] 31 (0, 0)) (by (with_reducible repeat (first | refine blk_drewN ?_ _ | refine blk_drew ?_ | refine blk_alloc ?_ _)); exact BK268.out)) : gb268 ≠ gb278)); have n14_ := Aside0.mk ((by rw [hg]; exact Nat.ne_of_gt (blk_lt (g := gb268) (o := .cells #[.int .i64 t264, .slice Ao37 t265.length co37] 31 (0, 0)) (by (with_reducible repeat (first | refine blk_drewN ?_ _ | refine blk_drew ?_ | refine blk_alloc ?_ _)); exact BK268.out)) : gb278 ≠ gb268)); clear HO267; clear HO277; clear BK262; clear BK263; clear BK268; clear HB; have HO267 := n0_; have HO277 := n1_; have BK262 := n2_; have BK263 := n3_; have BK268 := n4_; have HB := n5_; have BK278 := n6_; have GW278 := n7_; have GE278 := n8_; have NB262_278 := n9_; have NB278_262 := n10_; have NB263_278 := n11_; have NB278_263 := n12_; have NB268_278 := n13_; have NB278_268 := n14_; clear n0_ n1_ n2_ n3_ n4_ n5_ n6_ n7_ n8_ n9_ n10_ n11_ n12_ n13_ n14_; clear hb hbox hg; have hnb45 := NB278_262.out; have hnc45 := NB262_278.out; have hnb46 := NB278_263.out; have hnc46 := NB263_278.out; have hnb47 := NB278_268.out; have hnc47 := NB268_278.out; have hcz48_0 : w44.cell? ⟨gb278, 0, none⟩ = some (.int .i64 0) := (blk_cell BK278.out 0).trans rfl; have hcz48_1 : w44.cell? ⟨gb278, 1, none⟩ = some (.slice none 0 0) := (blk_cell BK278.out 1).trans rfl; have hfz48_0 := blk_frozen BK278.out 0; have hfz48_1 := blk_frozen BK278.out 1; obtain ⟨Ao49, co49, eo49⟩ := Kd.R_slice HO277.out; subst eo49))
    (try simp only [Act.put, List.setIfInBounds_toArray, List.set_cons_zero, List.set_cons_succ])
    go_cut [11] (fun v11 wc => ∃ (kq : Nat) (x11_26 : Bool), v11 = .bool x11_26 ∧ Aside0 (spec_l03Multiple.j0 kq ji5 x11_26 t274 t275 = some (r1, r2, r3, r4)) ∧ Aside0 (kq ≤ k) ∧ Aside0 (Kd.R (Kd.int .i64) 2 wc w.heap.size (fun k_ => some k_ ≠ ((.slice Ao49 t275.length co49) : Value).ownBlock) (.slice Ao37 t265.length co37) t265) ∧ Aside0 (Kd.R (Kd.int .i64) 2 wc w.heap.size (fun k_ => some k_ ≠ ((.slice Ao37 t265.length co37) : Value).ownBlock) (.slice Ao49 t275.length co49) t275) ∧ Aside0 (wc.heap[gb262]? = some (.cells #[.int .i64 a0_0, (.slice A0_1 l0_1.length c0_1), .int .i64 a0_2] 33 (0, 0))) ∧ Aside0 (wc.heap[gb263]? = some (.cells #[.int .i64 0, (.slice none 0 0)] 31 (0, 0))) ∧ Aside0 (wc.heap[gb268]? = some (.cells #[.int .i64 t264, (.slice Ao37 t265.length co37)] 31 (0, 0))) ∧ Aside0 (wc.heap[gb278]? = some (.cells #[.int .i64 t274, (.slice Ao49 t275.length co49)] 31 (0, 0))) ∧ Aside0 (Below w.heap.size w wc))
    case first =>
      have H := HC27.out
      clear HC27
      by_cases c50 : a1 = 0
      · rw [if_pos c50] at H
        have c50b0 : (a1 == 0) = true := beq_iff_eq.mpr c50
        have c50b1 : (a1 != 0) = false := bne_eq_false_iff_eq.mpr c50
        clear c50
        (first | rw [c50b0] | (simp only [i64_w, i32_w]; rw [c50b0]) | skip)
        replace H := Option.bind_eq_some_iff.mp H
        obtain ⟨t279, A510, H⟩ := H
        replace H : (if t279 = 1 then (if (wrap64 ((ji5) - a0_2)) > 1 then (spec_l03Multiple.j0 k ji5 true t274 t275) else ((spec_l02Bit.f t274 t275 0).bind fun t280 => (spec_l03Multiple.j0 k ji5 (t280 == 1) t274 t275))) else (spec_l03Multiple.j0 k ji5 false t274 t275)) = some (r1, r2, r3, r4) := H
        have A51 := Aside0.mk A510
        clear A510
        by_cases c52 : t279 = 1
        · rw [if_pos c52] at H
          have c52b0 : (t279 == 1) = true := beq_iff_eq.mpr c52
          have c52b1 : (t279 != 1) = false := bne_eq_false_iff_eq.mpr c52
          clear c52
          by_cases c53 : (wrap64 ((ji5) - a0_2)) > 1
          · rw [if_pos c53] at H
            have c53b0 : decide (1 < (wrap64 ((ji5) - a0_2))) = true := decide_eq_true c53
            clear c53
            have H' := Aside0.mk H
            clear H
            have hnb54 := NB268_262.out
            have hnc54 := NB262_268.out
            have hnb55 := NB268_263.out
            have hnc55 := NB263_268.out
            have hnb56 := NB268_278.out
            have hnc56 := NB278_268.out
            have hcz57_0 : w44.cell? ⟨gb268, 0, none⟩ = some (.int .i64 t264) := (blk_cell BK268.out 0).trans rfl
            have hcz57_1 : w44.cell? ⟨gb268, 1, none⟩ = some (.slice Ao37 t265.length co37) := (blk_cell BK268.out 1).trans rfl
            have hfz57_0 := blk_frozen BK268.out 0
            have hfz57_1 := blk_frozen BK268.out 1
            go_wp2_with (first | ((with_reducible refine gate_callee (f := 104) rfl ?_); refine goesL_ (some 42) rfl rfl Try.func104 (by kernel_rfl) rfl #[.agg #[.int .i64 t264, .slice Ao37 t265.length co37], .int .i64 (wrap64 ((wrap64 ((ji5) - a0_2)) - 1))] rfl (by (try simp only [List.map_toArray, List.map_cons, List.map_nil]); first | done | (simp only [hji5]; rfl) | rfl | (simp only [List.length_drop, List.length_take]; rfl)) ?_; (with_reducible refine (spec_l02Bit.calls t264 _ _ t265 (wrap64 ((wrap64 ((ji5) - a0_2)) - 1)) t279 _ ?side1 ?side2 A51.out).mono ?_); (case side1 => refine (Kd.R_reads' (e := 2) (base := w.heap.size) (ok := fun k_ => (True ∧ some k_ ≠ (.slice Ao49 t275.length co49 : Value).ownBlock)) (n := t265.length) (c := co37) ?_).2.2; exact (by (with_reducible repeat (first | apply Kd.R_alloc | apply Kd.R_drewN | apply Kd.R_drew)); exact (Kd.R_mono (Kd.R_far (p := ⟨gb278, 1, none⟩) (Kd.R_far (p := ⟨gb278, 0, none⟩) (Kd.R_types HO267.out BK278.out (by decide)) (fun _ hk => hk.2) (.int .i64 t274)) (fun _ hk => hk.2) (.slice Ao49 t275.length co49)) (fun _ h_ => h_.1)))); (case side2 => exact (Kd.R_reads' HO267.out).2.1); rintro e w58 ⟨rfl, hb⟩; refine ⟨_, rfl, ?_⟩; have n0_ := Aside0.mk (Kd.R_below (by (with_reducible repeat (first | apply Kd.R_alloc | apply Kd.R_drewN | apply Kd.R_drew)); exact (Kd.R_mono (Kd.R_far (p := ⟨gb278, 1, none⟩) (Kd.R_far (p := ⟨gb278, 0, none⟩) (Kd.R_types HO267.out BK278.out (by decide)) (fun _ hk => hk.2) (.int .i64 t274)) (fun _ hk => hk.2) (.slice Ao49 t275.length co49)) (fun _ h_ => h_.1))) hb); have n1_ := Aside0.mk (Kd.R_below (by (with_reducible repeat (first | apply Kd.R_alloc | apply Kd.R_drewN | apply Kd.R_drew)); exact (Kd.R_mono (Kd.R_far (p := ⟨gb278, 1, none⟩) (Kd.R_far (p := ⟨gb278, 0, none⟩) (Kd.R_types HO277.out BK278.out (by decide)) (fun _ hk => hk.2) (.int .i64 t274)) (fun _ hk => hk.2) (.slice Ao49 t275.length co49)) (fun _ h_ => h_.1))) hb); have n2_ := Aside0.mk (blk_below (g := gb262) (o := .cells #[.int .i64 a0_0, .slice A0_1 l0_1.length c0_1, .int .i64 a0_2] 33 (0, 0)) (by (with_reducible repeat (first | refine blk_drewN ?_ _ | refine blk_drew ?_ | refine blk_alloc ?_ _)); refine blk_far ?_ NB262_278.out _; (with_reducible repeat (first | refine blk_drewN ?_ _ | refine blk_drew ?_ | refine blk_alloc ?_ _)); refine blk_far ?_ NB262_278.out _; (with_reducible repeat (first | refine blk_drewN ?_ _ | refine blk_drew ?_ | refine blk_alloc ?_ _)); exact BK262.out) hb); have n3_ := Aside0.mk (blk_below (g := gb263) (o := .cells #[.int .i64 0, .slice none 0 0] 31 (0, 0)) (by (with_reducible repeat (first | refine blk_drewN ?_ _ | refine blk_drew ?_ | refine blk_alloc ?_ _)); refine blk_far ?_ NB263_278.out _; (with_reducible repeat (first | refine blk_drewN ?_ _ | refine blk_drew ?_ | refine blk_alloc ?_ _)); refine blk_far ?_ NB263_278.out _; (with_reducible repeat (first | refine blk_drewN ?_ _ | refine blk_drew ?_ | refine blk_alloc ?_ _)); exact BK263.out) hb); have n4_ := Aside0.mk (blk_below (g := gb268) (o := .cells #[.int .i64 t264, .slice Ao37 t265.length co37] 31 (0, 0)) (by (with_reducible repeat (first | refine blk_drewN ?_ _ | refine blk_drew ?_ | refine blk_alloc ?_ _)); refine blk_far ?_ NB268_278.out _; (with_reducible repeat (first | refine blk_drewN ?_ _ | refine blk_drew ?_ | refine blk_alloc ?_ _)); refine blk_far ?_ NB268_278.out _; (with_reducible repeat (first | refine blk_drewN ?_ _ | refine blk_drew ?_ | refine blk_alloc ?_ _)); exact BK268.out) hb); have n5_ := Aside0.mk (blk_below (g := gb278) (o := .cells #[.int .i64 t274, .slice Ao49 t275.length co49] 31 (0, 0)) (by (with_reducible repeat (first | refine blk_drewN ?_ _ | refine blk_drew ?_ | refine blk_alloc ?_ _)); refine blk_put (cs := #[.int .i64 t274, .slice none 0 0]) ?_ 1 _ rfl; (with_reducible repeat (first | refine blk_drewN ?_ _ | refine blk_drew ?_ | refine blk_alloc ?_ _)); refine blk_put (cs := #[.int .i64 0, .slice none 0 0]) ?_ 0 _ rfl; (with_reducible repeat (first | refine blk_drewN ?_ _ | refine blk_drew ?_ | refine blk_alloc ?_ _)); exact BK278.out) hb); have n6_ := Aside0.mk (below_step (by repeat (first | (with_reducible first | exact HB.out | apply below_alloc | apply pw_below_drewN | apply below_drew1 | refine below_set ?_ GE262.out | refine below_set ?_ GE263.out | refine below_set ?_ GE268.out | refine below_set ?_ GE278.out) | exact HB.out)) hb); clear HO267; clear HO277; clear BK262; clear BK263; clear BK268; clear BK278; clear HB; have HO267 := n0_; have HO277 := n1_; have BK262 := n2_; have BK263 := n3_; have BK268 := n4_; have BK278 := n5_; have HB := n6_; clear n0_ n1_ n2_ n3_ n4_ n5_ n6_; (try clear hb); (try clear hb2); (try clear hk); (try clear hi)))
            go_meet
            case rel => exact ⟨_, (true), (by first | rfl | (simp; done) | (simp [*]; done)), H', ⟨by first | omega | exact Nat.le_refl _⟩, ⟨by (with_reducible repeat (first | apply Kd.R_alloc | apply Kd.R_drewN | apply Kd.R_drew)); exact Kd.R_mono HO267.out (fun _ hk => hk.2)⟩, ⟨by (with_reducible repeat (first | apply Kd.R_alloc | apply Kd.R_drewN | apply Kd.R_drew)); exact Kd.R_mono HO277.out (fun _ hk => hk.2)⟩, ⟨by (with_reducible repeat (first | refine blk_drewN ?_ _ | refine blk_drew ?_ | refine blk_alloc ?_ _)); exact BK262.out⟩, ⟨by (with_reducible repeat (first | refine blk_drewN ?_ _ | refine blk_drew ?_ | refine blk_alloc ?_ _)); exact BK263.out⟩, ⟨by (with_reducible repeat (first | refine blk_drewN ?_ _ | refine blk_drew ?_ | refine blk_alloc ?_ _)); exact BK268.out⟩, ⟨by (with_reducible repeat (first | refine blk_drewN ?_ _ | refine blk_drew ?_ | refine blk_alloc ?_ _)); exact BK278.out⟩, ⟨by repeat (first | (with_reducible first | exact HB.out | apply below_alloc | apply pw_below_drewN | apply below_drew1 | refine below_set ?_ GE262.out | refine below_set ?_ GE263.out | refine below_set ?_ GE268.out | refine below_set ?_ GE278.out) | exact HB.out)⟩⟩
          · rw [if_neg c53] at H
            have c53b0 : decide (1 < (wrap64 ((ji5) - a0_2))) = false := decide_eq_false c53
            clear c53
            replace H := Option.bind_eq_some_iff.mp H
            obtain ⟨t280, A590, H⟩ := H
            replace H : (spec_l03Multiple.j0 k ji5 (t280 == 1) t274 t275) = some (r1, r2, r3, r4) := H
            have A59 := Aside0.mk A590
            clear A590
            have H' := Aside0.mk H
            clear H
            have hnb60 := NB268_262.out
            have hnc60 := NB262_268.out
            have hnb61 := NB268_263.out
            have hnc61 := NB263_268.out
            have hnb62 := NB268_278.out
            have hnc62 := NB278_268.out
            have hcz63_0 : w44.cell? ⟨gb268, 0, none⟩ = some (.int .i64 t264) := (blk_cell BK268.out 0).trans rfl
            have hcz63_1 : w44.cell? ⟨gb268, 1, none⟩ = some (.slice Ao37 t265.length co37) := (blk_cell BK268.out 1).trans rfl
            have hfz63_0 := blk_frozen BK268.out 0
            have hfz63_1 := blk_frozen BK268.out 1
            go_wp2_with (first | ((with_reducible refine gate_callee (f := 104) rfl ?_); refine goesL_ (some 42) rfl rfl Try.func104 (by kernel_rfl) rfl #[.agg #[.int .i64 t264, .slice Ao37 t265.length co37], .int .i64 (wrap64 ((wrap64 ((ji5) - a0_2)) - 1))] rfl (by (try simp only [List.map_toArray, List.map_cons, List.map_nil]); first | done | (simp only [hji5]; rfl) | rfl | (simp only [List.length_drop, List.length_take]; rfl)) ?_; (with_reducible refine (spec_l02Bit.calls t264 _ _ t265 (wrap64 ((wrap64 ((ji5) - a0_2)) - 1)) t279 _ ?side1 ?side2 A51.out).mono ?_); (case side1 => refine (Kd.R_reads' (e := 2) (base := w.heap.size) (ok := fun k_ => (True ∧ some k_ ≠ (.slice Ao49 t275.length co49 : Value).ownBlock)) (n := t265.length) (c := co37) ?_).2.2; exact (by (with_reducible repeat (first | apply Kd.R_alloc | apply Kd.R_drewN | apply Kd.R_drew)); exact (Kd.R_mono (Kd.R_far (p := ⟨gb278, 1, none⟩) (Kd.R_far (p := ⟨gb278, 0, none⟩) (Kd.R_types HO267.out BK278.out (by decide)) (fun _ hk => hk.2) (.int .i64 t274)) (fun _ hk => hk.2) (.slice Ao49 t275.length co49)) (fun _ h_ => h_.1)))); (case side2 => exact (Kd.R_reads' HO267.out).2.1); rintro e w64 ⟨rfl, hb⟩; refine ⟨_, rfl, ?_⟩; have n0_ := Aside0.mk (Kd.R_below (by (with_reducible repeat (first | apply Kd.R_alloc | apply Kd.R_drewN | apply Kd.R_drew)); exact (Kd.R_mono (Kd.R_far (p := ⟨gb278, 1, none⟩) (Kd.R_far (p := ⟨gb278, 0, none⟩) (Kd.R_types HO267.out BK278.out (by decide)) (fun _ hk => hk.2) (.int .i64 t274)) (fun _ hk => hk.2) (.slice Ao49 t275.length co49)) (fun _ h_ => h_.1))) hb); have n1_ := Aside0.mk (Kd.R_below (by (with_reducible repeat (first | apply Kd.R_alloc | apply Kd.R_drewN | apply Kd.R_drew)); exact (Kd.R_mono (Kd.R_far (p := ⟨gb278, 1, none⟩) (Kd.R_far (p := ⟨gb278, 0, none⟩) (Kd.R_types HO277.out BK278.out (by decide)) (fun _ hk => hk.2) (.int .i64 t274)) (fun _ hk => hk.2) (.slice Ao49 t275.length co49)) (fun _ h_ => h_.1))) hb); have n2_ := Aside0.mk (blk_below (g := gb262) (o := .cells #[.int .i64 a0_0, .slice A0_1 l0_1.length c0_1, .int .i64 a0_2] 33 (0, 0)) (by (with_reducible repeat (first | refine blk_drewN ?_ _ | refine blk_drew ?_ | refine blk_alloc ?_ _)); refine blk_far ?_ NB262_278.out _; (with_reducible repeat (first | refine blk_drewN ?_ _ | refine blk_drew ?_ | refine blk_alloc ?_ _)); refine blk_far ?_ NB262_278.out _; (with_reducible repeat (first | refine blk_drewN ?_ _ | refine blk_drew ?_ | refine blk_alloc ?_ _)); exact BK262.out) hb); have n3_ := Aside0.mk (blk_below (g := gb263) (o := .cells #[.int .i64 0, .slice none 0 0] 31 (0, 0)) (by (with_reducible repeat (first | refine blk_drewN ?_ _ | refine blk_drew ?_ | refine blk_alloc ?_ _)); refine blk_far ?_ NB263_278.out _; (with_reducible repeat (first | refine blk_drewN ?_ _ | refine blk_drew ?_ | refine blk_alloc ?_ _)); refine blk_far ?_ NB263_278.out _; (with_reducible repeat (first | refine blk_drewN ?_ _ | refine blk_drew ?_ | refine blk_alloc ?_ _)); exact BK263.out) hb); have n4_ := Aside0.mk (blk_below (g := gb268) (o := .cells #[.int .i64 t264, .slice Ao37 t265.length co37] 31 (0, 0)) (by (with_reducible repeat (first | refine blk_drewN ?_ _ | refine blk_drew ?_ | refine blk_alloc ?_ _)); refine blk_far ?_ NB268_278.out _; (with_reducible repeat (first | refine blk_drewN ?_ _ | refine blk_drew ?_ | refine blk_alloc ?_ _)); refine blk_far ?_ NB268_278.out _; (with_reducible repeat (first | refine blk_drewN ?_ _ | refine blk_drew ?_ | refine blk_alloc ?_ _)); exact BK268.out) hb); have n5_ := Aside0.mk (blk_below (g := gb278) (o := .cells #[.int .i64 t274, .slice Ao49 t275.length co49] 31 (0, 0)) (by (with_reducible repeat (first | refine blk_drewN ?_ _ | refine blk_drew ?_ | refine blk_alloc ?_ _)); refine blk_put (cs := #[.int .i64 t274, .slice none 0 0]) ?_ 1 _ rfl; (with_reducible repeat (first | refine blk_drewN ?_ _ | refine blk_drew ?_ | refine blk_alloc ?_ _)); refine blk_put (cs := #[.int .i64 0, .slice none 0 0]) ?_ 0 _ rfl; (with_reducible repeat (first | refine blk_drewN ?_ _ | refine blk_drew ?_ | refine blk_alloc ?_ _)); exact BK278.out) hb); have n6_ := Aside0.mk (below_step (by repeat (first | (with_reducible first | exact HB.out | apply below_alloc | apply pw_below_drewN | apply below_drew1 | refine below_set ?_ GE262.out | refine below_set ?_ GE263.out | refine below_set ?_ GE268.out | refine below_set ?_ GE278.out) | exact HB.out)) hb); clear HO267; clear HO277; clear BK262; clear BK263; clear BK268; clear BK278; clear HB; have HO267 := n0_; have HO277 := n1_; have BK262 := n2_; have BK263 := n3_; have BK268 := n4_; have BK278 := n5_; have HB := n6_; clear n0_ n1_ n2_ n3_ n4_ n5_ n6_; (try clear hb); (try clear hb2); (try clear hk); (try clear hi); have hnb65 := NB278_262.out; have hnc65 := NB262_278.out; have hnb66 := NB278_263.out; have hnc66 := NB263_278.out; have hcz67_0 : w64.cell? ⟨gb278, 0, none⟩ = some (.int .i64 t274) := (blk_cell BK278.out 0).trans rfl; have hcz67_1 : w64.cell? ⟨gb278, 1, none⟩ = some (.slice Ao49 t275.length co49) := (blk_cell BK278.out 1).trans rfl; have hfz67_0 := blk_frozen BK278.out 0; have hfz67_1 := blk_frozen BK278.out 1) | (go_at_call 104; (with_reducible refine (spec_l02Bit.calls t274 _ _ t275 0 t280 _ ?side1 ?side2 A59.out).mono ?_); (case side1 => repeat (first | exact (Kd.R_reads' HO277.out).2.2 | (with_reducible refine Kd.C_alloc ?_ _) | (with_reducible refine Kd.C_drewN ?_ _) | (with_reducible refine Kd.C_drew ?_))); (case side2 => exact (Kd.R_reads' HO277.out).2.1); rintro e w68 ⟨rfl, hb⟩; have n0_ := Aside0.mk (Kd.R_below (by (with_reducible repeat (first | apply Kd.R_alloc | apply Kd.R_drewN | apply Kd.R_drew)); exact HO267.out) hb); have n1_ := Aside0.mk (Kd.R_below (by (with_reducible repeat (first | apply Kd.R_alloc | apply Kd.R_drewN | apply Kd.R_drew)); exact HO277.out) hb); have n2_ := Aside0.mk (blk_below (g := gb262) (o := .cells #[.int .i64 a0_0, .slice A0_1 l0_1.length c0_1, .int .i64 a0_2] 33 (0, 0)) (by (with_reducible repeat (first | refine blk_drewN ?_ _ | refine blk_drew ?_ | refine blk_alloc ?_ _)); exact BK262.out) hb); have n3_ := Aside0.mk (blk_below (g := gb263) (o := .cells #[.int .i64 0, .slice none 0 0] 31 (0, 0)) (by (with_reducible repeat (first | refine blk_drewN ?_ _ | refine blk_drew ?_ | refine blk_alloc ?_ _)); exact BK263.out) hb); have n4_ := Aside0.mk (blk_below (g := gb268) (o := .cells #[.int .i64 t264, .slice Ao37 t265.length co37] 31 (0, 0)) (by (with_reducible repeat (first | refine blk_drewN ?_ _ | refine blk_drew ?_ | refine blk_alloc ?_ _)); exact BK268.out) hb); have n5_ := Aside0.mk (blk_below (g := gb278) (o := .cells #[.int .i64 t274, .slice Ao49 t275.length co49] 31 (0, 0)) (by (with_reducible repeat (first | refine blk_drewN ?_ _ | refine blk_drew ?_ | refine blk_alloc ?_ _)); exact BK278.out) hb); have n6_ := Aside0.mk (below_step (by repeat (first | (with_reducible first | exact HB.out | apply below_alloc | apply pw_below_drewN | apply below_drew1 | refine below_set ?_ GE262.out | refine below_set ?_ GE263.out | refine below_set ?_ GE268.out | refine below_set ?_ GE278.out) | exact HB.out)) hb); clear HO267; clear HO277; clear BK262; clear BK263; clear BK268; clear BK278; clear HB; have HO267 := n0_; have HO277 := n1_; have BK262 := n2_; have BK263 := n3_; have BK268 := n4_; have BK278 := n5_; have HB := n6_; clear n0_ n1_ n2_ n3_ n4_ n5_ n6_; (try clear hb); (try clear hb2); (try clear hk); (try clear hi)))
            go_meet
            case rel => exact ⟨_, ((t280 == 1)), (by first | rfl | (simp; done) | (simp [*]; done)), H', ⟨by first | omega | exact Nat.le_refl _⟩, ⟨by (with_reducible repeat (first | apply Kd.R_alloc | apply Kd.R_drewN | apply Kd.R_drew)); exact Kd.R_mono HO267.out (fun _ hk => hk.2)⟩, ⟨by (with_reducible repeat (first | apply Kd.R_alloc | apply Kd.R_drewN | apply Kd.R_drew)); exact Kd.R_mono HO277.out (fun _ hk => hk.2)⟩, ⟨by (with_reducible repeat (first | refine blk_drewN ?_ _ | refine blk_drew ?_ | refine blk_alloc ?_ _)); exact BK262.out⟩, ⟨by (with_reducible repeat (first | refine blk_drewN ?_ _ | refine blk_drew ?_ | refine blk_alloc ?_ _)); exact BK263.out⟩, ⟨by (with_reducible repeat (first | refine blk_drewN ?_ _ | refine blk_drew ?_ | refine blk_alloc ?_ _)); exact BK268.out⟩, ⟨by (with_reducible repeat (first | refine blk_drewN ?_ _ | refine blk_drew ?_ | refine blk_alloc ?_ _)); exact BK278.out⟩, ⟨by repeat (first | (with_reducible first | exact HB.out | apply below_alloc | apply pw_below_drewN | apply below_drew1 | refine below_set ?_ GE262.out | refine below_set ?_ GE263.out | refine below_set ?_ GE268.out | refine below_set ?_ GE278.out) | exact HB.out)⟩⟩
        · rw [if_neg c52] at H
          have c52b0 : (t279 == 1) = false := beq_eq_false_iff_ne.mpr c52
          have c52b1 : (t279 != 1) = true := bne_iff_ne.mpr c52
          have H' := Aside0.mk H
          clear H
          have hnb69 := NB268_262.out
          have hnc69 := NB262_268.out
          have hnb70 := NB268_263.out
          have hnc70 := NB263_268.out
          have hnb71 := NB268_278.out
          have hnc71 := NB278_268.out
          have hcz72_0 : w44.cell? ⟨gb268, 0, none⟩ = some (.int .i64 t264) := (blk_cell BK268.out 0).trans rfl
          have hcz72_1 : w44.cell? ⟨gb268, 1, none⟩ = some (.slice Ao37 t265.length co37) := (blk_cell BK268.out 1).trans rfl
          have hfz72_0 := blk_frozen BK268.out 0
          have hfz72_1 := blk_frozen BK268.out 1
          go_wp2_with (first | ((with_reducible refine gate_callee (f := 104) rfl ?_); refine goesL_ (some 42) rfl rfl Try.func104 (by kernel_rfl) rfl #[.agg #[.int .i64 t264, .slice Ao37 t265.length co37], .int .i64 (wrap64 ((wrap64 ((ji5) - a0_2)) - 1))] rfl (by (try simp only [List.map_toArray, List.map_cons, List.map_nil]); first | done | (simp only [hji5]; rfl) | rfl | (simp only [List.length_drop, List.length_take]; rfl)) ?_; (with_reducible refine (spec_l02Bit.calls t264 _ _ t265 (wrap64 ((wrap64 ((ji5) - a0_2)) - 1)) t279 _ ?side1 ?side2 A51.out).mono ?_); (case side1 => refine (Kd.R_reads' (e := 2) (base := w.heap.size) (ok := fun k_ => (True ∧ some k_ ≠ (.slice Ao49 t275.length co49 : Value).ownBlock)) (n := t265.length) (c := co37) ?_).2.2; exact (by (with_reducible repeat (first | apply Kd.R_alloc | apply Kd.R_drewN | apply Kd.R_drew)); exact (Kd.R_mono (Kd.R_far (p := ⟨gb278, 1, none⟩) (Kd.R_far (p := ⟨gb278, 0, none⟩) (Kd.R_types HO267.out BK278.out (by decide)) (fun _ hk => hk.2) (.int .i64 t274)) (fun _ hk => hk.2) (.slice Ao49 t275.length co49)) (fun _ h_ => h_.1)))); (case side2 => exact (Kd.R_reads' HO267.out).2.1); rintro e w73 ⟨rfl, hb⟩; refine ⟨_, rfl, ?_⟩; have n0_ := Aside0.mk (Kd.R_below (by (with_reducible repeat (first | apply Kd.R_alloc | apply Kd.R_drewN | apply Kd.R_drew)); exact (Kd.R_mono (Kd.R_far (p := ⟨gb278, 1, none⟩) (Kd.R_far (p := ⟨gb278, 0, none⟩) (Kd.R_types HO267.out BK278.out (by decide)) (fun _ hk => hk.2) (.int .i64 t274)) (fun _ hk => hk.2) (.slice Ao49 t275.length co49)) (fun _ h_ => h_.1))) hb); have n1_ := Aside0.mk (Kd.R_below (by (with_reducible repeat (first | apply Kd.R_alloc | apply Kd.R_drewN | apply Kd.R_drew)); exact (Kd.R_mono (Kd.R_far (p := ⟨gb278, 1, none⟩) (Kd.R_far (p := ⟨gb278, 0, none⟩) (Kd.R_types HO277.out BK278.out (by decide)) (fun _ hk => hk.2) (.int .i64 t274)) (fun _ hk => hk.2) (.slice Ao49 t275.length co49)) (fun _ h_ => h_.1))) hb); have n2_ := Aside0.mk (blk_below (g := gb262) (o := .cells #[.int .i64 a0_0, .slice A0_1 l0_1.length c0_1, .int .i64 a0_2] 33 (0, 0)) (by (with_reducible repeat (first | refine blk_drewN ?_ _ | refine blk_drew ?_ | refine blk_alloc ?_ _)); refine blk_far ?_ NB262_278.out _; (with_reducible repeat (first | refine blk_drewN ?_ _ | refine blk_drew ?_ | refine blk_alloc ?_ _)); refine blk_far ?_ NB262_278.out _; (with_reducible repeat (first | refine blk_drewN ?_ _ | refine blk_drew ?_ | refine blk_alloc ?_ _)); exact BK262.out) hb); have n3_ := Aside0.mk (blk_below (g := gb263) (o := .cells #[.int .i64 0, .slice none 0 0] 31 (0, 0)) (by (with_reducible repeat (first | refine blk_drewN ?_ _ | refine blk_drew ?_ | refine blk_alloc ?_ _)); refine blk_far ?_ NB263_278.out _; (with_reducible repeat (first | refine blk_drewN ?_ _ | refine blk_drew ?_ | refine blk_alloc ?_ _)); refine blk_far ?_ NB263_278.out _; (with_reducible repeat (first | refine blk_drewN ?_ _ | refine blk_drew ?_ | refine blk_alloc ?_ _)); exact BK263.out) hb); have n4_ := Aside0.mk (blk_below (g := gb268) (o := .cells #[.int .i64 t264, .slice Ao37 t265.length co37] 31 (0, 0)) (by (with_reducible repeat (first | refine blk_drewN ?_ _ | refine blk_drew ?_ | refine blk_alloc ?_ _)); refine blk_far ?_ NB268_278.out _; (with_reducible repeat (first | refine blk_drewN ?_ _ | refine blk_drew ?_ | refine blk_alloc ?_ _)); refine blk_far ?_ NB268_278.out _; (with_reducible repeat (first | refine blk_drewN ?_ _ | refine blk_drew ?_ | refine blk_alloc ?_ _)); exact BK268.out) hb); have n5_ := Aside0.mk (blk_below (g := gb278) (o := .cells #[.int .i64 t274, .slice Ao49 t275.length co49] 31 (0, 0)) (by (with_reducible repeat (first | refine blk_drewN ?_ _ | refine blk_drew ?_ | refine blk_alloc ?_ _)); refine blk_put (cs := #[.int .i64 t274, .slice none 0 0]) ?_ 1 _ rfl; (with_reducible repeat (first | refine blk_drewN ?_ _ | refine blk_drew ?_ | refine blk_alloc ?_ _)); refine blk_put (cs := #[.int .i64 0, .slice none 0 0]) ?_ 0 _ rfl; (with_reducible repeat (first | refine blk_drewN ?_ _ | refine blk_drew ?_ | refine blk_alloc ?_ _)); exact BK278.out) hb); have n6_ := Aside0.mk (below_step (by repeat (first | (with_reducible first | exact HB.out | apply below_alloc | apply pw_below_drewN | apply below_drew1 | refine below_set ?_ GE262.out | refine below_set ?_ GE263.out | refine below_set ?_ GE268.out | refine below_set ?_ GE278.out) | exact HB.out)) hb); clear HO267; clear HO277; clear BK262; clear BK263; clear BK268; clear BK278; clear HB; have HO267 := n0_; have HO277 := n1_; have BK262 := n2_; have BK263 := n3_; have BK268 := n4_; have BK278 := n5_; have HB := n6_; clear n0_ n1_ n2_ n3_ n4_ n5_ n6_; (try clear hb); (try clear hb2); (try clear hk); (try clear hi)))
          go_meet
          case rel => exact ⟨_, (false), (by first | rfl | (simp; done) | (simp [*]; done)), H', ⟨by first | omega | exact Nat.le_refl _⟩, ⟨by (with_reducible repeat (first | apply Kd.R_alloc | apply Kd.R_drewN | apply Kd.R_drew)); exact Kd.R_mono HO267.out (fun _ hk => hk.2)⟩, ⟨by (with_reducible repeat (first | apply Kd.R_alloc | apply Kd.R_drewN | apply Kd.R_drew)); exact Kd.R_mono HO277.out (fun _ hk => hk.2)⟩, ⟨by (with_reducible repeat (first | refine blk_drewN ?_ _ | refine blk_drew ?_ | refine blk_alloc ?_ _)); exact BK262.out⟩, ⟨by (with_reducible repeat (first | refine blk_drewN ?_ _ | refine blk_drew ?_ | refine blk_alloc ?_ _)); exact BK263.out⟩, ⟨by (with_reducible repeat (first | refine blk_drewN ?_ _ | refine blk_drew ?_ | refine blk_alloc ?_ _)); exact BK268.out⟩, ⟨by (with_reducible repeat (first | refine blk_drewN ?_ _ | refine blk_drew ?_ | refine blk_alloc ?_ _)); exact BK278.out⟩, ⟨by repeat (first | (with_reducible first | exact HB.out | apply below_alloc | apply pw_below_drewN | apply below_drew1 | refine below_set ?_ GE262.out | refine below_set ?_ GE263.out | refine below_set ?_ GE268.out | refine below_set ?_ GE278.out) | exact HB.out)⟩⟩
      · rw [if_neg c50] at H
        have c50b0 : (a1 == 0) = false := beq_eq_false_iff_ne.mpr c50
        have c50b1 : (a1 != 0) = true := bne_iff_ne.mpr c50
        (first | rw [c50b0] | (simp only [i64_w, i32_w]; rw [c50b0]) | skip)
        by_cases c74 : a1 = 1
        · rw [if_pos c74] at H
          have c74b0 : (a1 == 1) = true := beq_iff_eq.mpr c74
          have c74b1 : (a1 != 1) = false := bne_eq_false_iff_eq.mpr c74
          clear c74
          have H' := Aside0.mk H
          clear H
          have hnb75 := NB262_263.out
          have hnc75 := NB263_262.out
          have hnb76 := NB262_268.out
          have hnc76 := NB268_262.out
          have hnb77 := NB262_278.out
          have hnc77 := NB278_262.out
          have hcz78_0 : w44.cell? ⟨gb262, 0, none⟩ = some (.int .i64 a0_0) := (blk_cell BK262.out 0).trans rfl
          have hcz78_1 : w44.cell? ⟨gb262, 1, none⟩ = some (.slice A0_1 l0_1.length c0_1) := (blk_cell BK262.out 1).trans rfl
          have hcz78_2 : w44.cell? ⟨gb262, 2, none⟩ = some (.int .i64 a0_2) := (blk_cell BK262.out 2).trans rfl
          have hfz78_0 := blk_frozen BK262.out 0
          have hfz78_1 := blk_frozen BK262.out 1
          have hfz78_2 := blk_frozen BK262.out 2
          go_wp2
          go_meet
          case rel => exact ⟨_, (decide (a0_0 < 0)), (by first | rfl | (simp; done) | (simp [*]; done)), H', ⟨by first | omega | exact Nat.le_refl _⟩, ⟨by (with_reducible repeat (first | apply Kd.R_alloc | apply Kd.R_drewN | apply Kd.R_drew)); exact Kd.R_mono (Kd.R_far (p := ⟨gb278, 1, none⟩) (Kd.R_far (p := ⟨gb278, 0, none⟩) (Kd.R_types HO267.out BK278.out (by decide)) (fun _ hk => hk.2) (.int .i64 t274)) (fun _ hk => hk.2) (.slice Ao49 t275.length co49)) (fun _ hk => hk.1.2)⟩, ⟨by (with_reducible repeat (first | apply Kd.R_alloc | apply Kd.R_drewN | apply Kd.R_drew)); exact Kd.R_mono (Kd.R_far (p := ⟨gb278, 1, none⟩) (Kd.R_far (p := ⟨gb278, 0, none⟩) (Kd.R_types HO277.out BK278.out (by decide)) (fun _ hk => hk.2) (.int .i64 t274)) (fun _ hk => hk.2) (.slice Ao49 t275.length co49)) (fun _ hk => hk.1.2)⟩, ⟨by (with_reducible repeat (first | refine blk_drewN ?_ _ | refine blk_drew ?_ | refine blk_alloc ?_ _)); refine blk_far ?_ NB262_278.out _; (with_reducible repeat (first | refine blk_drewN ?_ _ | refine blk_drew ?_ | refine blk_alloc ?_ _)); refine blk_far ?_ NB262_278.out _; (with_reducible repeat (first | refine blk_drewN ?_ _ | refine blk_drew ?_ | refine blk_alloc ?_ _)); exact BK262.out⟩, ⟨by (with_reducible repeat (first | refine blk_drewN ?_ _ | refine blk_drew ?_ | refine blk_alloc ?_ _)); refine blk_far ?_ NB263_278.out _; (with_reducible repeat (first | refine blk_drewN ?_ _ | refine blk_drew ?_ | refine blk_alloc ?_ _)); refine blk_far ?_ NB263_278.out _; (with_reducible repeat (first | refine blk_drewN ?_ _ | refine blk_drew ?_ | refine blk_alloc ?_ _)); exact BK263.out⟩, ⟨by (with_reducible repeat (first | refine blk_drewN ?_ _ | refine blk_drew ?_ | refine blk_alloc ?_ _)); refine blk_far ?_ NB268_278.out _; (with_reducible repeat (first | refine blk_drewN ?_ _ | refine blk_drew ?_ | refine blk_alloc ?_ _)); refine blk_far ?_ NB268_278.out _; (with_reducible repeat (first | refine blk_drewN ?_ _ | refine blk_drew ?_ | refine blk_alloc ?_ _)); exact BK268.out⟩, ⟨by (with_reducible repeat (first | refine blk_drewN ?_ _ | refine blk_drew ?_ | refine blk_alloc ?_ _)); refine blk_put (cs := #[.int .i64 t274, .slice none 0 0]) ?_ 1 _ rfl; (with_reducible repeat (first | refine blk_drewN ?_ _ | refine blk_drew ?_ | refine blk_alloc ?_ _)); refine blk_put (cs := #[.int .i64 0, .slice none 0 0]) ?_ 0 _ rfl; (with_reducible repeat (first | refine blk_drewN ?_ _ | refine blk_drew ?_ | refine blk_alloc ?_ _)); exact BK278.out⟩, ⟨by repeat (first | (with_reducible first | exact HB.out | apply below_alloc | apply pw_below_drewN | apply below_drew1 | refine below_set ?_ GE262.out | refine below_set ?_ GE263.out | refine below_set ?_ GE268.out | refine below_set ?_ GE278.out) | exact HB.out)⟩⟩
        · rw [if_neg c74] at H
          have c74b0 : (a1 == 1) = false := beq_eq_false_iff_ne.mpr c74
          have c74b1 : (a1 != 1) = true := bne_iff_ne.mpr c74
          by_cases c79 : a1 = 2
          · rw [if_pos c79] at H
            have c79b0 : (a1 == 2) = true := beq_iff_eq.mpr c79
            have c79b1 : (a1 != 2) = false := bne_eq_false_iff_eq.mpr c79
            clear c79
            have H' := Aside0.mk H
            clear H
            have hnb80 := NB262_263.out
            have hnc80 := NB263_262.out
            have hnb81 := NB262_268.out
            have hnc81 := NB268_262.out
            have hnb82 := NB262_278.out
            have hnc82 := NB278_262.out
            have hcz83_0 : w44.cell? ⟨gb262, 0, none⟩ = some (.int .i64 a0_0) := (blk_cell BK262.out 0).trans rfl
            have hcz83_1 : w44.cell? ⟨gb262, 1, none⟩ = some (.slice A0_1 l0_1.length c0_1) := (blk_cell BK262.out 1).trans rfl
            have hcz83_2 : w44.cell? ⟨gb262, 2, none⟩ = some (.int .i64 a0_2) := (blk_cell BK262.out 2).trans rfl
            have hfz83_0 := blk_frozen BK262.out 0
            have hfz83_1 := blk_frozen BK262.out 1
            have hfz83_2 := blk_frozen BK262.out 2
            go_wp2
            go_meet
            case rel => exact ⟨_, (decide (a0_0 > 0)), (by first | rfl | (simp; done) | (simp [*]; done)), H', ⟨by first | omega | exact Nat.le_refl _⟩, ⟨by (with_reducible repeat (first | apply Kd.R_alloc | apply Kd.R_drewN | apply Kd.R_drew)); exact Kd.R_mono (Kd.R_far (p := ⟨gb278, 1, none⟩) (Kd.R_far (p := ⟨gb278, 0, none⟩) (Kd.R_types HO267.out BK278.out (by decide)) (fun _ hk => hk.2) (.int .i64 t274)) (fun _ hk => hk.2) (.slice Ao49 t275.length co49)) (fun _ hk => hk.1.2)⟩, ⟨by (with_reducible repeat (first | apply Kd.R_alloc | apply Kd.R_drewN | apply Kd.R_drew)); exact Kd.R_mono (Kd.R_far (p := ⟨gb278, 1, none⟩) (Kd.R_far (p := ⟨gb278, 0, none⟩) (Kd.R_types HO277.out BK278.out (by decide)) (fun _ hk => hk.2) (.int .i64 t274)) (fun _ hk => hk.2) (.slice Ao49 t275.length co49)) (fun _ hk => hk.1.2)⟩, ⟨by (with_reducible repeat (first | refine blk_drewN ?_ _ | refine blk_drew ?_ | refine blk_alloc ?_ _)); refine blk_far ?_ NB262_278.out _; (with_reducible repeat (first | refine blk_drewN ?_ _ | refine blk_drew ?_ | refine blk_alloc ?_ _)); refine blk_far ?_ NB262_278.out _; (with_reducible repeat (first | refine blk_drewN ?_ _ | refine blk_drew ?_ | refine blk_alloc ?_ _)); exact BK262.out⟩, ⟨by (with_reducible repeat (first | refine blk_drewN ?_ _ | refine blk_drew ?_ | refine blk_alloc ?_ _)); refine blk_far ?_ NB263_278.out _; (with_reducible repeat (first | refine blk_drewN ?_ _ | refine blk_drew ?_ | refine blk_alloc ?_ _)); refine blk_far ?_ NB263_278.out _; (with_reducible repeat (first | refine blk_drewN ?_ _ | refine blk_drew ?_ | refine blk_alloc ?_ _)); exact BK263.out⟩, ⟨by (with_reducible repeat (first | refine blk_drewN ?_ _ | refine blk_drew ?_ | refine blk_alloc ?_ _)); refine blk_far ?_ NB268_278.out _; (with_reducible repeat (first | refine blk_drewN ?_ _ | refine blk_drew ?_ | refine blk_alloc ?_ _)); refine blk_far ?_ NB268_278.out _; (with_reducible repeat (first | refine blk_drewN ?_ _ | refine blk_drew ?_ | refine blk_alloc ?_ _)); exact BK268.out⟩, ⟨by (with_reducible repeat (first | refine blk_drewN ?_ _ | refine blk_drew ?_ | refine blk_alloc ?_ _)); refine blk_put (cs := #[.int .i64 t274, .slice none 0 0]) ?_ 1 _ rfl; (with_reducible repeat (first | refine blk_drewN ?_ _ | refine blk_drew ?_ | refine blk_alloc ?_ _)); refine blk_put (cs := #[.int .i64 0, .slice none 0 0]) ?_ 0 _ rfl; (with_reducible repeat (first | refine blk_drewN ?_ _ | refine blk_drew ?_ | refine blk_alloc ?_ _)); exact BK278.out⟩, ⟨by repeat (first | (with_reducible first | exact HB.out | apply below_alloc | apply pw_below_drewN | apply below_drew1 | refine below_set ?_ GE262.out | refine below_set ?_ GE263.out | refine below_set ?_ GE268.out | refine below_set ?_ GE278.out) | exact HB.out)⟩⟩
          · rw [if_neg c79] at H
            have c79b0 : (a1 == 2) = false := beq_eq_false_iff_ne.mpr c79
            have c79b1 : (a1 != 2) = true := bne_iff_ne.mpr c79
            by_cases c84 : a1 = 4
            · rw [if_pos c84] at H
              have c84b0 : (a1 == 4) = true := beq_iff_eq.mpr c84
              have c84b1 : (a1 != 4) = false := bne_eq_false_iff_eq.mpr c84
              clear c84
              have H' := Aside0.mk H
              clear H
              go_wp2
              go_meet
              case rel => exact ⟨_, (true), (by first | rfl | (simp; done) | (simp [*]; done)), H', ⟨by first | omega | exact Nat.le_refl _⟩, ⟨by (with_reducible repeat (first | apply Kd.R_alloc | apply Kd.R_drewN | apply Kd.R_drew)); exact Kd.R_mono (Kd.R_far (p := ⟨gb278, 1, none⟩) (Kd.R_far (p := ⟨gb278, 0, none⟩) (Kd.R_types HO267.out BK278.out (by decide)) (fun _ hk => hk.2) (.int .i64 t274)) (fun _ hk => hk.2) (.slice Ao49 t275.length co49)) (fun _ hk => hk.1.2)⟩, ⟨by (with_reducible repeat (first | apply Kd.R_alloc | apply Kd.R_drewN | apply Kd.R_drew)); exact Kd.R_mono (Kd.R_far (p := ⟨gb278, 1, none⟩) (Kd.R_far (p := ⟨gb278, 0, none⟩) (Kd.R_types HO277.out BK278.out (by decide)) (fun _ hk => hk.2) (.int .i64 t274)) (fun _ hk => hk.2) (.slice Ao49 t275.length co49)) (fun _ hk => hk.1.2)⟩, ⟨by (with_reducible repeat (first | refine blk_drewN ?_ _ | refine blk_drew ?_ | refine blk_alloc ?_ _)); refine blk_far ?_ NB262_278.out _; (with_reducible repeat (first | refine blk_drewN ?_ _ | refine blk_drew ?_ | refine blk_alloc ?_ _)); refine blk_far ?_ NB262_278.out _; (with_reducible repeat (first | refine blk_drewN ?_ _ | refine blk_drew ?_ | refine blk_alloc ?_ _)); exact BK262.out⟩, ⟨by (with_reducible repeat (first | refine blk_drewN ?_ _ | refine blk_drew ?_ | refine blk_alloc ?_ _)); refine blk_far ?_ NB263_278.out _; (with_reducible repeat (first | refine blk_drewN ?_ _ | refine blk_drew ?_ | refine blk_alloc ?_ _)); refine blk_far ?_ NB263_278.out _; (with_reducible repeat (first | refine blk_drewN ?_ _ | refine blk_drew ?_ | refine blk_alloc ?_ _)); exact BK263.out⟩, ⟨by (with_reducible repeat (first | refine blk_drewN ?_ _ | refine blk_drew ?_ | refine blk_alloc ?_ _)); refine blk_far ?_ NB268_278.out _; (with_reducible repeat (first | refine blk_drewN ?_ _ | refine blk_drew ?_ | refine blk_alloc ?_ _)); refine blk_far ?_ NB268_278.out _; (with_reducible repeat (first | refine blk_drewN ?_ _ | refine blk_drew ?_ | refine blk_alloc ?_ _)); exact BK268.out⟩, ⟨by (with_reducible repeat (first | refine blk_drewN ?_ _ | refine blk_drew ?_ | refine blk_alloc ?_ _)); refine blk_put (cs := #[.int .i64 t274, .slice none 0 0]) ?_ 1 _ rfl; (with_reducible repeat (first | refine blk_drewN ?_ _ | refine blk_drew ?_ | refine blk_alloc ?_ _)); refine blk_put (cs := #[.int .i64 0, .slice none 0 0]) ?_ 0 _ rfl; (with_reducible repeat (first | refine blk_drewN ?_ _ | refine blk_drew ?_ | refine blk_alloc ?_ _)); exact BK278.out⟩, ⟨by repeat (first | (with_reducible first | exact HB.out | apply below_alloc | apply pw_below_drewN | apply below_drew1 | refine below_set ?_ GE262.out | refine below_set ?_ GE263.out | refine below_set ?_ GE268.out | refine below_set ?_ GE278.out) | exact HB.out)⟩⟩
            · rw [if_neg c84] at H
              have c84b0 : (a1 == 4) = false := beq_eq_false_iff_ne.mpr c84
              have c84b1 : (a1 != 4) = true := bne_iff_ne.mpr c84
              have H' := Aside0.mk H
              clear H
              go_wp2
              go_meet
              case rel => exact ⟨_, (false), (by first | rfl | (simp; done) | (simp [*]; done)), H', ⟨by first | omega | exact Nat.le_refl _⟩, ⟨by (with_reducible repeat (first | apply Kd.R_alloc | apply Kd.R_drewN | apply Kd.R_drew)); exact Kd.R_mono (Kd.R_far (p := ⟨gb278, 1, none⟩) (Kd.R_far (p := ⟨gb278, 0, none⟩) (Kd.R_types HO267.out BK278.out (by decide)) (fun _ hk => hk.2) (.int .i64 t274)) (fun _ hk => hk.2) (.slice Ao49 t275.length co49)) (fun _ hk => hk.1.2)⟩, ⟨by (with_reducible repeat (first | apply Kd.R_alloc | apply Kd.R_drewN | apply Kd.R_drew)); exact Kd.R_mono (Kd.R_far (p := ⟨gb278, 1, none⟩) (Kd.R_far (p := ⟨gb278, 0, none⟩) (Kd.R_types HO277.out BK278.out (by decide)) (fun _ hk => hk.2) (.int .i64 t274)) (fun _ hk => hk.2) (.slice Ao49 t275.length co49)) (fun _ hk => hk.1.2)⟩, ⟨by (with_reducible repeat (first | refine blk_drewN ?_ _ | refine blk_drew ?_ | refine blk_alloc ?_ _)); refine blk_far ?_ NB262_278.out _; (with_reducible repeat (first | refine blk_drewN ?_ _ | refine blk_drew ?_ | refine blk_alloc ?_ _)); refine blk_far ?_ NB262_278.out _; (with_reducible repeat (first | refine blk_drewN ?_ _ | refine blk_drew ?_ | refine blk_alloc ?_ _)); exact BK262.out⟩, ⟨by (with_reducible repeat (first | refine blk_drewN ?_ _ | refine blk_drew ?_ | refine blk_alloc ?_ _)); refine blk_far ?_ NB263_278.out _; (with_reducible repeat (first | refine blk_drewN ?_ _ | refine blk_drew ?_ | refine blk_alloc ?_ _)); refine blk_far ?_ NB263_278.out _; (with_reducible repeat (first | refine blk_drewN ?_ _ | refine blk_drew ?_ | refine blk_alloc ?_ _)); exact BK263.out⟩, ⟨by (with_reducible repeat (first | refine blk_drewN ?_ _ | refine blk_drew ?_ | refine blk_alloc ?_ _)); refine blk_far ?_ NB268_278.out _; (with_reducible repeat (first | refine blk_drewN ?_ _ | refine blk_drew ?_ | refine blk_alloc ?_ _)); refine blk_far ?_ NB268_278.out _; (with_reducible repeat (first | refine blk_drewN ?_ _ | refine blk_drew ?_ | refine blk_alloc ?_ _)); exact BK268.out⟩, ⟨by (with_reducible repeat (first | refine blk_drewN ?_ _ | refine blk_drew ?_ | refine blk_alloc ?_ _)); refine blk_put (cs := #[.int .i64 t274, .slice none 0 0]) ?_ 1 _ rfl; (with_reducible repeat (first | refine blk_drewN ?_ _ | refine blk_drew ?_ | refine blk_alloc ?_ _)); refine blk_put (cs := #[.int .i64 0, .slice none 0 0]) ?_ 0 _ rfl; (with_reducible repeat (first | refine blk_drewN ?_ _ | refine blk_drew ?_ | refine blk_alloc ?_ _)); exact BK278.out⟩, ⟨by repeat (first | (with_reducible first | exact HB.out | apply below_alloc | apply pw_below_drewN | apply below_drew1 | refine below_set ?_ GE262.out | refine below_set ?_ GE263.out | refine below_set ?_ GE268.out | refine below_set ?_ GE278.out) | exact HB.out)⟩⟩
    case rest =>
      clear HC27
      try clear c1
      try clear p2
      try clear c3
      try clear c4
      try clear c5
      try clear c6
      try clear c6b0
      try clear p6
      try clear c7
      try clear c8
      try clear c10
      try clear c14
      try clear c15
      try clear c30
      try clear c34
      try clear c35
      try clear c45
      try clear c46
      try clear c47
      try clear c50
      try clear c50b0
      try clear c50b1
      try clear c52
      try clear c52b0
      try clear c52b1
      try clear c53
      try clear c53b0
      try clear c54
      try clear c55
      try clear c56
      try clear c57
      try clear c60
      try clear c61
      try clear c62
      try clear p64
      try clear c65
      try clear c66
      try clear c69
      try clear c70
      try clear c71
      try clear c74
      try clear c74b0
      try clear c74b1
      try clear c75
      try clear c76
      try clear c77
      try clear c79
      try clear c79b0
      try clear c79b1
      try clear c80
      try clear c81
      try clear c82
      try clear c84
      try clear c84b0
      try clear c84b1
      try clear hcz11_0
      try clear hcz11_1
      try clear hcz11_2
      try clear hcz16_0
      try clear hcz16_1
      try clear hcz21_0
      try clear hcz21_1
      try clear hcz21_2
      try clear hcz22_0
      try clear hcz22_1
      try clear hcz24_0
      try clear hcz24_1
      try clear hcz31_0
      try clear hcz31_1
      try clear hcz31_2
      try clear hcz36_0
      try clear hcz36_1
      try clear hcz41_0
      try clear hcz41_1
      try clear hcz41_2
      try clear hcz42_0
      try clear hcz42_1
      try clear hcz48_0
      try clear hcz48_1
      try clear hcz57_0
      try clear hcz57_1
      try clear hcz63_0
      try clear hcz63_1
      try clear hcz67_0
      try clear hcz67_1
      try clear hcz72_0
      try clear hcz72_1
      try clear hcz78_0
      try clear hcz78_1
      try clear hcz78_2
      try clear hcz83_0
      try clear hcz83_1
      try clear hcz83_2
      try clear hfz11_0
      try clear hfz11_1
      try clear hfz11_2
      try clear hfz16_0
      try clear hfz16_1
      try clear hfz21_0
      try clear hfz21_1
      try clear hfz21_2
      try clear hfz22_0
      try clear hfz22_1
      try clear hfz24_0
      try clear hfz24_1
      try clear hfz31_0
      try clear hfz31_1
      try clear hfz31_2
      try clear hfz36_0
      try clear hfz36_1
      try clear hfz41_0
      try clear hfz41_1
      try clear hfz41_2
      try clear hfz42_0
      try clear hfz42_1
      try clear hfz48_0
      try clear hfz48_1
      try clear hfz57_0
      try clear hfz57_1
      try clear hfz63_0
      try clear hfz63_1
      try clear hfz67_0
      try clear hfz67_1
      try clear hfz72_0
      try clear hfz72_1
      try clear hfz78_0
      try clear hfz78_1
      try clear hfz78_2
      try clear hfz83_0
      try clear hfz83_1
      try clear hfz83_2
      obtain ⟨kq, x11_26, rfl, HA, HJ26, HO_269001, HO_279001, BK262, BK263, BK268, BK278, HB⟩ := hcut
      cases kq with
      | zero => exact absurd HA.out (by simp [spec_l03Multiple.j0])
      | succ kj26 =>
        have H := HA.out
        clear HA
        simp only [spec_l03Multiple.j0] at H
        by_cases c85 : x11_26 = true
        · subst c85
          have H1 : ((spec_l02Of.f kj26 1).bind fun bt281 => ((spec_l02Add.f kj26 t274 t275 bt281.1 bt281.2).bind fun bt285 => (some (bt285.1, bt285.2, ji5, false)))) = some (r1, r2, r3, r4) := by rw [if_pos rfl] at H; exact H
          clear H
          have H := H1
          clear H1
          replace H := Option.bind_eq_some_iff.mp H
          obtain ⟨⟨t281, t282⟩, A860, H⟩ := H
          replace H : ((spec_l02Add.f kj26 t274 t275 t281 t282).bind fun bt285 => (some (bt285.1, bt285.2, ji5, false))) = some (r1, r2, r3, r4) := H
          have A86 := Aside0.mk A860
          clear A860
          replace H := Option.bind_eq_some_iff.mp H
          obtain ⟨⟨t285, t286⟩, A870, H⟩ := H
          replace H : (some (t285, t286, ji5, false)) = some (r1, r2, r3, r4) := H
          have A87 := Aside0.mk A870
          clear A870
          simp only [Option.some.injEq, Prod.mk.injEq] at H
          obtain ⟨rfl, rfl, rfl, rfl⟩ := H
          try go_wp2
          have n0_ := Aside0.mk (Kd.R_drew HO_269001.out)
          have n1_ := Aside0.mk (Kd.R_drew HO_279001.out)
          have n2_ := Aside0.mk (blk_drew BK262.out)
          have n3_ := Aside0.mk (blk_drew BK263.out)
          have n4_ := Aside0.mk (blk_drew BK268.out)
          have n5_ := Aside0.mk (blk_drew BK278.out)
          have n6_ := Aside0.mk (below_drew1 HB.out)
          clear HO_269001
          clear HO_279001
          clear BK262
          clear BK263
          clear BK268
          clear BK278
          clear HB
          have HO_269001 := n0_
          have HO_279001 := n1_
          have BK262 := n2_
          have BK263 := n3_
          have BK268 := n4_
          have BK278 := n5_
          have HB := n6_
          clear n0_ n1_ n2_ n3_ n4_ n5_ n6_
          refine start_ (n := 4) (S := fun w' => w'.cell? ⟨gb278, 0, none⟩ = some (.int .i64 t274) ∧ w'.cell? ⟨gb278, 1, none⟩ = some (.slice Ao49 t275.length co49)) (ds := [3]) #[false, false, false, false] (by kernel_rfl) rfl rfl ⟨(blk_cell BK278.out 0).trans rfl, (blk_cell BK278.out 1).trans rfl⟩ (fun hHeld => ?_)
          generalize wc.drew = w88 at HO_269001 HO_279001 BK262 BK263 BK268 BK278 HB hHeld ⊢
          refine take_ (i := 0) (N := some 68) (v := ?_) (a' := ?_) #[true, false, false, false] rfl rfl (by kernel_rfl) (fun _ _ _ h => h) (Or.inl ⟨by rfl, ?_⟩) hHeld ?_ ?_
          rotate_left
          · rintro w' ⟨s0, s1⟩
            go_simp
            with_reducible rfl
          rotate_left
          · simp only [Act.put, List.setIfInBounds_toArray, List.set_cons_zero, List.set_cons_succ, i64_w, i32_w]
            rfl
          refine one_ (i := 1) (N := some 69) #[true, true, false, false] rfl rfl (by kernel_rfl) (by decide) (fun K hK => ?_)
          refine goes_ Try.func92 (by kernel_rfl) rfl #[.int .i64 1] (by rfl) rfl rfl (by (try simp only [List.map_toArray, List.map_cons, List.map_nil]); first | done | rfl | (simp only [List.length_drop, List.length_take]; rfl)) ?_
          with_reducible refine (spec_l02Of.calls kj26 1 t281 t282 _ A86.out).mono ?_
          rintro e w89 ⟨v283, rfl, ho0, hb⟩
          refine ⟨_, rfl, ?_⟩
          have n0_ := Aside0.mk (Kd.R_elder' (by (with_reducible repeat (first | apply Kd.R_alloc | apply Kd.R_drewN | apply Kd.R_drew)); exact HO_269001.out) (Kd.R_base ho0) hb)
          have n1_ := Aside0.mk (Kd.R_elder' (by (with_reducible repeat (first | apply Kd.R_alloc | apply Kd.R_drewN | apply Kd.R_drew)); exact HO_279001.out) (Kd.R_base ho0) hb)
          have n2_ := Aside0.mk (Kd.R_lower (Kd.R_new' (Kd.R_new' ho0 (Kd.R_lt (by (with_reducible repeat (first | apply Kd.R_alloc | apply Kd.R_drewN | apply Kd.R_drew)); exact HO_269001.out))) (Kd.R_lt (by (with_reducible repeat (first | apply Kd.R_alloc | apply Kd.R_drewN | apply Kd.R_drew)); exact HO_279001.out))) (below_size (by repeat (first | (with_reducible first | exact HB.out | apply below_alloc | apply pw_below_drewN | apply below_drew1 | refine below_set ?_ GE262.out | refine below_set ?_ GE263.out | refine below_set ?_ GE268.out | refine below_set ?_ GE278.out) | exact HB.out))))
          have n3_ := Aside0.mk (blk_below (g := gb262) (o := .cells #[.int .i64 a0_0, .slice A0_1 l0_1.length c0_1, .int .i64 a0_2] 33 (0, 0)) (by (with_reducible repeat (first | refine blk_drewN ?_ _ | refine blk_drew ?_ | refine blk_alloc ?_ _)); exact BK262.out) hb)
          have n4_ := Aside0.mk (blk_below (g := gb263) (o := .cells #[.int .i64 0, .slice none 0 0] 31 (0, 0)) (by (with_reducible repeat (first | refine blk_drewN ?_ _ | refine blk_drew ?_ | refine blk_alloc ?_ _)); exact BK263.out) hb)
          have n5_ := Aside0.mk (blk_below (g := gb268) (o := .cells #[.int .i64 t264, .slice Ao37 t265.length co37] 31 (0, 0)) (by (with_reducible repeat (first | refine blk_drewN ?_ _ | refine blk_drew ?_ | refine blk_alloc ?_ _)); exact BK268.out) hb)
          have n6_ := Aside0.mk (blk_below (g := gb278) (o := .cells #[.int .i64 t274, .slice Ao49 t275.length co49] 31 (0, 0)) (by (with_reducible repeat (first | refine blk_drewN ?_ _ | refine blk_drew ?_ | refine blk_alloc ?_ _)); exact BK278.out) hb)
          have n7_ := Aside0.mk (below_step (by repeat (first | (with_reducible first | exact HB.out | apply below_alloc | apply pw_below_drewN | apply below_drew1 | refine below_set ?_ GE262.out | refine below_set ?_ GE263.out | refine below_set ?_ GE268.out | refine below_set ?_ GE278.out) | exact HB.out)) hb)
          clear HO_269001
          clear HO_279001
          clear BK262
          clear BK263
          clear BK268
          clear BK278
          clear HB
          have HO_269001 := n0_
          have HO_279001 := n1_
          have HO284 := n2_
          have BK262 := n3_
          have BK263 := n4_
          have BK268 := n5_
          have BK278 := n6_
          have HB := n7_
          clear n0_ n1_ n2_ n3_ n4_ n5_ n6_ n7_
          (try clear hb)
          (try clear hb2)
          (try clear hk)
          (try clear hi)
          (try clear ho0)
          obtain ⟨Ao90, co90, eo90⟩ := Kd.R_slice HO284.out
          (first | subst eo90 | (injection eo90 with f1_ f2_ f3_; have f4_ := f1_.symm; have f5_ := f3_.symm; clear f1_ f2_ f3_; subst f4_; subst f5_))
          refine hK.out _ _ ⟨(blk_cell BK278.out 0).trans rfl, (blk_cell BK278.out 1).trans rfl⟩ (fun hHeld => ?_)
          clear hK K
          refine norm_ (a' := ?_) ?_ ?_
          rotate_left
          · show Act.put _ (some 69) _ = _
            simp only [Act.put, List.setIfInBounds_toArray, List.set_cons_zero, List.set_cons_succ, i64_w, i32_w]
            rfl
          refine one_ (i := 2) (N := some 70) #[true, true, true, false] rfl rfl (by kernel_rfl) (by decide) (fun K hK => ?_)
          refine goes_ Try.func105 (by kernel_rfl) rfl #[.agg #[.int .i64 t274, .slice Ao49 t275.length co49], .agg #[.int .i64 t281, .slice Ao90 t282.length co90]] (by rfl) rfl rfl (by (try simp only [List.map_toArray, List.map_cons, List.map_nil]); first | done | rfl | (simp only [List.length_drop, List.length_take]; rfl)) ?_
          with_reducible refine (spec_l02Add.calls kj26 t274 _ _ t275 t281 _ _ t282 t285 t286 _ ?side1 ?side2 ?side3 ?side4 A87.out).mono ?_
          (case side1 => repeat (first | exact (Kd.R_reads' HO_279001.out).2.2 | (with_reducible refine Kd.C_alloc ?_ _) | (with_reducible refine Kd.C_drewN ?_ _) | (with_reducible refine Kd.C_drew ?_)))
          (case side2 => exact (Kd.R_reads' HO_279001.out).2.1)
          (case side3 => repeat (first | exact (Kd.R_reads' HO284.out).2.2 | (with_reducible refine Kd.C_alloc ?_ _) | (with_reducible refine Kd.C_drewN ?_ _) | (with_reducible refine Kd.C_drew ?_)))
          (case side4 => exact (Kd.R_reads' HO284.out).2.1)
          rintro e w91 ⟨v287, rfl, ho0, hb⟩
          refine ⟨_, rfl, ?_⟩
          have n0_ := Aside0.mk (Kd.R_elder' (by (with_reducible repeat (first | apply Kd.R_alloc | apply Kd.R_drewN | apply Kd.R_drew)); exact HO_269001.out) (Kd.R_base ho0) hb)
          have n1_ := Aside0.mk (Kd.R_elder' (by (with_reducible repeat (first | apply Kd.R_alloc | apply Kd.R_drewN | apply Kd.R_drew)); exact HO_279001.out) (Kd.R_base ho0) hb)
          have n2_ := Aside0.mk (Kd.R_elder' (by (with_reducible repeat (first | apply Kd.R_alloc | apply Kd.R_drewN | apply Kd.R_drew)); exact HO284.out) (Kd.R_base ho0) hb)
          have n3_ := Aside0.mk (Kd.R_lower (Kd.R_new' (Kd.R_new' (Kd.R_new' ho0 (Kd.R_lt (by (with_reducible repeat (first | apply Kd.R_alloc | apply Kd.R_drewN | apply Kd.R_drew)); exact HO_269001.out))) (Kd.R_lt (by (with_reducible repeat (first | apply Kd.R_alloc | apply Kd.R_drewN | apply Kd.R_drew)); exact HO_279001.out))) (Kd.R_lt (by (with_reducible repeat (first | apply Kd.R_alloc | apply Kd.R_drewN | apply Kd.R_drew)); exact HO284.out))) (below_size (by repeat (first | (with_reducible first | exact HB.out | apply below_alloc | apply pw_below_drewN | apply below_drew1 | refine below_set ?_ GE262.out | refine below_set ?_ GE263.out | refine below_set ?_ GE268.out | refine below_set ?_ GE278.out) | exact HB.out))))
          have n4_ := Aside0.mk (blk_below (g := gb262) (o := .cells #[.int .i64 a0_0, .slice A0_1 l0_1.length c0_1, .int .i64 a0_2] 33 (0, 0)) (by (with_reducible repeat (first | refine blk_drewN ?_ _ | refine blk_drew ?_ | refine blk_alloc ?_ _)); exact BK262.out) hb)
          have n5_ := Aside0.mk (blk_below (g := gb263) (o := .cells #[.int .i64 0, .slice none 0 0] 31 (0, 0)) (by (with_reducible repeat (first | refine blk_drewN ?_ _ | refine blk_drew ?_ | refine blk_alloc ?_ _)); exact BK263.out) hb)
          have n6_ := Aside0.mk (blk_below (g := gb268) (o := .cells #[.int .i64 t264, .slice Ao37 t265.length co37] 31 (0, 0)) (by (with_reducible repeat (first | refine blk_drewN ?_ _ | refine blk_drew ?_ | refine blk_alloc ?_ _)); exact BK268.out) hb)
          have n7_ := Aside0.mk (blk_below (g := gb278) (o := .cells #[.int .i64 t274, .slice Ao49 t275.length co49] 31 (0, 0)) (by (with_reducible repeat (first | refine blk_drewN ?_ _ | refine blk_drew ?_ | refine blk_alloc ?_ _)); exact BK278.out) hb)
          have n8_ := Aside0.mk (below_step (by repeat (first | (with_reducible first | exact HB.out | apply below_alloc | apply pw_below_drewN | apply below_drew1 | refine below_set ?_ GE262.out | refine below_set ?_ GE263.out | refine below_set ?_ GE268.out | refine below_set ?_ GE278.out) | exact HB.out)) hb)
          clear HO_269001
          clear HO_279001
          clear HO284
          clear BK262
          clear BK263
          clear BK268
          clear BK278
          clear HB
          have HO_269001 := n0_
          have HO_279001 := n1_
          have HO284 := n2_
          have HO288 := n3_
          have BK262 := n4_
          have BK263 := n5_
          have BK268 := n6_
          have BK278 := n7_
          have HB := n8_
          clear n0_ n1_ n2_ n3_ n4_ n5_ n6_ n7_ n8_
          (try clear hb)
          (try clear hb2)
          (try clear hk)
          (try clear hi)
          (try clear ho0)
          obtain ⟨Ao93, co93, eo93⟩ := Kd.R_slice HO288.out
          (first | subst eo93 | (injection eo93 with f1_ f2_ f3_; have f4_ := f1_.symm; have f5_ := f3_.symm; clear f1_ f2_ f3_; subst f4_; subst f5_))
          refine hK.out _ _ ⟨(blk_cell BK278.out 0).trans rfl, (blk_cell BK278.out 1).trans rfl⟩ (fun hHeld => ?_)
          clear hK K
          refine norm_ (a' := ?_) ?_ ?_
          rotate_left
          · show Act.put _ (some 70) _ = _
            simp only [Act.put, List.setIfInBounds_toArray, List.set_cons_zero, List.set_cons_succ, i64_w, i32_w]
            rfl
          refine last_ (i := 3) (N := none) #[true, true, true, true] rfl rfl (by kernel_rfl) (by decide) (fun K hK => ?_)
          have hs92 : w91.cell? ⟨gb278, 0, none⟩ = some (.int .i64 t274) := (blk_cell BK278.out 0).trans rfl
          have hfs92 := blk_frozen BK278.out 0
          have hns92_0 := NB262_278.out
          have hns92_1 := NB263_278.out
          have hns92_2 := NB268_278.out
          have hms92_0 := NB278_262.out
          have hms92_1 := NB278_263.out
          have hms92_2 := NB278_268.out
          have hs94 : w91.cell? ⟨gb278, 1, none⟩ = some (.slice Ao49 t275.length co49) := (blk_cell BK278.out 1).trans rfl
          have hfs94 := blk_frozen BK278.out 1
          have hns94_0 := NB262_278.out
          have hns94_1 := NB263_278.out
          have hns94_2 := NB268_278.out
          have hms94_0 := NB278_262.out
          have hms94_1 := NB278_263.out
          have hms94_2 := NB278_268.out
          refine skip_ (w1 := ?_) (by rfl) rfl ?_ ?_
          rotate_left
          · go_simp
            rfl
          refine hK.out _ _ ?_
          clear hK K
          refine done_ (by kernel_rfl) ?_
          have hnb95 := NB278_262.out
          have hnc95 := NB262_278.out
          have hnb96 := NB278_263.out
          have hnc96 := NB263_278.out
          have hnb97 := NB278_268.out
          have hnc97 := NB268_278.out
          have hcz98_0 : w91.cell? ⟨gb278, 0, none⟩ = some (.int .i64 t274) := (blk_cell BK278.out 0).trans rfl
          have hcz98_1 : w91.cell? ⟨gb278, 1, none⟩ = some (.slice Ao49 t275.length co49) := (blk_cell BK278.out 1).trans rfl
          have hfz98_0 := blk_frozen BK278.out 0
          have hfz98_1 := blk_frozen BK278.out 1
          have hnb99 := NB263_262.out
          have hnc99 := NB262_263.out
          have hnb100 := NB263_268.out
          have hnc100 := NB268_263.out
          have hcz101_0 : w91.cell? ⟨gb263, 0, none⟩ = some (.int .i64 0) := (blk_cell BK263.out 0).trans rfl
          have hcz101_1 : w91.cell? ⟨gb263, 1, none⟩ = some (.slice none 0 0) := (blk_cell BK263.out 1).trans rfl
          have hfz101_0 := blk_frozen BK263.out 0
          have hfz101_1 := blk_frozen BK263.out 1
          try go_wp2
          refine bodyPost_ret (results_ctt rfl _ _ gb263 31 #[.int .i64 t285, .slice Ao93 t286.length co93] (0, 0) _ rfl (by (with_reducible repeat (first | refine blk_drewN ?_ _ | refine blk_drew ?_ | refine blk_alloc ?_ _)); refine blk_put (cs := #[.int .i64 t285, .slice none 0 0]) ?_ 1 _ rfl; (with_reducible repeat (first | refine blk_drewN ?_ _ | refine blk_drew ?_ | refine blk_alloc ?_ _)); refine blk_put (cs := #[.int .i64 0, .slice none 0 0]) ?_ 0 _ rfl; (with_reducible repeat (first | refine blk_drewN ?_ _ | refine blk_drew ?_ | refine blk_alloc ?_ _)); refine blk_far ?_ NB263_278.out _; (with_reducible repeat (first | refine blk_drewN ?_ _ | refine blk_drew ?_ | refine blk_alloc ?_ _)); refine blk_far ?_ NB263_278.out _; (with_reducible repeat (first | refine blk_drewN ?_ _ | refine blk_drew ?_ | refine blk_alloc ?_ _)); exact BK263.out) Try.underlying31 rfl (by kernel_rfl)) rfl ?_
          exact ⟨_, by first | rfl | (simp [errW_none, errW_some] <;> rfl) | (simp only [← hji5]; first | rfl | (simp [errW_none, errW_some] <;> rfl)) | (simp [*, errW_none, errW_some] <;> rfl), by (with_reducible repeat (first | apply Kd.R_alloc | apply Kd.R_drewN | apply Kd.R_drew)); exact Kd.R_mono (Kd.R_far (p := ⟨gb263, 1, none⟩) (Kd.R_far (p := ⟨gb263, 0, none⟩) (Kd.R_far (p := ⟨gb278, 1, none⟩) (Kd.R_far (p := ⟨gb278, 0, none⟩) (Kd.R_types (Kd.R_types HO288.out BK278.out (by decide)) BK263.out (by decide)) (fun _ hk => hk.1.2) (.int .i64 t285)) (fun _ hk => hk.1.2) (.slice Ao93 t286.length co93)) (fun _ hk => hk.2) (.int .i64 t285)) (fun _ hk => hk.2) (.slice Ao93 t286.length co93)) (fun _ hk => trivial), by repeat (first | (with_reducible first | exact HB.out | apply below_alloc | apply pw_below_drewN | apply below_drew1 | refine below_set ?_ GE262.out | refine below_set ?_ GE263.out | refine below_set ?_ GE268.out | refine below_set ?_ GE278.out) | exact HB.out)⟩
        · replace c85 := Bool.eq_false_iff.mpr c85
          subst c85
          have H1 : (some (t274, t275, ji5, false)) = some (r1, r2, r3, r4) := by rw [if_neg (show ¬ (false = true) by decide)] at H; exact H
          clear H
          have H := H1
          clear H1
          simp only [Option.some.injEq, Prod.mk.injEq] at H
          obtain ⟨rfl, rfl, rfl, rfl⟩ := H
          have hnb102 := NB278_262.out
          have hnc102 := NB262_278.out
          have hnb103 := NB278_263.out
          have hnc103 := NB263_278.out
          have hnb104 := NB278_268.out
          have hnc104 := NB268_278.out
          have hcz105_0 : wc.cell? ⟨gb278, 0, none⟩ = some (.int .i64 t274) := (blk_cell BK278.out 0).trans rfl
          have hcz105_1 : wc.cell? ⟨gb278, 1, none⟩ = some (.slice Ao49 t275.length co49) := (blk_cell BK278.out 1).trans rfl
          have hfz105_0 := blk_frozen BK278.out 0
          have hfz105_1 := blk_frozen BK278.out 1
          have hnb106 := NB263_262.out
          have hnc106 := NB262_263.out
          have hnb107 := NB263_268.out
          have hnc107 := NB268_263.out
          have hcz108_0 : wc.cell? ⟨gb263, 0, none⟩ = some (.int .i64 0) := (blk_cell BK263.out 0).trans rfl
          have hcz108_1 : wc.cell? ⟨gb263, 1, none⟩ = some (.slice none 0 0) := (blk_cell BK263.out 1).trans rfl
          have hfz108_0 := blk_frozen BK263.out 0
          have hfz108_1 := blk_frozen BK263.out 1
          go_wp2
          refine bodyPost_ret (results_ctt rfl _ _ gb263 31 #[.int .i64 t274, .slice Ao49 t275.length co49] (0, 0) _ rfl (by (with_reducible repeat (first | refine blk_drewN ?_ _ | refine blk_drew ?_ | refine blk_alloc ?_ _)); refine blk_put (cs := #[.int .i64 t274, .slice none 0 0]) ?_ 1 _ rfl; (with_reducible repeat (first | refine blk_drewN ?_ _ | refine blk_drew ?_ | refine blk_alloc ?_ _)); refine blk_put (cs := #[.int .i64 0, .slice none 0 0]) ?_ 0 _ rfl; (with_reducible repeat (first | refine blk_drewN ?_ _ | refine blk_drew ?_ | refine blk_alloc ?_ _)); exact BK263.out) Try.underlying31 rfl (by kernel_rfl)) rfl ?_
          exact ⟨_, by first | rfl | (simp [errW_none, errW_some] <;> rfl) | (simp only [← hji5]; first | rfl | (simp [errW_none, errW_some] <;> rfl)) | (simp [*, errW_none, errW_some] <;> rfl), by (with_reducible repeat (first | apply Kd.R_alloc | apply Kd.R_drewN | apply Kd.R_drew)); exact Kd.R_mono (Kd.R_far (p := ⟨gb263, 1, none⟩) (Kd.R_far (p := ⟨gb263, 0, none⟩) (Kd.R_types HO_279001.out BK263.out (by decide)) (fun _ hk => hk.2) (.int .i64 t274)) (fun _ hk => hk.2) (.slice Ao49 t275.length co49)) (fun _ hk => trivial), by repeat (first | (with_reducible first | exact HB.out | apply below_alloc | apply pw_below_drewN | apply below_drew1 | refine below_set ?_ GE262.out | refine below_set ?_ GE263.out | refine below_set ?_ GE268.out | refine below_set ?_ GE278.out) | exact HB.out)⟩
end Go.Proofs.Ytjddhnjjeomfjaa.PW
end
section
namespace Go.Proofs.Ytjddhnjjeomfjaa.Ps
open Go.RowKit Go.Proofs.YtjddhnjjeomfjaaW.PrintWords Go.Proofs.Ytjddhnjjeomfjaa.PW Go.Proofs.Ytjddhnjjeomfjaa.Pb Go.Proofs.Ytjddhnjjeomfjaa.Pc Go.Proofs.Ytjddhnjjeomfjaa.Pm Go.Proofs.Ytjddhnjjeomfjaa.Pw Dg
set_option linter.unusedVariables false
set_option linter.unusedSimpArgs false
theorem slength_loop : ∀ (m : Nat) (d : Nat), bl d = m → d < 16777216 → ∀ n : Nat, n + m ≤ 1099511627776 → Ev (fun k => spec_l02Length.l0 k (n : Int) (d : Int)) ((n + bl d : Nat) : Int) := by
  intro m
  induction m with
  | zero =>
    intro d hd _ n hn
    have := bl_eq_zero.1 hd
    subst this
    refine Ev.step (f := fun _ => some (n : Int)) (fun k => ?_) (ev_of fun _ => by rw [bl_zero]; rfl)
    simp only [spec_l02Length.l0]
    rw [if_neg (by omega)]
  | succ m ih =>
    intro d hd hlt n hn
    have h0 : d ≠ 0 := by intro h; subst h; rw [bl_zero] at hd; omega
    have hh := bl_half h0
    have e : Int.tdiv (d : Int) 2 = ((d / 2 : Nat) : Int) := by rw [Int.tdiv_eq_ediv_of_nonneg (by omega)]; rfl
    refine Ev.step (f := fun k => spec_l02Length.l0 k ((n + 1 : Nat) : Int) ((d / 2 : Nat) : Int)) (fun k => ?_) ?_
    · simp only [spec_l02Length.l0]
      rw [if_pos (by omega), e, wrapZ _ (by omega) (by omega), wrapZ _ (by omega) (by omega)]
      rfl
    · have := ih (d / 2) (by omega) (by omega) (n + 1) (by omega)
      rw [show n + bl d = n + 1 + bl (d / 2) by omega]
      exact this
theorem slength (s : Int) (n : Nat) (hb : bl n ≤ 1073741824) : Ev (fun k => spec_l02Length.f k s (L n)) ((bl n : Nat) : Int) := by
  unfold spec_l02Length.f
  have hl := L_len n
  by_cases h : n = 0
  · subst h
    exact ifp (by rw [L_zero]; rfl) (ev_of fun _ => rfl)
  · have hp := L_pos h
    obtain ⟨d, hd, h1, h2, h3⟩ := L_last h
    have e1 : wrap64 (((L n).length : Int) - 1) = (((L n).length - 1 : Nat) : Int) := by rw [wrapZ _ (by omega) (by omega)]; omega
    refine ifn (by omega) ?_
    rw [e1]
    refine ifp (by omega) (ifp (by omega) ?_)
    rw [rdN, hd, wrapZ _ (by omega) (by omega), h3]
    have := slength_loop (bl d) d rfl h2 (24 * ((L n).length - 1)) (by omega)
    rw [show ((24 * ((L n).length - 1) : Nat) : Int) = (((L n).length - 1 : Nat) : Int) * 24 by omega] at this
    exact this
end Go.Proofs.Ytjddhnjjeomfjaa.Ps
end
section
namespace Go.Proofs.Ytjddhnjjeomfjaa.PW
open Go.RowKit Go.Proofs.YtjddhnjjeomfjaaW.PrintWords Go.Proofs.YtjddhnjjeomfjaaW.PrintLast Go.Proofs.YtjddhnjjeomfjaaW.PrintMore
attribute [local go_sem] max2_int min2_int max_two min_two max_three min_three max_four min_four   -- for this text's walks alone
set_option linter.unusedVariables false
set_option linter.unusedSimpArgs false
def impl_isMode.f (a0 : Int) : Option (Bool) := if a0 ≥ 0 then (some (decide (a0 ≤ 4))) else (some false)
set_option maxHeartbeats 8000000 in
set_option maxRecDepth 100000 in
theorem impl_isMode.calls (a0 : Int) (r : Bool) (w : World) (h : impl_isMode.f a0 = some r) :
    Calls Try.prog 33 #[.int .i64 a0] w fun e w' => e = .returned (.bool r) ∧ Drawn0 w w' := by
  have H : (if a0 ≥ 0 then (some (decide (a0 ≤ 4))) else (some false)) = some r := h
  clear h
  by_cases c2 : a0 ≥ 0
  · rw [if_pos c2] at H
    have c2b0 : decide (0 ≤ a0) = true := decide_eq_true c2
    clear c2
    obtain rfl := Option.some.inj H
    go_enter Try.func33, Try.ntmps33
    go_wp2
    go_ret
    exact ⟨by first | rfl | (simp; done) | (simp [*]; done), by repeat (first | exact Drawn0.refl _ | apply Drawn0.step)⟩
  · rw [if_neg c2] at H
    have c2b0 : decide (0 ≤ a0) = false := decide_eq_false c2
    clear c2
    obtain rfl := Option.some.inj H
    go_enter Try.func33, Try.ntmps33
    go_wp2
    go_ret
    exact ⟨by first | rfl | (simp; done) | (simp [*]; done), by repeat (first | exact Drawn0.refl _ | apply Drawn0.step)⟩
end Go.Proofs.Ytjddhnjjeomfjaa.PW
end
section
namespace Go.Proofs.Ytjddhnjjeomfjaa.PW
open Go.RowKit Go.Proofs.YtjddhnjjeomfjaaW.PrintWords Go.Proofs.YtjddhnjjeomfjaaW.PrintLast Go.Proofs.YtjddhnjjeomfjaaW.PrintMore
attribute [local go_sem] max2_int min2_int max_two min_two max_three min_three max_four min_four   -- for this text's walks alone
set_option linter.unusedVariables false
set_option linter.unusedSimpArgs false
def spec_l03Mode.f (a0 : Int) : Option (Bool) := (spec_l01In.f a0 0 4).bind fun t113 => (some t113)
set_option maxHeartbeats 8000000 in
set_option maxRecDepth 100000 in
theorem spec_l03Mode.calls (a0 : Int) (r : Bool) (w : World) (h : spec_l03Mode.f a0 = some r) :
    Calls Try.prog 45 #[.int .i64 a0] w fun e w' => e = .returned (.bool r) ∧ Drawn0 w w' := by
  have H : ((spec_l01In.f a0 0 4).bind fun t113 => (some t113)) = some r := h
  clear h
  replace H := Option.bind_eq_some_iff.mp H
  obtain ⟨t113, A20, H⟩ := H
  replace H : (some t113) = some r := H
  have A2 := Aside0.mk A20
  clear A20
  obtain rfl := Option.some.inj H
  go_enter Try.func45, Try.ntmps45
  go_wp2_with (first | ((with_reducible refine gate_callee (f := 79) rfl ?_); refine goesL_ (some 4) rfl rfl Try.func79 (by kernel_rfl) rfl #[.int .i64 a0, .int .i64 0, .int .i64 4] rfl (by (try simp only [List.map_toArray, List.map_cons, List.map_nil]); first | done | rfl | (simp only [List.length_drop, List.length_take]; rfl)) ?_; (with_reducible refine (spec_l01In.calls a0 0 4 t113 _ A2.out).mono ?_); rintro e w' ⟨rfl, ⟨nd, rfl⟩⟩; refine ⟨_, rfl, ?_⟩))
  go_ret
  exact ⟨by first | rfl | (simp; done) | (simp [*]; done), by repeat (first | exact Drawn0.refl _ | apply Drawn0.step)⟩
end Go.Proofs.Ytjddhnjjeomfjaa.PW
end
section
namespace Go.Proofs.Ytjddhnjjeomfjaa.PW
open Go.RowKit Go.Proofs.YtjddhnjjeomfjaaW.PrintWords Go.Proofs.YtjddhnjjeomfjaaW.PrintLast Go.Proofs.YtjddhnjjeomfjaaW.PrintMore
attribute [local go_sem] max2_int min2_int max_two min_two max_three min_three max_four min_four   -- for this text's walks alone
set_option linter.unusedVariables false
set_option linter.unusedSimpArgs false
def spec_l03Code.f (k : Nat) (a0_0 : Int) (l0_1 : List Int) (a0_2 : Int) (a1 : Int) : Option (Int) := (spec_l03Is.f k a0_0 l0_1 a0_2).bind fun t115 => (if t115 = true then ((spec_l03Mode.f a1).bind fun t116 => (if t116 = true then (some 0) else (some 2))) else (some 1))
theorem spec_l03Code.mono : ∀ a0 a1 a2 a3 k, LeO (spec_l03Code.f k a0 a1 a2 a3) (spec_l03Code.f (k + 1) a0 a1 a2 a3) := by
  intro a0 a1 a2 a3 k
  unfold spec_l03Code.f
  repeat' first
      | (with_reducible exact spec_l03Is.mono _ _ _ _)
      | (with_reducible exact LeO.refl _)
      | (with_reducible exact LeO.none _)
      | (with_reducible refine LeO.ite ?_ ?_)
      | (with_reducible refine LeO.bind ?_ (fun _ => ?_))
      | exact spec_l03Is.mono _ _ _ _
      | exact LeO.none _
      | refine LeO.ite ?_ ?_
      | refine LeO.bind ?_ (fun _ => ?_)
end Go.Proofs.Ytjddhnjjeomfjaa.PW
end
