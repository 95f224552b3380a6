/- Lemmas of the claim: PWx6, PWx28, PWx53, PWx3, PWx41, PWx105, PWx106, PWx107, PWx108, PWx109, PWx110, PWx111, Px, Pt, Py, Pz, Ss, Pv, Pzs, St, Qa, Sm, Qb, Ps, PWx54, PWx7, PWx8, Lk. -/
import Derived.Test.YtjggbalhpflbbaaGreatQERh
import Derived.Test.YtjggbalhpflbbaaGreatQERi
import Derived.Test.YtjggbalhpflbbaaGreatQERa
section
namespace Go.Proofs.YtjggbalhpflbbaaGreat.PW
open Go.RowKit Go.Proofs.YtjggbalhpflbbaaGreatW.PrintWords Go.Proofs.YtjggbalhpflbbaaGreatW.PrintLast Go.Proofs.YtjggbalhpflbbaaGreatW.PrintMore
attribute [local go_sem] max2_int min2_int max_two min_two max_three min_three max_four min_four   -- for this text's walks alone
set_option linter.unusedVariables false
set_option linter.unusedSimpArgs false
def spec_l03Is.j0 : Nat → Bool → Int → List Int → Int → Option (Bool)
 | 0, _, _, _, _ => none
 | k + 1, x12, x110000, x110001, x110002 => if x12 = true then (some false) else (if x110000 = 0 then (some (x110002 == 0)) else (if 0 < (x110001.length : Int) then (some ((Int.tmod (rd x110001 0) 2) == 1)) else (none)))
def spec_l03Is.f (k : Nat) (a0_0 : Int) (l0_1 : List Int) (a0_2 : Int) : Option (Bool) := (spec_l02Is.f k a0_0 l0_1).bind fun t110 => (if t110 = true then ((spec_l01In.f a0_2 (-3000) 3000).bind fun t111 => (spec_l03Is.j0 k (!t111) a0_0 l0_1 a0_2)) else (spec_l03Is.j0 k true a0_0 l0_1 a0_2))
theorem spec_l03Is.mono_l : ∀ k, (∀ y0 y1 y2 y3, LeO (spec_l03Is.j0 k y0 y1 y2 y3) (spec_l03Is.j0 (k + 1) y0 y1 y2 y3))
 | 0 => fun _ _ _ _ r h => by simp [spec_l03Is.j0] at h
 | k + 1 => by
  have ih0 := spec_l03Is.mono_l k
  ·intro y0 y1 y2 y3
   unfold spec_l03Is.j0
   repeat' first
   | (with_reducible exact ih0 _ _ _ _)
   | (with_reducible exact spec_l02Is.mono _ _ _)
   | (with_reducible exact LeO.refl _)
   | (with_reducible exact LeO.none _)
   | (with_reducible refine LeO.ite ?_ ?_)
   | (with_reducible refine LeO.bind ?_ (fun _ => ?_))
   | exact ih0 _ _ _ _
   | exact spec_l02Is.mono _ _ _
   | exact LeO.none _
   | refine LeO.ite ?_ ?_
   | refine LeO.bind ?_ (fun _ => ?_)
theorem spec_l03Is.mono : ∀ a0 a1 a2 k, LeO (spec_l03Is.f k a0 a1 a2) (spec_l03Is.f (k + 1) a0 a1 a2) := by
 intro a0 a1 a2 k
 have ih0 := spec_l03Is.mono_l k
 unfold spec_l03Is.f
 repeat' first
   | (with_reducible exact ih0 _ _ _ _)
   | (with_reducible exact spec_l02Is.mono _ _ _)
   | (with_reducible exact LeO.refl _)
   | (with_reducible exact LeO.none _)
   | (with_reducible refine LeO.ite ?_ ?_)
   | (with_reducible refine LeO.bind ?_ (fun _ => ?_))
   | exact ih0 _ _ _ _
   | exact spec_l02Is.mono _ _ _
   | exact LeO.none _
   | refine LeO.ite ?_ ?_
   | refine LeO.bind ?_ (fun _ => ?_)
set_option maxHeartbeats 8000000 in
set_option maxRecDepth 100000 in
theorem spec_l03Is.calls (k : Nat) (a0_0 : Int) (A0_1 : Option Addr) (c0_1 : Nat) (l0_1 : List Int) (a0_2 : Int) (r : Bool) (w : World) (hr0_1 : Kd.C (Kd.int .i64) w A0_1 l0_1.length l0_1) (hc0_1 : l0_1.length ≤ c0_1) (h : spec_l03Is.f k a0_0 l0_1 a0_2 = some r) :
  Calls Tryz.prog 27 #[.agg #[.int .i64 a0_0, .slice A0_1 l0_1.length c0_1, .int .i64 a0_2]] w fun e w' => e = .returned (.bool r) ∧ Below w.heap.size w w' := by
 have hu30 := Tryz.underlying30
 have hu28 := Tryz.underlying28
 have HR0_1 := Azq.mk hr0_1
 have HC0_1 := Azq.mk hc0_1
 clear hr0_1 hc0_1
 have HB := Azq.mk (Below.refl w.heap.size w)
 have H : ((spec_l02Is.f k a0_0 l0_1).bind fun t110 => (if t110 = true then ((spec_l01In.f a0_2 (-3000) 3000).bind fun t111 => (spec_l03Is.j0 k (!t111) a0_0 l0_1 a0_2)) else (spec_l03Is.j0 k true a0_0 l0_1 a0_2))) = some r := h
 clear h
 have HC2 := Azq.mk H
 clear H
 go_enter Tryz.func27, Tryz.ntmps27
 go_upto_region 1 with (first | ((with_reducible refine gate_dst (N := 1) rfl ?_); refine box_event ?hg (N := 1) ?hd (cs := #[.int .i64 a0_0, .slice A0_1 l0_1.length c0_1, .int .i64 a0_2]) (t := 30) ?hr ?_; (case hd => rfl); (case hg => rfl); (case hr => first | (go_simp; done) | (go_simp; rfl)); intro gb109 hg w3 hbox hb; have n0_ := Azq.mk (wtq (by repeat (first | (with_reducible first | exact HB.out | apply waq | apply wdq | apply wrq) | exact HB.out)) hb); have n1_ := Azq.mk (hbox); have n2_ := Azq.mk ((by rw [hg]; exact (wzq (by repeat (first | (with_reducible first | exact HB.out | apply waq | apply wdq | apply wrq) | exact HB.out))) : w.heap.size ≤ gb109)); have n3_ := n2_; clear HB; have HB := n0_; have BK109 := n1_; have GW109 := n2_; have GE109 := n3_; clear n0_ n1_ n2_ n3_; clear hb hbox hg))
 (try simp only [Act.put, List.setIfInBounds_toArray, List.set_cons_zero, List.set_cons_succ])
 go_cut [12] (fun v12 wc => ∃ (kq : Nat) (x12_1 : Bool), v12 = .bool x12_1 ∧ Azq (spec_l03Is.j0 kq x12_1 a0_0 l0_1 a0_2 = some r) ∧ Azq (kq ≤ k) ∧ Azq (wc.heap[gb109]? = some (.cells #[.int .i64 a0_0, (.slice A0_1 l0_1.length c0_1), .int .i64 a0_2] 30 (0, 0))) ∧ Azq (Below w.heap.size w wc))
 case first =>
  have H := HC2.out
  clear HC2
  replace H := Option.bind_eq_some_iff.mp H
  obtain ⟨t110, A40, H⟩ := H
  replace H : (if t110 = true then ((spec_l01In.f a0_2 (-3000) 3000).bind fun t111 => (spec_l03Is.j0 k (!t111) a0_0 l0_1 a0_2)) else (spec_l03Is.j0 k true a0_0 l0_1 a0_2)) = some r := H
  have A4 := Azq.mk A40
  clear A40
  by_cases c5 : t110 = true
  ·subst c5
   have H1 : ((spec_l01In.f a0_2 (-3000) 3000).bind fun t111 => (spec_l03Is.j0 k (!t111) a0_0 l0_1 a0_2)) = some r := by rw [if_pos rfl] at H; exact H
   clear H
   have H := H1
   clear H1
   replace H := Option.bind_eq_some_iff.mp H
   obtain ⟨t111, A60, H⟩ := H
   replace H : (spec_l03Is.j0 k (!t111) a0_0 l0_1 a0_2) = some r := H
   have A6 := Azq.mk A60
   clear A60
   have H' := Azq.mk H
   clear H
   have hcz7_0 : w3.cell? ⟨gb109, 0, none⟩ = some (.int .i64 a0_0) := (kcq BK109.out 0).trans rfl
   have hcz7_1 : w3.cell? ⟨gb109, 1, none⟩ = some (.slice A0_1 l0_1.length c0_1) := (kcq BK109.out 1).trans rfl
   have hcz7_2 : w3.cell? ⟨gb109, 2, none⟩ = some (.int .i64 a0_2) := (kcq BK109.out 2).trans rfl
   have hfz7_0 := kfq BK109.out 0
   have hfz7_1 := kfq BK109.out 1
   have hfz7_2 := kfq BK109.out 2
   go_wp2_with (first | ((with_reducible refine gate_callee (f := 53) rfl ?_); refine goesL_ (some 5) rfl rfl Tryz.func53 (by kernel_rfl) rfl #[.agg #[.int .i64 a0_0, .slice A0_1 l0_1.length c0_1]] rfl (by (try simp only [List.map_toArray, List.map_cons, List.map_nil]); first | done | rfl | (simp only [List.length_drop, List.length_take]; rfl)) ?_; (with_reducible refine (spec_l02Is.calls k a0_0 _ _ l0_1 true _ ?side1 ?side2 A4.out).mono ?_); (case side1 => repeat (first | exact (Kd.C_below HR0_1.out HB.out) | (with_reducible refine Kd.C_alloc ?_ _) | (with_reducible refine Kd.C_drewN ?_ _) | (with_reducible refine Kd.C_drew ?_))); (case side2 => exact HC0_1.out); rintro e w8 ⟨rfl, hb⟩; refine ⟨_, rfl, ?_⟩; have n0_ := Azq.mk (kbq (g := gb109) (o := .cells #[.int .i64 a0_0, .slice A0_1 l0_1.length c0_1, .int .i64 a0_2] 30 (0, 0)) (by (with_reducible repeat (first | refine kdq ?_ _ | refine krq ?_ | refine kaq ?_ _)); exact BK109.out) hb); have n1_ := Azq.mk (wtq (by repeat (first | (with_reducible first | exact HB.out | apply waq | apply wdq | apply wrq | refine wsq ?_ GE109.out) | exact HB.out)) hb); clear BK109; clear HB; have BK109 := n0_; have HB := n1_; clear n0_ n1_; (try clear hb); (try clear hb2); (try clear hk); (try clear hi); have hcz9_0 : w8.cell? ⟨gb109, 0, none⟩ = some (.int .i64 a0_0) := (kcq BK109.out 0).trans rfl; have hcz9_1 : w8.cell? ⟨gb109, 1, none⟩ = some (.slice A0_1 l0_1.length c0_1) := (kcq BK109.out 1).trans rfl; have hcz9_2 : w8.cell? ⟨gb109, 2, none⟩ = some (.int .i64 a0_2) := (kcq BK109.out 2).trans rfl; have hfz9_0 := kfq BK109.out 0; have hfz9_1 := kfq BK109.out 1; have hfz9_2 := kfq BK109.out 2) | (go_at_call 54; (with_reducible refine (spec_l01In.calls a0_2 (-3000) 3000 t111 _ A6.out).mono ?_); rintro e w' ⟨rfl, ⟨nd, rfl⟩⟩))
   go_meet
   case rel => exact ⟨_, (!t111), (by first | rfl | (simp; done) | (simp [*]; done)), H', ⟨by first | omega | exact Nat.le_refl _⟩, ⟨by (with_reducible repeat (first | refine kdq ?_ _ | refine krq ?_ | refine kaq ?_ _)); exact BK109.out⟩, ⟨by repeat (first | (with_reducible first | exact HB.out | apply waq | apply wdq | apply wrq | refine wsq ?_ GE109.out) | exact HB.out)⟩⟩
  ·replace c5 := Bool.eq_false_iff.mpr c5
   subst c5
   have H1 : (spec_l03Is.j0 k true a0_0 l0_1 a0_2) = some r := by rw [if_neg (show ¬ (false = true) by decide)] at H; exact H
   clear H
   have H := H1
   clear H1
   have H' := Azq.mk H
   clear H
   have hcz10_0 : w3.cell? ⟨gb109, 0, none⟩ = some (.int .i64 a0_0) := (kcq BK109.out 0).trans rfl
   have hcz10_1 : w3.cell? ⟨gb109, 1, none⟩ = some (.slice A0_1 l0_1.length c0_1) := (kcq BK109.out 1).trans rfl
   have hcz10_2 : w3.cell? ⟨gb109, 2, none⟩ = some (.int .i64 a0_2) := (kcq BK109.out 2).trans rfl
   have hfz10_0 := kfq BK109.out 0
   have hfz10_1 := kfq BK109.out 1
   have hfz10_2 := kfq BK109.out 2
   go_wp2_with (first | ((with_reducible refine gate_callee (f := 53) rfl ?_); refine goesL_ (some 5) rfl rfl Tryz.func53 (by kernel_rfl) rfl #[.agg #[.int .i64 a0_0, .slice A0_1 l0_1.length c0_1]] rfl (by (try simp only [List.map_toArray, List.map_cons, List.map_nil]); first | done | rfl | (simp only [List.length_drop, List.length_take]; rfl)) ?_; (with_reducible refine (spec_l02Is.calls k a0_0 _ _ l0_1 false _ ?side1 ?side2 A4.out).mono ?_); (case side1 => repeat (first | exact (Kd.C_below HR0_1.out HB.out) | (with_reducible refine Kd.C_alloc ?_ _) | (with_reducible refine Kd.C_drewN ?_ _) | (with_reducible refine Kd.C_drew ?_))); (case side2 => exact HC0_1.out); rintro e w11 ⟨rfl, hb⟩; refine ⟨_, rfl, ?_⟩; have n0_ := Azq.mk (kbq (g := gb109) (o := .cells #[.int .i64 a0_0, .slice A0_1 l0_1.length c0_1, .int .i64 a0_2] 30 (0, 0)) (by (with_reducible repeat (first | refine kdq ?_ _ | refine krq ?_ | refine kaq ?_ _)); exact BK109.out) hb); have n1_ := Azq.mk (wtq (by repeat (first | (with_reducible first | exact HB.out | apply waq | apply wdq | apply wrq | refine wsq ?_ GE109.out) | exact HB.out)) hb); clear BK109; clear HB; have BK109 := n0_; have HB := n1_; clear n0_ n1_; (try clear hb); (try clear hb2); (try clear hk); (try clear hi)))
   go_meet
   case rel => exact ⟨_, (true), (by first | rfl | (simp; done) | (simp [*]; done)), H', ⟨by first | omega | exact Nat.le_refl _⟩, ⟨by (with_reducible repeat (first | refine kdq ?_ _ | refine krq ?_ | refine kaq ?_ _)); exact BK109.out⟩, ⟨by repeat (first | (with_reducible first | exact HB.out | apply waq | apply wdq | apply wrq | refine wsq ?_ GE109.out) | exact HB.out)⟩⟩
 case rest =>
  clear HC2
  try clear c2
  try clear p2
  try clear c5
  try clear hcz10_0
  try clear hcz10_1
  try clear hcz10_2
  try clear hcz7_0
  try clear hcz7_1
  try clear hcz7_2
  try clear hcz9_0
  try clear hcz9_1
  try clear hcz9_2
  try clear hfz10_0
  try clear hfz10_1
  try clear hfz10_2
  try clear hfz7_0
  try clear hfz7_1
  try clear hfz7_2
  try clear hfz9_0
  try clear hfz9_1
  try clear hfz9_2
  obtain ⟨kq, x12_1, rfl, HA, HJ1, BK109, HB⟩ := hcut
  cases kq with
  | zero => exact absurd HA.out (by simp [spec_l03Is.j0])
  | succ kj1 =>
   have H := HA.out
   clear HA
   simp only [spec_l03Is.j0] at H
   by_cases c12 : x12_1 = true
   ·subst c12
    have H1 : (some false) = some r := by rw [if_pos rfl] at H; exact H
    clear H
    have H := H1
    clear H1
    obtain rfl := Option.some.inj H
    go_wp2
    go_ret
    exact ⟨by first | rfl | (simp [errW_none, errW_some] <;> rfl) | (simp [*, errW_none, errW_some] <;> rfl), by repeat (first | (with_reducible first | exact HB.out | apply waq | apply wdq | apply wrq | refine wsq ?_ GE109.out) | exact HB.out)⟩
   ·replace c12 := Bool.eq_false_iff.mpr c12
    subst c12
    have H1 : (if a0_0 = 0 then (some (a0_2 == 0)) else (if 0 < (l0_1.length : Int) then (some ((Int.tmod (rd l0_1 0) 2) == 1)) else (none))) = some r := by rw [if_neg (show ¬ (false = true) by decide)] at H; exact H
    clear H
    have H := H1
    clear H1
    by_cases c13 : a0_0 = 0
    ·rw [if_pos c13] at H
     have c13b0 : (a0_0 == 0) = true := beq_iff_eq.mpr c13
     have c13b1 : (a0_0 != 0) = false := bne_eq_false_iff_eq.mpr c13
     clear c13
     obtain rfl := Option.some.inj H
     have hcz14_0 : wc.cell? ⟨gb109, 0, none⟩ = some (.int .i64 a0_0) := (kcq BK109.out 0).trans rfl
     have hcz14_1 : wc.cell? ⟨gb109, 1, none⟩ = some (.slice A0_1 l0_1.length c0_1) := (kcq BK109.out 1).trans rfl
     have hcz14_2 : wc.cell? ⟨gb109, 2, none⟩ = some (.int .i64 a0_2) := (kcq BK109.out 2).trans rfl
     have hfz14_0 := kfq BK109.out 0
     have hfz14_1 := kfq BK109.out 1
     have hfz14_2 := kfq BK109.out 2
     go_wp2
     go_ret
     exact ⟨by first | rfl | (simp [errW_none, errW_some] <;> rfl) | (simp [*, errW_none, errW_some] <;> rfl), by repeat (first | (with_reducible first | exact HB.out | apply waq | apply wdq | apply wrq | refine wsq ?_ GE109.out) | exact HB.out)⟩
    ·rw [if_neg c13] at H
     have c13b0 : (a0_0 == 0) = false := beq_eq_false_iff_ne.mpr c13
     have c13b1 : (a0_0 != 0) = true := bne_iff_ne.mpr c13
     by_cases c15 : 0 < (l0_1.length : Int)
     ·rw [if_pos c15] at H
      have c15b0 : decide (0 < (l0_1.length : Int)) = true := decide_eq_true c15
      have c15b1 : decide (0 < l0_1.length) = true := decide_eq_true (by omega)
      clear c15
      obtain rfl := Option.some.inj H
      have hcz16_0 : wc.cell? ⟨gb109, 0, none⟩ = some (.int .i64 a0_0) := (kcq BK109.out 0).trans rfl
      have hcz16_1 : wc.cell? ⟨gb109, 1, none⟩ = some (.slice A0_1 l0_1.length c0_1) := (kcq BK109.out 1).trans rfl
      have hcz16_2 : wc.cell? ⟨gb109, 2, none⟩ = some (.int .i64 a0_2) := (kcq BK109.out 2).trans rfl
      have hfz16_0 := kfq BK109.out 0
      have hfz16_1 := kfq BK109.out 1
      have hfz16_2 := kfq BK109.out 2
      have p112 : 0 ≤ (0 : Int) := (by omega)
      have q112 : 0 < (l0_1.length : Int) := of_decide_eq_true (by first | (with_reducible assumption) | assumption)
      obtain ⟨ad112, e112, hx112_0⟩ := Kd.at_int HR0_1.out 0 p112 q112
      cases e112
      have qi112 : (0 < l0_1.length) = True := eq_true (by omega)
      (try rw [show ((0 : Int)).toNat = 0 from rfl] at hx112_0)
      (try rw [Addr.add_zero'] at hx112_0)
      replace hx112_0 := (HB.out.cell (World.block_lt_of_cell? w _ hx112_0)).trans hx112_0
      replace p112 := eq_true p112
      replace q112 := eq_true q112
      go_wp2
      go_ret
      exact ⟨by first | rfl | (simp [errW_none, errW_some] <;> rfl) | (simp [*, errW_none, errW_some] <;> rfl), by repeat (first | (with_reducible first | exact HB.out | apply waq | apply wdq | apply wrq | refine wsq ?_ GE109.out) | exact HB.out)⟩
     ·rw [if_neg c15] at H
      exact absurd H (by simp)
end Go.Proofs.YtjggbalhpflbbaaGreat.PW
end
section
namespace Go.Proofs.YtjggbalhpflbbaaGreat.PW
open Go.RowKit Go.Proofs.YtjggbalhpflbbaaGreatW.PrintWords Go.Proofs.YtjggbalhpflbbaaGreatW.PrintLast Go.Proofs.YtjggbalhpflbbaaGreatW.PrintMore
attribute [local go_sem] max2_int min2_int max_two min_two max_three min_three max_four min_four   -- for this text's walks alone
set_option linter.unusedVariables false
set_option linter.unusedSimpArgs false
def spec_l03Fit.f (k : Nat) (a0_0 : Int) (l0_1 : List Int) (a0_2 : Int) : Option (Int × List Int × Int × Int) := (spec_l03Is.f k a0_0 l0_1 a0_2).bind fun t291 => (if t291 = true then (some (a0_0, l0_1, a0_2, 0)) else (some (0, ([] : List Int), 0, 3)))
theorem spec_l03Fit.mono : ∀ a0 a1 a2 k, LeO (spec_l03Fit.f k a0 a1 a2) (spec_l03Fit.f (k + 1) a0 a1 a2) := by
 intro a0 a1 a2 k
 unfold spec_l03Fit.f
 repeat' first
   | (with_reducible exact spec_l03Is.mono _ _ _ _)
   | (with_reducible exact LeO.refl _)
   | (with_reducible exact LeO.none _)
   | (with_reducible refine LeO.ite ?_ ?_)
   | (with_reducible refine LeO.bind ?_ (fun _ => ?_))
   | exact spec_l03Is.mono _ _ _ _
   | exact LeO.none _
   | refine LeO.ite ?_ ?_
   | refine LeO.bind ?_ (fun _ => ?_)
set_option maxHeartbeats 8000000 in
set_option maxRecDepth 100000 in
theorem spec_l03Fit.calls (k : Nat) (a0_0 : Int) (P0_1_ : Nat → Prop) (u9000_ : Value) (l0_1 : List Int) (a0_2 : Int) (r1 : Int) (r2 : List Int) (r3 : Int) (r4 : Int) (w0 w : World) (hB : Below w0.heap.size w0 w) (ho0_1 : Kd.R (Kd.int .i64) 2 w w0.heap.size P0_1_ u9000_ l0_1) (h : spec_l03Fit.f k a0_0 l0_1 a0_2 = some (r1, r2, r3, r4)) :
  Calls Tryz.prog 14 #[.agg #[.int .i64 a0_0, u9000_, .int .i64 a0_2]] w fun e w' => ∃ v1_ : Value, e = .returned (.tuple #[.agg #[.int .i64 r1, v1_, .int .i64 r3], .int .i64 r4]) ∧ Kd.R (Kd.int .i64) 2 w' w0.heap.size (fun k_ => (P0_1_ k_ ∨ w.heap.size ≤ k_)) v1_ r2 ∧ Below w0.heap.size w0 w' ∧ Kept w w' (fun k_ => P0_1_ k_) := by
 have hu30 := Tryz.underlying30
 have HO0_1 := Azq.mk (show Kd.R (Kd.int .i64) 2 w w0.heap.size (fun k_ => (P0_1_ k_ ∨ w.heap.size ≤ k_)) u9000_ l0_1 from Kd.R_mono ho0_1 (fun k_ hk => (.inl hk)))
 have HK := Azq.mk (Kept.refl w (fun k_ => P0_1_ k_))
 have HW0 := Azq.mk hB.size
 have HB := Azq.mk hB
 clear hB
 have H : ((spec_l03Is.f k a0_0 l0_1 a0_2).bind fun t291 => (if t291 = true then (some (a0_0, l0_1, a0_2, 0)) else (some (0, ([] : List Int), 0, 3)))) = some (r1, r2, r3, r4) := h
 clear h
 replace H := Option.bind_eq_some_iff.mp H
 obtain ⟨t291, A20, H⟩ := H
 replace H : (if t291 = true then (some (a0_0, l0_1, a0_2, 0)) else (some (0, ([] : List Int), 0, 3))) = some (r1, r2, r3, r4) := H
 have A2 := Azq.mk A20
 clear A20
 by_cases c3 : t291 = true
 ·subst c3
  have H1 : (some (a0_0, l0_1, a0_2, 0)) = some (r1, r2, r3, r4) := by rw [if_pos rfl] at H; exact H
  clear H
  have H := H1
  clear H1
  simp only [Option.some.injEq, Prod.mk.injEq] at H
  obtain ⟨rfl, rfl, rfl, rfl⟩ := H
  obtain ⟨Ao4, co4, eo4⟩ := Kd.R_slice HO0_1.out
  subst eo4
  go_enter Tryz.func14, Tryz.ntmps14
  go_wp2_with (first | ((with_reducible refine gate_dst (N := 1) rfl ?_); refine box_event ?hg (N := 1) ?hd (cs := #[.int .i64 a0_0, .slice Ao4 l0_1.length co4, .int .i64 a0_2]) (t := 30) ?hr ?_; (case hd => rfl); (case hg => rfl); (case hr => first | (go_simp; done) | (go_simp; rfl)); intro gb289 hg w5 hbox hb; have n0_ := Azq.mk (Kd.R_below (by (with_reducible repeat (first | apply Kd.R_alloc | apply Kd.R_drewN | apply Kd.R_drew)); exact HO0_1.out) hb); have n1_ := Azq.mk (Kept.below (S := (fun k_ => P0_1_ k_)) (by repeat (first | (with_reducible first | exact HK.out | apply Kept.alloc | apply Kept.drewN | apply Kept.drew) | exact HK.out)) hb); have n2_ := Azq.mk (wtq (by repeat (first | (with_reducible first | exact HB.out | apply waq | apply wdq | apply wrq) | exact HB.out)) hb); have n3_ := Azq.mk (hbox); have n4_ := Azq.mk ((by rw [hg]; exact (by first | exact HK.out.1 | exact (show Kept w _ (fun k_ => P0_1_ k_) from by repeat (first | (with_reducible first | exact HK.out | apply Kept.alloc | apply Kept.drewN | apply Kept.drew) | exact HK.out)).1) : w.heap.size ≤ gb289)); have n5_ := Azq.mk ((by rw [hg]; exact (wzq (by repeat (first | (with_reducible first | exact HB.out | apply waq | apply wdq | apply wrq) | exact HB.out))) : w0.heap.size ≤ gb289)); clear HO0_1; clear HK; clear HB; have HO0_1 := n0_; have HK := n1_; have HB := n2_; have BK289 := n3_; have GW289 := n4_; have GE289 := n5_; clear n0_ n1_ n2_ n3_ n4_ n5_; clear hb hbox hg) | ((with_reducible refine gate_dst (N := 2) rfl ?_); refine box_event ?hg (N := 2) ?hd (cs := #[.int .i64 0, .slice none 0 0, .int .i64 0]) (t := 30) ?hr ?_; (case hd => rfl); (case hg => rfl); (case hr => first | (go_simp; done) | (go_simp; rfl)); intro gb290 hg w6 hbox hb; have n0_ := Azq.mk (Kd.R_below (by (with_reducible repeat (first | apply Kd.R_alloc | apply Kd.R_drewN | apply Kd.R_drew)); exact HO0_1.out) hb); have n1_ := Azq.mk (kbq (g := gb289) (o := .cells #[.int .i64 a0_0, .slice Ao4 l0_1.length co4, .int .i64 a0_2] 30 (0, 0)) (by (with_reducible repeat (first | refine kdq ?_ _ | refine krq ?_ | refine kaq ?_ _)); exact BK289.out) hb); have n2_ := Azq.mk (Kept.below (S := (fun k_ => P0_1_ k_)) (by repeat (first | (with_reducible first | exact HK.out | apply Kept.alloc | apply Kept.drewN | apply Kept.drew | refine Kept.setCell ?_ (.inr GW289.out) _) | exact HK.out)) hb); have n3_ := Azq.mk (wtq (by repeat (first | (with_reducible first | exact HB.out | apply waq | apply wdq | apply wrq | refine wsq ?_ GE289.out) | exact HB.out)) hb); have n4_ := Azq.mk (hbox); have n5_ := Azq.mk ((by rw [hg]; exact (by first | exact HK.out.1 | exact (show Kept w _ (fun k_ => P0_1_ k_) from by repeat (first | (with_reducible first | exact HK.out | apply Kept.alloc | apply Kept.drewN | apply Kept.drew | refine Kept.setCell ?_ (.inr GW289.out) _) | exact HK.out)).1) : w.heap.size ≤ gb290)); have n6_ := Azq.mk ((by rw [hg]; exact (wzq (by repeat (first | (with_reducible first | exact HB.out | apply waq | apply wdq | apply wrq | refine wsq ?_ GE289.out) | exact HB.out))) : w0.heap.size ≤ gb290)); have n7_ := Azq.mk ((by rw [hg]; exact Nat.ne_of_lt (klq (g := gb289) (o := .cells #[.int .i64 a0_0, .slice Ao4 l0_1.length co4, .int .i64 a0_2] 30 (0, 0)) (by (with_reducible repeat (first | refine kdq ?_ _ | refine krq ?_ | refine kaq ?_ _)); exact BK289.out)) : gb289 ≠ gb290)); have n8_ := Azq.mk ((by rw [hg]; exact Nat.ne_of_gt (klq (g := gb289) (o := .cells #[.int .i64 a0_0, .slice Ao4 l0_1.length co4, .int .i64 a0_2] 30 (0, 0)) (by (with_reducible repeat (first | refine kdq ?_ _ | refine krq ?_ | refine kaq ?_ _)); exact BK289.out)) : gb290 ≠ gb289)); clear HO0_1; clear BK289; clear HK; clear HB; have HO0_1 := n0_; have BK289 := n1_; have HK := n2_; have HB := n3_; have BK290 := n4_; have GW290 := n5_; have GE290 := n6_; have NB289_290 := n7_; have NB290_289 := n8_; clear n0_ n1_ n2_ n3_ n4_ n5_ n6_ n7_ n8_; clear hb hbox hg; have hnb7 := NB289_290.out; have hnc7 := NB290_289.out; have hcz8_0 : w6.cell? ⟨gb289, 0, none⟩ = some (.int .i64 a0_0) := (kcq BK289.out 0).trans rfl; have hcz8_1 : w6.cell? ⟨gb289, 1, none⟩ = some (.slice Ao4 l0_1.length co4) := (kcq BK289.out 1).trans rfl; have hcz8_2 : w6.cell? ⟨gb289, 2, none⟩ = some (.int .i64 a0_2) := (kcq BK289.out 2).trans rfl; have hfz8_0 := kfq BK289.out 0; have hfz8_1 := kfq BK289.out 1; have hfz8_2 := kfq BK289.out 2) | ((with_reducible refine gate_callee (f := 27) rfl ?_); refine goesL_ (some 5) rfl rfl Tryz.func27 (by kernel_rfl) rfl #[.agg #[.int .i64 a0_0, .slice Ao4 l0_1.length co4, .int .i64 a0_2]] rfl (by (try simp only [List.map_toArray, List.map_cons, List.map_nil]); first | done | rfl | (simp only [List.length_drop, List.length_take]; rfl)) ?_; (with_reducible refine (spec_l03Is.calls k a0_0 _ _ l0_1 a0_2 true _ ?side1 ?side2 A2.out).mono ?_); (case side1 => repeat (first | exact (Kd.R_reads' HO0_1.out).2.2 | (with_reducible refine Kd.C_alloc ?_ _) | (with_reducible refine Kd.C_drewN ?_ _) | (with_reducible refine Kd.C_drew ?_))); (case side2 => exact (Kd.R_reads' HO0_1.out).2.1); rintro e w9 ⟨rfl, hb⟩; refine ⟨_, rfl, ?_⟩; have n0_ := Azq.mk (Kd.R_below (by (with_reducible repeat (first | apply Kd.R_alloc | apply Kd.R_drewN | apply Kd.R_drew)); exact HO0_1.out) hb); have n1_ := Azq.mk (kbq (g := gb289) (o := .cells #[.int .i64 a0_0, .slice Ao4 l0_1.length co4, .int .i64 a0_2] 30 (0, 0)) (by (with_reducible repeat (first | refine kdq ?_ _ | refine krq ?_ | refine kaq ?_ _)); exact BK289.out) hb); have n2_ := Azq.mk (kbq (g := gb290) (o := .cells #[.int .i64 0, .slice none 0 0, .int .i64 0] 30 (0, 0)) (by (with_reducible repeat (first | refine kdq ?_ _ | refine krq ?_ | refine kaq ?_ _)); exact BK290.out) hb); have n3_ := Azq.mk (Kept.below (S := (fun k_ => P0_1_ k_)) (by repeat (first | (with_reducible first | exact HK.out | apply Kept.alloc | apply Kept.drewN | apply Kept.drew | refine Kept.setCell ?_ (.inr GW289.out) _ | refine Kept.setCell ?_ (.inr GW290.out) _) | exact HK.out)) hb); have n4_ := Azq.mk (wtq (by repeat (first | (with_reducible first | exact HB.out | apply waq | apply wdq | apply wrq | refine wsq ?_ GE289.out | refine wsq ?_ GE290.out) | exact HB.out)) hb); clear HO0_1; clear BK289; clear BK290; clear HK; clear HB; have HO0_1 := n0_; have BK289 := n1_; have BK290 := n2_; have HK := n3_; have HB := n4_; clear n0_ n1_ n2_ n3_ n4_; (try clear hb); (try clear hb2); (try clear hk); (try clear hi); have hcz10_0 : w9.cell? ⟨gb289, 0, none⟩ = some (.int .i64 a0_0) := (kcq BK289.out 0).trans rfl; have hcz10_1 : w9.cell? ⟨gb289, 1, none⟩ = some (.slice Ao4 l0_1.length co4) := (kcq BK289.out 1).trans rfl; have hcz10_2 : w9.cell? ⟨gb289, 2, none⟩ = some (.int .i64 a0_2) := (kcq BK289.out 2).trans rfl; have hfz10_0 := kfq BK289.out 0; have hfz10_1 := kfq BK289.out 1; have hfz10_2 := kfq BK289.out 2; have hcz11_0 : w9.cell? ⟨gb290, 0, none⟩ = some (.int .i64 0) := (kcq BK290.out 0).trans rfl; have hcz11_1 : w9.cell? ⟨gb290, 1, none⟩ = some (.slice none 0 0) := (kcq BK290.out 1).trans rfl; have hcz11_2 : w9.cell? ⟨gb290, 2, none⟩ = some (.int .i64 0) := (kcq BK290.out 2).trans rfl; have hfz11_0 := kfq BK290.out 0; have hfz11_1 := kfq BK290.out 1; have hfz11_2 := kfq BK290.out 2))
  refine bodyPost_ret (results_ct rfl _ _ gb290 30 #[.int .i64 a0_0, .slice Ao4 l0_1.length co4, .int .i64 a0_2] (0, 0) _ rfl (by (with_reducible repeat (first | refine kdq ?_ _ | refine krq ?_ | refine kaq ?_ _)); refine blk_put (cs := #[.int .i64 a0_0, .slice Ao4 l0_1.length co4, .int .i64 0]) ?_ 2 _ rfl; (with_reducible repeat (first | refine kdq ?_ _ | refine krq ?_ | refine kaq ?_ _)); refine blk_put (cs := #[.int .i64 a0_0, .slice none 0 0, .int .i64 0]) ?_ 1 _ rfl; (with_reducible repeat (first | refine kdq ?_ _ | refine krq ?_ | refine kaq ?_ _)); refine blk_put (cs := #[.int .i64 0, .slice none 0 0, .int .i64 0]) ?_ 0 _ rfl; (with_reducible repeat (first | refine kdq ?_ _ | refine krq ?_ | refine kaq ?_ _)); exact BK290.out) Tryz.underlying30 rfl (by kernel_rfl)) rfl ?_
  exact ⟨_, by first | rfl | (simp [errW_none, errW_some] <;> rfl) | (simp [*, errW_none, errW_some] <;> rfl), by (with_reducible repeat (first | apply Kd.R_alloc | apply Kd.R_drewN | apply Kd.R_drew)); exact Kd.R_mono (Kd.R_far (p := ⟨gb290, 2, none⟩) (Kd.R_far (p := ⟨gb290, 1, none⟩) (Kd.R_far (p := ⟨gb290, 0, none⟩) (Kd.R_types HO0_1.out BK290.out (by decide)) (fun _ hk => hk.2) (.int .i64 a0_0)) (fun _ hk => hk.2) (.slice Ao4 l0_1.length co4)) (fun _ hk => hk.2) (.int .i64 a0_2)) (fun _ hk => hk.1), by repeat (first | (with_reducible first | exact HB.out | apply waq | apply wdq | apply wrq | refine wsq ?_ GE289.out | refine wsq ?_ GE290.out) | exact HB.out), by repeat (first | (with_reducible first | exact HK.out | apply Kept.alloc | apply Kept.drewN | apply Kept.drew | refine Kept.setCell ?_ (.inr GW289.out) _ | refine Kept.setCell ?_ (.inr GW290.out) _) | exact HK.out)⟩
 ·replace c3 := Bool.eq_false_iff.mpr c3
  subst c3
  have H1 : (some (0, ([] : List Int), 0, 3)) = some (r1, r2, r3, r4) := by rw [if_neg (show ¬ (false = true) by decide)] at H; exact H
  clear H
  have H := H1
  clear H1
  simp only [Option.some.injEq, Prod.mk.injEq] at H
  obtain ⟨rfl, rfl, rfl, rfl⟩ := H
  obtain ⟨Ao12, co12, eo12⟩ := Kd.R_slice HO0_1.out
  subst eo12
  go_enter Tryz.func14, Tryz.ntmps14
  go_wp2_with (first | ((with_reducible refine gate_dst (N := 1) rfl ?_); refine box_event ?hg (N := 1) ?hd (cs := #[.int .i64 a0_0, .slice Ao12 l0_1.length co12, .int .i64 a0_2]) (t := 30) ?hr ?_; (case hd => rfl); (case hg => rfl); (case hr => first | (go_simp; done) | (go_simp; rfl)); intro gb289 hg w13 hbox hb; have n0_ := Azq.mk (Kd.R_below (by (with_reducible repeat (first | apply Kd.R_alloc | apply Kd.R_drewN | apply Kd.R_drew)); exact HO0_1.out) hb); have n1_ := Azq.mk (Kept.below (S := (fun k_ => P0_1_ k_)) (by repeat (first | (with_reducible first | exact HK.out | apply Kept.alloc | apply Kept.drewN | apply Kept.drew) | exact HK.out)) hb); have n2_ := Azq.mk (wtq (by repeat (first | (with_reducible first | exact HB.out | apply waq | apply wdq | apply wrq) | exact HB.out)) hb); have n3_ := Azq.mk (hbox); have n4_ := Azq.mk ((by rw [hg]; exact (by first | exact HK.out.1 | exact (show Kept w _ (fun k_ => P0_1_ k_) from by repeat (first | (with_reducible first | exact HK.out | apply Kept.alloc | apply Kept.drewN | apply Kept.drew) | exact HK.out)).1) : w.heap.size ≤ gb289)); have n5_ := Azq.mk ((by rw [hg]; exact (wzq (by repeat (first | (with_reducible first | exact HB.out | apply waq | apply wdq | apply wrq) | exact HB.out))) : w0.heap.size ≤ gb289)); clear HO0_1; clear HK; clear HB; have HO0_1 := n0_; have HK := n1_; have HB := n2_; have BK289 := n3_; have GW289 := n4_; have GE289 := n5_; clear n0_ n1_ n2_ n3_ n4_ n5_; clear hb hbox hg) | ((with_reducible refine gate_dst (N := 2) rfl ?_); refine box_event ?hg (N := 2) ?hd (cs := #[.int .i64 0, .slice none 0 0, .int .i64 0]) (t := 30) ?hr ?_; (case hd => rfl); (case hg => rfl); (case hr => first | (go_simp; done) | (go_simp; rfl)); intro gb290 hg w14 hbox hb; have n0_ := Azq.mk (Kd.R_below (by (with_reducible repeat (first | apply Kd.R_alloc | apply Kd.R_drewN | apply Kd.R_drew)); exact HO0_1.out) hb); have n1_ := Azq.mk (kbq (g := gb289) (o := .cells #[.int .i64 a0_0, .slice Ao12 l0_1.length co12, .int .i64 a0_2] 30 (0, 0)) (by (with_reducible repeat (first | refine kdq ?_ _ | refine krq ?_ | refine kaq ?_ _)); exact BK289.out) hb); have n2_ := Azq.mk (Kept.below (S := (fun k_ => P0_1_ k_)) (by repeat (first | (with_reducible first | exact HK.out | apply Kept.alloc | apply Kept.drewN | apply Kept.drew | refine Kept.setCell ?_ (.inr GW289.out) _) | exact HK.out)) hb); have n3_ := Azq.mk (wtq (by repeat (first | (with_reducible first | exact HB.out | apply waq | apply wdq | apply wrq | refine wsq ?_ GE289.out) | exact HB.out)) hb); have n4_ := Azq.mk (hbox); have n5_ := Azq.mk ((by rw [hg]; exact (by first | exact HK.out.1 | exact (show Kept w _ (fun k_ => P0_1_ k_) from by repeat (first | (with_reducible first | exact HK.out | apply Kept.alloc | apply Kept.drewN | apply Kept.drew | refine Kept.setCell ?_ (.inr GW289.out) _) | exact HK.out)).1) : w.heap.size ≤ gb290)); have n6_ := Azq.mk ((by rw [hg]; exact (wzq (by repeat (first | (with_reducible first | exact HB.out | apply waq | apply wdq | apply wrq | refine wsq ?_ GE289.out) | exact HB.out))) : w0.heap.size ≤ gb290)); have n7_ := Azq.mk ((by rw [hg]; exact Nat.ne_of_lt (klq (g := gb289) (o := .cells #[.int .i64 a0_0, .slice Ao12 l0_1.length co12, .int .i64 a0_2] 30 (0, 0)) (by (with_reducible repeat (first | refine kdq ?_ _ | refine krq ?_ | refine kaq ?_ _)); exact BK289.out)) : gb289 ≠ gb290)); have n8_ := Azq.mk ((by rw [hg]; exact Nat.ne_of_gt (klq (g := gb289) (o := .cells #[.int .i64 a0_0, .slice Ao12 l0_1.length co12, .int .i64 a0_2] 30 (0, 0)) (by (with_reducible repeat (first | refine kdq ?_ _ | refine krq ?_ | refine kaq ?_ _)); exact BK289.out)) : gb290 ≠ gb289)); clear HO0_1; clear BK289; clear HK; clear HB; have HO0_1 := n0_; have BK289 := n1_; have HK := n2_; have HB := n3_; have BK290 := n4_; have GW290 := n5_; have GE290 := n6_; have NB289_290 := n7_; have NB290_289 := n8_; clear n0_ n1_ n2_ n3_ n4_ n5_ n6_ n7_ n8_; clear hb hbox hg; have hnb15 := NB289_290.out; have hnc15 := NB290_289.out; have hcz16_0 : w14.cell? ⟨gb289, 0, none⟩ = some (.int .i64 a0_0) := (kcq BK289.out 0).trans rfl; have hcz16_1 : w14.cell? ⟨gb289, 1, none⟩ = some (.slice Ao12 l0_1.length co12) := (kcq BK289.out 1).trans rfl; have hcz16_2 : w14.cell? ⟨gb289, 2, none⟩ = some (.int .i64 a0_2) := (kcq BK289.out 2).trans rfl; have hfz16_0 := kfq BK289.out 0; have hfz16_1 := kfq BK289.out 1; have hfz16_2 := kfq BK289.out 2) | ((with_reducible refine gate_callee (f := 27) rfl ?_); refine goesL_ (some 5) rfl rfl Tryz.func27 (by kernel_rfl) rfl #[.agg #[.int .i64 a0_0, .slice Ao12 l0_1.length co12, .int .i64 a0_2]] rfl (by (try simp only [List.map_toArray, List.map_cons, List.map_nil]); first | done | rfl | (simp only [List.length_drop, List.length_take]; rfl)) ?_; (with_reducible refine (spec_l03Is.calls k a0_0 _ _ l0_1 a0_2 false _ ?side1 ?side2 A2.out).mono ?_); (case side1 => repeat (first | exact (Kd.R_reads' HO0_1.out).2.2 | (with_reducible refine Kd.C_alloc ?_ _) | (with_reducible refine Kd.C_drewN ?_ _) | (with_reducible refine Kd.C_drew ?_))); (case side2 => exact (Kd.R_reads' HO0_1.out).2.1); rintro e w17 ⟨rfl, hb⟩; refine ⟨_, rfl, ?_⟩; have n0_ := Azq.mk (Kd.R_below (by (with_reducible repeat (first | apply Kd.R_alloc | apply Kd.R_drewN | apply Kd.R_drew)); exact HO0_1.out) hb); have n1_ := Azq.mk (kbq (g := gb289) (o := .cells #[.int .i64 a0_0, .slice Ao12 l0_1.length co12, .int .i64 a0_2] 30 (0, 0)) (by (with_reducible repeat (first | refine kdq ?_ _ | refine krq ?_ | refine kaq ?_ _)); exact BK289.out) hb); have n2_ := Azq.mk (kbq (g := gb290) (o := .cells #[.int .i64 0, .slice none 0 0, .int .i64 0] 30 (0, 0)) (by (with_reducible repeat (first | refine kdq ?_ _ | refine krq ?_ | refine kaq ?_ _)); exact BK290.out) hb); have n3_ := Azq.mk (Kept.below (S := (fun k_ => P0_1_ k_)) (by repeat (first | (with_reducible first | exact HK.out | apply Kept.alloc | apply Kept.drewN | apply Kept.drew | refine Kept.setCell ?_ (.inr GW289.out) _ | refine Kept.setCell ?_ (.inr GW290.out) _) | exact HK.out)) hb); have n4_ := Azq.mk (wtq (by repeat (first | (with_reducible first | exact HB.out | apply waq | apply wdq | apply wrq | refine wsq ?_ GE289.out | refine wsq ?_ GE290.out) | exact HB.out)) hb); clear HO0_1; clear BK289; clear BK290; clear HK; clear HB; have HO0_1 := n0_; have BK289 := n1_; have BK290 := n2_; have HK := n3_; have HB := n4_; clear n0_ n1_ n2_ n3_ n4_; (try clear hb); (try clear hb2); (try clear hk); (try clear hi); have hcz18_0 : w17.cell? ⟨gb290, 0, none⟩ = some (.int .i64 0) := (kcq BK290.out 0).trans rfl; have hcz18_1 : w17.cell? ⟨gb290, 1, none⟩ = some (.slice none 0 0) := (kcq BK290.out 1).trans rfl; have hcz18_2 : w17.cell? ⟨gb290, 2, none⟩ = some (.int .i64 0) := (kcq BK290.out 2).trans rfl; have hfz18_0 := kfq BK290.out 0; have hfz18_1 := kfq BK290.out 1; have hfz18_2 := kfq BK290.out 2))
  refine bodyPost_ret (results_ct rfl _ _ gb290 30 #[.int .i64 0, .slice none 0 0, .int .i64 0] (0, 0) _ rfl (by (with_reducible repeat (first | refine kdq ?_ _ | refine krq ?_ | refine kaq ?_ _)); refine blk_put (cs := #[.int .i64 0, .slice none 0 0, .int .i64 0]) ?_ 2 _ rfl; (with_reducible repeat (first | refine kdq ?_ _ | refine krq ?_ | refine kaq ?_ _)); refine blk_put (cs := #[.int .i64 0, .slice none 0 0, .int .i64 0]) ?_ 1 _ rfl; (with_reducible repeat (first | refine kdq ?_ _ | refine krq ?_ | refine kaq ?_ _)); refine blk_put (cs := #[.int .i64 0, .slice none 0 0, .int .i64 0]) ?_ 0 _ rfl; (with_reducible repeat (first | refine kdq ?_ _ | refine krq ?_ | refine kaq ?_ _)); exact BK290.out) Tryz.underlying30 rfl (by kernel_rfl)) rfl ?_
  exact ⟨_, by first | rfl | (simp [errW_none, errW_some] <;> rfl) | (simp [*, errW_none, errW_some] <;> rfl), by first | exact Kd.R_nil _ _ _ _ _ | exact Kd.N_nil _ _ _ _ _ | exact Kd.V_nil _ _ _ _ _ | exact Kd.Q_nil _ _ _ _ _ | exact Kd.S_nil _ _ _ _ _, by repeat (first | (with_reducible first | exact HB.out | apply waq | apply wdq | apply wrq | refine wsq ?_ GE289.out | refine wsq ?_ GE290.out) | exact HB.out), by repeat (first | (with_reducible first | exact HK.out | apply Kept.alloc | apply Kept.drewN | apply Kept.drew | refine Kept.setCell ?_ (.inr GW289.out) _ | refine Kept.setCell ?_ (.inr GW290.out) _) | exact HK.out)⟩
end Go.Proofs.YtjggbalhpflbbaaGreat.PW
end
section
namespace Go.Proofs.YtjggbalhpflbbaaGreat.PW
open Go.RowKit Go.Proofs.YtjggbalhpflbbaaGreatW.PrintWords Go.Proofs.YtjggbalhpflbbaaGreatW.PrintLast Go.Proofs.YtjggbalhpflbbaaGreatW.PrintMore
attribute [local go_sem] max2_int min2_int max_two min_two max_three min_three max_four min_four   -- for this text's walks alone
set_option linter.unusedVariables false
set_option linter.unusedSimpArgs false
def impl_IsDyadic.f (k : Nat) (a0_0 : Int) (l0_1 : List Int) (a0_2 : Int) : Option (Bool) := (impl_IsWhole.f k a0_0 l0_1).bind fun t400 => (if t400 = true then (if a0_0 = 0 then (some (a0_2 == 0)) else (if 0 < (l0_1.length : Int) then (if (Int.tmod (rd l0_1 0) 2) = 1 then (if a0_2 ≥ (-3000) then (some (decide (a0_2 ≤ 3000))) else (some false)) else (some false)) else (none))) else (some false))
theorem impl_IsDyadic.mono : ∀ a0 a1 a2 k, LeO (impl_IsDyadic.f k a0 a1 a2) (impl_IsDyadic.f (k + 1) a0 a1 a2) := by
 intro a0 a1 a2 k
 unfold impl_IsDyadic.f
 repeat' first
   | (with_reducible exact impl_IsWhole.mono _ _ _)
   | (with_reducible exact LeO.refl _)
   | (with_reducible exact LeO.none _)
   | (with_reducible refine LeO.ite ?_ ?_)
   | (with_reducible refine LeO.bind ?_ (fun _ => ?_))
   | exact impl_IsWhole.mono _ _ _
   | exact LeO.none _
   | refine LeO.ite ?_ ?_
   | refine LeO.bind ?_ (fun _ => ?_)
set_option maxHeartbeats 8000000 in
set_option maxRecDepth 100000 in
theorem impl_IsDyadic.calls (k : Nat) (a0_0 : Int) (A0_1 : Option Addr) (c0_1 : Nat) (l0_1 : List Int) (a0_2 : Int) (r : Bool) (w : World) (hr0_1 : Kd.C (Kd.int .i64) w A0_1 l0_1.length l0_1) (hc0_1 : l0_1.length ≤ c0_1) (h : impl_IsDyadic.f k a0_0 l0_1 a0_2 = some r) :
  Calls Tryz.prog 40 #[.agg #[.int .i64 a0_0, .slice A0_1 l0_1.length c0_1, .int .i64 a0_2]] w fun e w' => e = .returned (.bool r) ∧ Below w.heap.size w w' := by
 have hu30 := Tryz.underlying30
 have hu28 := Tryz.underlying28
 have HR0_1 := Azq.mk hr0_1
 have HC0_1 := Azq.mk hc0_1
 clear hr0_1 hc0_1
 have HB := Azq.mk (Below.refl w.heap.size w)
 have H : ((impl_IsWhole.f k a0_0 l0_1).bind fun t400 => (if t400 = true then (if a0_0 = 0 then (some (a0_2 == 0)) else (if 0 < (l0_1.length : Int) then (if (Int.tmod (rd l0_1 0) 2) = 1 then (if a0_2 ≥ (-3000) then (some (decide (a0_2 ≤ 3000))) else (some false)) else (some false)) else (none))) else (some false))) = some r := h
 clear h
 replace H := Option.bind_eq_some_iff.mp H
 obtain ⟨t400, A20, H⟩ := H
 replace H : (if t400 = true then (if a0_0 = 0 then (some (a0_2 == 0)) else (if 0 < (l0_1.length : Int) then (if (Int.tmod (rd l0_1 0) 2) = 1 then (if a0_2 ≥ (-3000) then (some (decide (a0_2 ≤ 3000))) else (some false)) else (some false)) else (none))) else (some false)) = some r := H
 have A2 := Azq.mk A20
 clear A20
 by_cases c3 : t400 = true
 ·subst c3
  have H1 : (if a0_0 = 0 then (some (a0_2 == 0)) else (if 0 < (l0_1.length : Int) then (if (Int.tmod (rd l0_1 0) 2) = 1 then (if a0_2 ≥ (-3000) then (some (decide (a0_2 ≤ 3000))) else (some false)) else (some false)) else (none))) = some r := by rw [if_pos rfl] at H; exact H
  clear H
  have H := H1
  clear H1
  by_cases c4 : a0_0 = 0
  ·rw [if_pos c4] at H
   have c4b0 : (a0_0 == 0) = true := beq_iff_eq.mpr c4
   have c4b1 : (a0_0 != 0) = false := bne_eq_false_iff_eq.mpr c4
   clear c4
   obtain rfl := Option.some.inj H
   go_enter Tryz.func40, Tryz.ntmps40
   go_wp2_with (first | ((with_reducible refine gate_dst (N := 1) rfl ?_); refine box_event ?hg (N := 1) ?hd (cs := #[.int .i64 a0_0, .slice A0_1 l0_1.length c0_1, .int .i64 a0_2]) (t := 30) ?hr ?_; (case hd => rfl); (case hg => rfl); (case hr => first | (go_simp; done) | (go_simp; rfl)); intro gb399 hg w5 hbox hb; have n0_ := Azq.mk (wtq (by repeat (first | (with_reducible first | exact HB.out | apply waq | apply wdq | apply wrq) | exact HB.out)) hb); have n1_ := Azq.mk (hbox); have n2_ := Azq.mk ((by rw [hg]; exact (wzq (by repeat (first | (with_reducible first | exact HB.out | apply waq | apply wdq | apply wrq) | exact HB.out))) : w.heap.size ≤ gb399)); have n3_ := n2_; clear HB; have HB := n0_; have BK399 := n1_; have GW399 := n2_; have GE399 := n3_; clear n0_ n1_ n2_ n3_; clear hb hbox hg; have hcz6_0 : w5.cell? ⟨gb399, 0, none⟩ = some (.int .i64 a0_0) := (kcq BK399.out 0).trans rfl; have hcz6_1 : w5.cell? ⟨gb399, 1, none⟩ = some (.slice A0_1 l0_1.length c0_1) := (kcq BK399.out 1).trans rfl; have hcz6_2 : w5.cell? ⟨gb399, 2, none⟩ = some (.int .i64 a0_2) := (kcq BK399.out 2).trans rfl; have hfz6_0 := kfq BK399.out 0; have hfz6_1 := kfq BK399.out 1; have hfz6_2 := kfq BK399.out 2) | ((with_reducible refine gate_callee (f := 66) rfl ?_); refine goesL_ (some 5) rfl rfl Tryz.func66 (by kernel_rfl) rfl #[.agg #[.int .i64 a0_0, .slice A0_1 l0_1.length c0_1]] rfl (by (try simp only [List.map_toArray, List.map_cons, List.map_nil]); first | done | rfl | (simp only [List.length_drop, List.length_take]; rfl)) ?_; (with_reducible refine (impl_IsWhole.calls k a0_0 _ _ l0_1 true _ ?side1 ?side2 A2.out).mono ?_); (case side1 => repeat (first | exact (Kd.C_below HR0_1.out HB.out) | (with_reducible refine Kd.C_alloc ?_ _) | (with_reducible refine Kd.C_drewN ?_ _) | (with_reducible refine Kd.C_drew ?_))); (case side2 => exact HC0_1.out); rintro e w7 ⟨rfl, hb⟩; refine ⟨_, rfl, ?_⟩; have n0_ := Azq.mk (kbq (g := gb399) (o := .cells #[.int .i64 a0_0, .slice A0_1 l0_1.length c0_1, .int .i64 a0_2] 30 (0, 0)) (by (with_reducible repeat (first | refine kdq ?_ _ | refine krq ?_ | refine kaq ?_ _)); exact BK399.out) hb); have n1_ := Azq.mk (wtq (by repeat (first | (with_reducible first | exact HB.out | apply waq | apply wdq | apply wrq | refine wsq ?_ GE399.out) | exact HB.out)) hb); clear BK399; clear HB; have BK399 := n0_; have HB := n1_; clear n0_ n1_; (try clear hb); (try clear hb2); (try clear hk); (try clear hi); have hcz8_0 : w7.cell? ⟨gb399, 0, none⟩ = some (.int .i64 a0_0) := (kcq BK399.out 0).trans rfl; have hcz8_1 : w7.cell? ⟨gb399, 1, none⟩ = some (.slice A0_1 l0_1.length c0_1) := (kcq BK399.out 1).trans rfl; have hcz8_2 : w7.cell? ⟨gb399, 2, none⟩ = some (.int .i64 a0_2) := (kcq BK399.out 2).trans rfl; have hfz8_0 := kfq BK399.out 0; have hfz8_1 := kfq BK399.out 1; have hfz8_2 := kfq BK399.out 2))
   go_ret
   exact ⟨by first | rfl | (simp [errW_none, errW_some] <;> rfl) | (simp [*, errW_none, errW_some] <;> rfl), by repeat (first | (with_reducible first | exact HB.out | apply waq | apply wdq | apply wrq | refine wsq ?_ GE399.out) | exact HB.out)⟩
  ·rw [if_neg c4] at H
   have c4b0 : (a0_0 == 0) = false := beq_eq_false_iff_ne.mpr c4
   have c4b1 : (a0_0 != 0) = true := bne_iff_ne.mpr c4
   by_cases c9 : 0 < (l0_1.length : Int)
   ·rw [if_pos c9] at H
    have c9b0 : decide (0 < (l0_1.length : Int)) = true := decide_eq_true c9
    have c9b1 : decide (0 < l0_1.length) = true := decide_eq_true (by omega)
    clear c9
    by_cases c10 : (Int.tmod (rd l0_1 0) 2) = 1
    ·rw [if_pos c10] at H
     have c10b0 : ((Int.tmod (rd l0_1 0) 2) == 1) = true := beq_iff_eq.mpr c10
     have c10b1 : ((Int.tmod (rd l0_1 0) 2) != 1) = false := bne_eq_false_iff_eq.mpr c10
     clear c10
     by_cases c11 : a0_2 ≥ (-3000)
     ·rw [if_pos c11] at H
      have c11b0 : decide ((-3000) ≤ a0_2) = true := decide_eq_true c11
      clear c11
      obtain rfl := Option.some.inj H
      go_enter Tryz.func40, Tryz.ntmps40
      go_wp2_with (first | ((with_reducible refine gate_dst (N := 1) rfl ?_); refine box_event ?hg (N := 1) ?hd (cs := #[.int .i64 a0_0, .slice A0_1 l0_1.length c0_1, .int .i64 a0_2]) (t := 30) ?hr ?_; (case hd => rfl); (case hg => rfl); (case hr => first | (go_simp; done) | (go_simp; rfl)); intro gb399 hg w12 hbox hb; have n0_ := Azq.mk (wtq (by repeat (first | (with_reducible first | exact HB.out | apply waq | apply wdq | apply wrq) | exact HB.out)) hb); have n1_ := Azq.mk (hbox); have n2_ := Azq.mk ((by rw [hg]; exact (wzq (by repeat (first | (with_reducible first | exact HB.out | apply waq | apply wdq | apply wrq) | exact HB.out))) : w.heap.size ≤ gb399)); have n3_ := n2_; clear HB; have HB := n0_; have BK399 := n1_; have GW399 := n2_; have GE399 := n3_; clear n0_ n1_ n2_ n3_; clear hb hbox hg; have hcz13_0 : w12.cell? ⟨gb399, 0, none⟩ = some (.int .i64 a0_0) := (kcq BK399.out 0).trans rfl; have hcz13_1 : w12.cell? ⟨gb399, 1, none⟩ = some (.slice A0_1 l0_1.length c0_1) := (kcq BK399.out 1).trans rfl; have hcz13_2 : w12.cell? ⟨gb399, 2, none⟩ = some (.int .i64 a0_2) := (kcq BK399.out 2).trans rfl; have hfz13_0 := kfq BK399.out 0; have hfz13_1 := kfq BK399.out 1; have hfz13_2 := kfq BK399.out 2) | ((with_reducible refine gate_callee (f := 66) rfl ?_); refine goesL_ (some 5) rfl rfl Tryz.func66 (by kernel_rfl) rfl #[.agg #[.int .i64 a0_0, .slice A0_1 l0_1.length c0_1]] rfl (by (try simp only [List.map_toArray, List.map_cons, List.map_nil]); first | done | rfl | (simp only [List.length_drop, List.length_take]; rfl)) ?_; (with_reducible refine (impl_IsWhole.calls k a0_0 _ _ l0_1 true _ ?side1 ?side2 A2.out).mono ?_); (case side1 => repeat (first | exact (Kd.C_below HR0_1.out HB.out) | (with_reducible refine Kd.C_alloc ?_ _) | (with_reducible refine Kd.C_drewN ?_ _) | (with_reducible refine Kd.C_drew ?_))); (case side2 => exact HC0_1.out); rintro e w14 ⟨rfl, hb⟩; refine ⟨_, rfl, ?_⟩; have n0_ := Azq.mk (kbq (g := gb399) (o := .cells #[.int .i64 a0_0, .slice A0_1 l0_1.length c0_1, .int .i64 a0_2] 30 (0, 0)) (by (with_reducible repeat (first | refine kdq ?_ _ | refine krq ?_ | refine kaq ?_ _)); exact BK399.out) hb); have n1_ := Azq.mk (wtq (by repeat (first | (with_reducible first | exact HB.out | apply waq | apply wdq | apply wrq | refine wsq ?_ GE399.out) | exact HB.out)) hb); clear BK399; clear HB; have BK399 := n0_; have HB := n1_; clear n0_ n1_; (try clear hb); (try clear hb2); (try clear hk); (try clear hi); have hcz15_0 : w14.cell? ⟨gb399, 0, none⟩ = some (.int .i64 a0_0) := (kcq BK399.out 0).trans rfl; have hcz15_1 : w14.cell? ⟨gb399, 1, none⟩ = some (.slice A0_1 l0_1.length c0_1) := (kcq BK399.out 1).trans rfl; have hcz15_2 : w14.cell? ⟨gb399, 2, none⟩ = some (.int .i64 a0_2) := (kcq BK399.out 2).trans rfl; have hfz15_0 := kfq BK399.out 0; have hfz15_1 := kfq BK399.out 1; have hfz15_2 := kfq BK399.out 2; have p401 : 0 ≤ (0 : Int) := (by omega); have q401 : 0 < (l0_1.length : Int) := of_decide_eq_true (by first | (with_reducible assumption) | assumption); obtain ⟨ad401, e401, hx401_0⟩ := Kd.at_int HR0_1.out 0 p401 q401; cases e401; have qi401 : (0 < l0_1.length) = True := eq_true (by omega); (try rw [show ((0 : Int)).toNat = 0 from rfl] at hx401_0); (try rw [Addr.add_zero'] at hx401_0); replace hx401_0 := (HB.out.cell (World.block_lt_of_cell? w _ hx401_0)).trans hx401_0; replace p401 := eq_true p401; replace q401 := eq_true q401))
      go_ret
      exact ⟨by first | rfl | (simp [errW_none, errW_some] <;> rfl) | (simp [*, errW_none, errW_some] <;> rfl), by repeat (first | (with_reducible first | exact HB.out | apply waq | apply wdq | apply wrq | refine wsq ?_ GE399.out) | exact HB.out)⟩
     ·rw [if_neg c11] at H
      have c11b0 : decide ((-3000) ≤ a0_2) = false := decide_eq_false c11
      clear c11
      obtain rfl := Option.some.inj H
      go_enter Tryz.func40, Tryz.ntmps40
      go_wp2_with (first | ((with_reducible refine gate_dst (N := 1) rfl ?_); refine box_event ?hg (N := 1) ?hd (cs := #[.int .i64 a0_0, .slice A0_1 l0_1.length c0_1, .int .i64 a0_2]) (t := 30) ?hr ?_; (case hd => rfl); (case hg => rfl); (case hr => first | (go_simp; done) | (go_simp; rfl)); intro gb399 hg w16 hbox hb; have n0_ := Azq.mk (wtq (by repeat (first | (with_reducible first | exact HB.out | apply waq | apply wdq | apply wrq) | exact HB.out)) hb); have n1_ := Azq.mk (hbox); have n2_ := Azq.mk ((by rw [hg]; exact (wzq (by repeat (first | (with_reducible first | exact HB.out | apply waq | apply wdq | apply wrq) | exact HB.out))) : w.heap.size ≤ gb399)); have n3_ := n2_; clear HB; have HB := n0_; have BK399 := n1_; have GW399 := n2_; have GE399 := n3_; clear n0_ n1_ n2_ n3_; clear hb hbox hg; have hcz17_0 : w16.cell? ⟨gb399, 0, none⟩ = some (.int .i64 a0_0) := (kcq BK399.out 0).trans rfl; have hcz17_1 : w16.cell? ⟨gb399, 1, none⟩ = some (.slice A0_1 l0_1.length c0_1) := (kcq BK399.out 1).trans rfl; have hcz17_2 : w16.cell? ⟨gb399, 2, none⟩ = some (.int .i64 a0_2) := (kcq BK399.out 2).trans rfl; have hfz17_0 := kfq BK399.out 0; have hfz17_1 := kfq BK399.out 1; have hfz17_2 := kfq BK399.out 2) | ((with_reducible refine gate_callee (f := 66) rfl ?_); refine goesL_ (some 5) rfl rfl Tryz.func66 (by kernel_rfl) rfl #[.agg #[.int .i64 a0_0, .slice A0_1 l0_1.length c0_1]] rfl (by (try simp only [List.map_toArray, List.map_cons, List.map_nil]); first | done | rfl | (simp only [List.length_drop, List.length_take]; rfl)) ?_; (with_reducible refine (impl_IsWhole.calls k a0_0 _ _ l0_1 true _ ?side1 ?side2 A2.out).mono ?_); (case side1 => repeat (first | exact (Kd.C_below HR0_1.out HB.out) | (with_reducible refine Kd.C_alloc ?_ _) | (with_reducible refine Kd.C_drewN ?_ _) | (with_reducible refine Kd.C_drew ?_))); (case side2 => exact HC0_1.out); rintro e w18 ⟨rfl, hb⟩; refine ⟨_, rfl, ?_⟩; have n0_ := Azq.mk (kbq (g := gb399) (o := .cells #[.int .i64 a0_0, .slice A0_1 l0_1.length c0_1, .int .i64 a0_2] 30 (0, 0)) (by (with_reducible repeat (first | refine kdq ?_ _ | refine krq ?_ | refine kaq ?_ _)); exact BK399.out) hb); have n1_ := Azq.mk (wtq (by repeat (first | (with_reducible first | exact HB.out | apply waq | apply wdq | apply wrq | refine wsq ?_ GE399.out) | exact HB.out)) hb); clear BK399; clear HB; have BK399 := n0_; have HB := n1_; clear n0_ n1_; (try clear hb); (try clear hb2); (try clear hk); (try clear hi); have hcz19_0 : w18.cell? ⟨gb399, 0, none⟩ = some (.int .i64 a0_0) := (kcq BK399.out 0).trans rfl; have hcz19_1 : w18.cell? ⟨gb399, 1, none⟩ = some (.slice A0_1 l0_1.length c0_1) := (kcq BK399.out 1).trans rfl; have hcz19_2 : w18.cell? ⟨gb399, 2, none⟩ = some (.int .i64 a0_2) := (kcq BK399.out 2).trans rfl; have hfz19_0 := kfq BK399.out 0; have hfz19_1 := kfq BK399.out 1; have hfz19_2 := kfq BK399.out 2; have p401 : 0 ≤ (0 : Int) := (by omega); have q401 : 0 < (l0_1.length : Int) := of_decide_eq_true (by first | (with_reducible assumption) | assumption); obtain ⟨ad401, e401, hx401_0⟩ := Kd.at_int HR0_1.out 0 p401 q401; cases e401; have qi401 : (0 < l0_1.length) = True := eq_true (by omega); (try rw [show ((0 : Int)).toNat = 0 from rfl] at hx401_0); (try rw [Addr.add_zero'] at hx401_0); replace hx401_0 := (HB.out.cell (World.block_lt_of_cell? w _ hx401_0)).trans hx401_0; replace p401 := eq_true p401; replace q401 := eq_true q401))
      go_ret
      exact ⟨by first | rfl | (simp [errW_none, errW_some] <;> rfl) | (simp [*, errW_none, errW_some] <;> rfl), by repeat (first | (with_reducible first | exact HB.out | apply waq | apply wdq | apply wrq | refine wsq ?_ GE399.out) | exact HB.out)⟩
    ·rw [if_neg c10] at H
     have c10b0 : ((Int.tmod (rd l0_1 0) 2) == 1) = false := beq_eq_false_iff_ne.mpr c10
     have c10b1 : ((Int.tmod (rd l0_1 0) 2) != 1) = true := bne_iff_ne.mpr c10
     obtain rfl := Option.some.inj H
     go_enter Tryz.func40, Tryz.ntmps40
     go_wp2_with (first | ((with_reducible refine gate_dst (N := 1) rfl ?_); refine box_event ?hg (N := 1) ?hd (cs := #[.int .i64 a0_0, .slice A0_1 l0_1.length c0_1, .int .i64 a0_2]) (t := 30) ?hr ?_; (case hd => rfl); (case hg => rfl); (case hr => first | (go_simp; done) | (go_simp; rfl)); intro gb399 hg w20 hbox hb; have n0_ := Azq.mk (wtq (by repeat (first | (with_reducible first | exact HB.out | apply waq | apply wdq | apply wrq) | exact HB.out)) hb); have n1_ := Azq.mk (hbox); have n2_ := Azq.mk ((by rw [hg]; exact (wzq (by repeat (first | (with_reducible first | exact HB.out | apply waq | apply wdq | apply wrq) | exact HB.out))) : w.heap.size ≤ gb399)); have n3_ := n2_; clear HB; have HB := n0_; have BK399 := n1_; have GW399 := n2_; have GE399 := n3_; clear n0_ n1_ n2_ n3_; clear hb hbox hg; have hcz21_0 : w20.cell? ⟨gb399, 0, none⟩ = some (.int .i64 a0_0) := (kcq BK399.out 0).trans rfl; have hcz21_1 : w20.cell? ⟨gb399, 1, none⟩ = some (.slice A0_1 l0_1.length c0_1) := (kcq BK399.out 1).trans rfl; have hcz21_2 : w20.cell? ⟨gb399, 2, none⟩ = some (.int .i64 a0_2) := (kcq BK399.out 2).trans rfl; have hfz21_0 := kfq BK399.out 0; have hfz21_1 := kfq BK399.out 1; have hfz21_2 := kfq BK399.out 2) | ((with_reducible refine gate_callee (f := 66) rfl ?_); refine goesL_ (some 5) rfl rfl Tryz.func66 (by kernel_rfl) rfl #[.agg #[.int .i64 a0_0, .slice A0_1 l0_1.length c0_1]] rfl (by (try simp only [List.map_toArray, List.map_cons, List.map_nil]); first | done | rfl | (simp only [List.length_drop, List.length_take]; rfl)) ?_; (with_reducible refine (impl_IsWhole.calls k a0_0 _ _ l0_1 true _ ?side1 ?side2 A2.out).mono ?_); (case side1 => repeat (first | exact (Kd.C_below HR0_1.out HB.out) | (with_reducible refine Kd.C_alloc ?_ _) | (with_reducible refine Kd.C_drewN ?_ _) | (with_reducible refine Kd.C_drew ?_))); (case side2 => exact HC0_1.out); rintro e w22 ⟨rfl, hb⟩; refine ⟨_, rfl, ?_⟩; have n0_ := Azq.mk (kbq (g := gb399) (o := .cells #[.int .i64 a0_0, .slice A0_1 l0_1.length c0_1, .int .i64 a0_2] 30 (0, 0)) (by (with_reducible repeat (first | refine kdq ?_ _ | refine krq ?_ | refine kaq ?_ _)); exact BK399.out) hb); have n1_ := Azq.mk (wtq (by repeat (first | (with_reducible first | exact HB.out | apply waq | apply wdq | apply wrq | refine wsq ?_ GE399.out) | exact HB.out)) hb); clear BK399; clear HB; have BK399 := n0_; have HB := n1_; clear n0_ n1_; (try clear hb); (try clear hb2); (try clear hk); (try clear hi); have hcz23_0 : w22.cell? ⟨gb399, 0, none⟩ = some (.int .i64 a0_0) := (kcq BK399.out 0).trans rfl; have hcz23_1 : w22.cell? ⟨gb399, 1, none⟩ = some (.slice A0_1 l0_1.length c0_1) := (kcq BK399.out 1).trans rfl; have hcz23_2 : w22.cell? ⟨gb399, 2, none⟩ = some (.int .i64 a0_2) := (kcq BK399.out 2).trans rfl; have hfz23_0 := kfq BK399.out 0; have hfz23_1 := kfq BK399.out 1; have hfz23_2 := kfq BK399.out 2; have p401 : 0 ≤ (0 : Int) := (by omega); have q401 : 0 < (l0_1.length : Int) := of_decide_eq_true (by first | (with_reducible assumption) | assumption); obtain ⟨ad401, e401, hx401_0⟩ := Kd.at_int HR0_1.out 0 p401 q401; cases e401; have qi401 : (0 < l0_1.length) = True := eq_true (by omega); (try rw [show ((0 : Int)).toNat = 0 from rfl] at hx401_0); (try rw [Addr.add_zero'] at hx401_0); replace hx401_0 := (HB.out.cell (World.block_lt_of_cell? w _ hx401_0)).trans hx401_0; replace p401 := eq_true p401; replace q401 := eq_true q401))
     go_ret
     exact ⟨by first | rfl | (simp [errW_none, errW_some] <;> rfl) | (simp [*, errW_none, errW_some] <;> rfl), by repeat (first | (with_reducible first | exact HB.out | apply waq | apply wdq | apply wrq | refine wsq ?_ GE399.out) | exact HB.out)⟩
   ·rw [if_neg c9] at H
    exact absurd H (by simp)
 ·replace c3 := Bool.eq_false_iff.mpr c3
  subst c3
  have H1 : (some false) = some r := by rw [if_neg (show ¬ (false = true) by decide)] at H; exact H
  clear H
  have H := H1
  clear H1
  obtain rfl := Option.some.inj H
  go_enter Tryz.func40, Tryz.ntmps40
  go_wp2_with (first | ((with_reducible refine gate_dst (N := 1) rfl ?_); refine box_event ?hg (N := 1) ?hd (cs := #[.int .i64 a0_0, .slice A0_1 l0_1.length c0_1, .int .i64 a0_2]) (t := 30) ?hr ?_; (case hd => rfl); (case hg => rfl); (case hr => first | (go_simp; done) | (go_simp; rfl)); intro gb399 hg w24 hbox hb; have n0_ := Azq.mk (wtq (by repeat (first | (with_reducible first | exact HB.out | apply waq | apply wdq | apply wrq) | exact HB.out)) hb); have n1_ := Azq.mk (hbox); have n2_ := Azq.mk ((by rw [hg]; exact (wzq (by repeat (first | (with_reducible first | exact HB.out | apply waq | apply wdq | apply wrq) | exact HB.out))) : w.heap.size ≤ gb399)); have n3_ := n2_; clear HB; have HB := n0_; have BK399 := n1_; have GW399 := n2_; have GE399 := n3_; clear n0_ n1_ n2_ n3_; clear hb hbox hg; have hcz25_0 : w24.cell? ⟨gb399, 0, none⟩ = some (.int .i64 a0_0) := (kcq BK399.out 0).trans rfl; have hcz25_1 : w24.cell? ⟨gb399, 1, none⟩ = some (.slice A0_1 l0_1.length c0_1) := (kcq BK399.out 1).trans rfl; have hcz25_2 : w24.cell? ⟨gb399, 2, none⟩ = some (.int .i64 a0_2) := (kcq BK399.out 2).trans rfl; have hfz25_0 := kfq BK399.out 0; have hfz25_1 := kfq BK399.out 1; have hfz25_2 := kfq BK399.out 2) | ((with_reducible refine gate_callee (f := 66) rfl ?_); refine goesL_ (some 5) rfl rfl Tryz.func66 (by kernel_rfl) rfl #[.agg #[.int .i64 a0_0, .slice A0_1 l0_1.length c0_1]] rfl (by (try simp only [List.map_toArray, List.map_cons, List.map_nil]); first | done | rfl | (simp only [List.length_drop, List.length_take]; rfl)) ?_; (with_reducible refine (impl_IsWhole.calls k a0_0 _ _ l0_1 false _ ?side1 ?side2 A2.out).mono ?_); (case side1 => repeat (first | exact (Kd.C_below HR0_1.out HB.out) | (with_reducible refine Kd.C_alloc ?_ _) | (with_reducible refine Kd.C_drewN ?_ _) | (with_reducible refine Kd.C_drew ?_))); (case side2 => exact HC0_1.out); rintro e w26 ⟨rfl, hb⟩; refine ⟨_, rfl, ?_⟩; have n0_ := Azq.mk (kbq (g := gb399) (o := .cells #[.int .i64 a0_0, .slice A0_1 l0_1.length c0_1, .int .i64 a0_2] 30 (0, 0)) (by (with_reducible repeat (first | refine kdq ?_ _ | refine krq ?_ | refine kaq ?_ _)); exact BK399.out) hb); have n1_ := Azq.mk (wtq (by repeat (first | (with_reducible first | exact HB.out | apply waq | apply wdq | apply wrq | refine wsq ?_ GE399.out) | exact HB.out)) hb); clear BK399; clear HB; have BK399 := n0_; have HB := n1_; clear n0_ n1_; (try clear hb); (try clear hb2); (try clear hk); (try clear hi)))
  go_ret
  exact ⟨by first | rfl | (simp [errW_none, errW_some] <;> rfl) | (simp [*, errW_none, errW_some] <;> rfl), by repeat (first | (with_reducible first | exact HB.out | apply waq | apply wdq | apply wrq | refine wsq ?_ GE399.out) | exact HB.out)⟩
end Go.Proofs.YtjggbalhpflbbaaGreat.PW
end
section
namespace Go.Proofs.YtjggbalhpflbbaaGreat.PW
open Go.RowKit Go.Proofs.YtjggbalhpflbbaaGreatW.PrintWords Go.Proofs.YtjggbalhpflbbaaGreatW.PrintLast Go.Proofs.YtjggbalhpflbbaaGreatW.PrintMore
attribute [local go_sem] max2_int min2_int max_two min_two max_three min_three max_four min_four   -- for this text's walks alone
set_option linter.unusedVariables false
set_option linter.unusedSimpArgs false
def laws_szDyadic.f (a0_0 : Int) (l0_1 : List Int) (a0_2 : Int) (a1 : Int) : Option (Int) := (laws_szWhole.f a0_0 l0_1 a1).bind fun t104 => (if t104 < 0 then (some (-1)) else (some t104))
set_option maxHeartbeats 8000000 in
set_option maxRecDepth 100000 in
theorem laws_szDyadic.calls (a0_0 : Int) (A0_1 : Option Addr) (c0_1 : Nat) (l0_1 : List Int) (a0_2 : Int) (a1 : Int) (r : Int) (w : World) (hr0_1 : Kd.C (Kd.int .i64) w A0_1 l0_1.length l0_1) (hc0_1 : l0_1.length ≤ c0_1) (h : laws_szDyadic.f a0_0 l0_1 a0_2 a1 = some r) :
  Calls Tryz.prog 4 #[.agg #[.int .i64 a0_0, .slice A0_1 l0_1.length c0_1, .int .i64 a0_2], .int .i64 a1] w fun e w' => e = .returned (.int .i64 r) ∧ Below w.heap.size w w' := by
 have hu26 := Tryz.underlying26
 have hu24 := Tryz.underlying24
 have HR0_1 := Azq.mk hr0_1
 have HC0_1 := Azq.mk hc0_1
 clear hr0_1 hc0_1
 have HB := Azq.mk (Below.refl w.heap.size w)
 have H : ((laws_szWhole.f a0_0 l0_1 a1).bind fun t104 => (if t104 < 0 then (some (-1)) else (some t104))) = some r := h
 clear h
 replace H := Option.bind_eq_some_iff.mp H
 obtain ⟨t104, A30, H⟩ := H
 replace H : (if t104 < 0 then (some (-1)) else (some t104)) = some r := H
 have A3 := Azq.mk A30
 clear A30
 by_cases c4 : t104 < 0
 ·rw [if_pos c4] at H
  have c4b0 : decide (t104 < 0) = true := decide_eq_true c4
  clear c4
  obtain rfl := Option.some.inj H
  go_enter Tryz.func4, Tryz.ntmps4
  go_wp2_with (first | ((with_reducible refine gate_dst (N := 2) rfl ?_); refine box_event ?hg (N := 2) ?hd (cs := #[.int .i64 a0_0, .slice A0_1 l0_1.length c0_1, .int .i64 a0_2]) (t := 26) ?hr ?_; (case hd => rfl); (case hg => rfl); (case hr => first | (go_simp; done) | (go_simp; rfl)); intro gb103 hg w5 hbox hb; have n0_ := Azq.mk (wtq (by repeat (first | (with_reducible first | exact HB.out | apply waq | apply wdq | apply wrq) | exact HB.out)) hb); have n1_ := Azq.mk (hbox); have n2_ := Azq.mk ((by rw [hg]; exact (wzq (by repeat (first | (with_reducible first | exact HB.out | apply waq | apply wdq | apply wrq) | exact HB.out))) : w.heap.size ≤ gb103)); have n3_ := n2_; clear HB; have HB := n0_; have BK103 := n1_; have GW103 := n2_; have GE103 := n3_; clear n0_ n1_ n2_ n3_; clear hb hbox hg; have hcz6_0 : w5.cell? ⟨gb103, 0, none⟩ = some (.int .i64 a0_0) := (kcq BK103.out 0).trans rfl; have hcz6_1 : w5.cell? ⟨gb103, 1, none⟩ = some (.slice A0_1 l0_1.length c0_1) := (kcq BK103.out 1).trans rfl; have hcz6_2 : w5.cell? ⟨gb103, 2, none⟩ = some (.int .i64 a0_2) := (kcq BK103.out 2).trans rfl; have hfz6_0 := kfq BK103.out 0; have hfz6_1 := kfq BK103.out 1; have hfz6_2 := kfq BK103.out 2) | ((with_reducible refine gate_callee (f := 11) rfl ?_); refine goesL_ (some 8) rfl rfl Tryz.func11 (by kernel_rfl) rfl #[.agg #[.int .i64 a0_0, .slice A0_1 l0_1.length c0_1], .int .i64 a1] rfl (by (try simp only [List.map_toArray, List.map_cons, List.map_nil]); first | done | rfl | (simp only [List.length_drop, List.length_take]; rfl)) ?_; (with_reducible refine (laws_szWhole.calls a0_0 _ _ l0_1 a1 t104 _ ?side1 ?side2 A3.out).mono ?_); (case side1 => repeat (first | exact (Kd.C_below HR0_1.out HB.out) | (with_reducible refine Kd.C_alloc ?_ _) | (with_reducible refine Kd.C_drewN ?_ _) | (with_reducible refine Kd.C_drew ?_))); (case side2 => exact HC0_1.out); rintro e w7 ⟨rfl, hb⟩; refine ⟨_, rfl, ?_⟩; have n0_ := Azq.mk (kbq (g := gb103) (o := .cells #[.int .i64 a0_0, .slice A0_1 l0_1.length c0_1, .int .i64 a0_2] 26 (0, 0)) (by (with_reducible repeat (first | refine kdq ?_ _ | refine krq ?_ | refine kaq ?_ _)); exact BK103.out) hb); have n1_ := Azq.mk (wtq (by repeat (first | (with_reducible first | exact HB.out | apply waq | apply wdq | apply wrq | refine wsq ?_ GE103.out) | exact HB.out)) hb); clear BK103; clear HB; have BK103 := n0_; have HB := n1_; clear n0_ n1_; (try clear hb); (try clear hb2); (try clear hk); (try clear hi)))
  go_ret
  exact ⟨by first | rfl | (simp [errW_none, errW_some] <;> rfl) | (simp [*, errW_none, errW_some] <;> rfl), by repeat (first | (with_reducible first | exact HB.out | apply waq | apply wdq | apply wrq | refine wsq ?_ GE103.out) | exact HB.out)⟩
 ·rw [if_neg c4] at H
  have c4b0 : decide (t104 < 0) = false := decide_eq_false c4
  clear c4
  obtain rfl := Option.some.inj H
  go_enter Tryz.func4, Tryz.ntmps4
  go_wp2_with (first | ((with_reducible refine gate_dst (N := 2) rfl ?_); refine box_event ?hg (N := 2) ?hd (cs := #[.int .i64 a0_0, .slice A0_1 l0_1.length c0_1, .int .i64 a0_2]) (t := 26) ?hr ?_; (case hd => rfl); (case hg => rfl); (case hr => first | (go_simp; done) | (go_simp; rfl)); intro gb103 hg w8 hbox hb; have n0_ := Azq.mk (wtq (by repeat (first | (with_reducible first | exact HB.out | apply waq | apply wdq | apply wrq) | exact HB.out)) hb); have n1_ := Azq.mk (hbox); have n2_ := Azq.mk ((by rw [hg]; exact (wzq (by repeat (first | (with_reducible first | exact HB.out | apply waq | apply wdq | apply wrq) | exact HB.out))) : w.heap.size ≤ gb103)); have n3_ := n2_; clear HB; have HB := n0_; have BK103 := n1_; have GW103 := n2_; have GE103 := n3_; clear n0_ n1_ n2_ n3_; clear hb hbox hg; have hcz9_0 : w8.cell? ⟨gb103, 0, none⟩ = some (.int .i64 a0_0) := (kcq BK103.out 0).trans rfl; have hcz9_1 : w8.cell? ⟨gb103, 1, none⟩ = some (.slice A0_1 l0_1.length c0_1) := (kcq BK103.out 1).trans rfl; have hcz9_2 : w8.cell? ⟨gb103, 2, none⟩ = some (.int .i64 a0_2) := (kcq BK103.out 2).trans rfl; have hfz9_0 := kfq BK103.out 0; have hfz9_1 := kfq BK103.out 1; have hfz9_2 := kfq BK103.out 2) | ((with_reducible refine gate_callee (f := 11) rfl ?_); refine goesL_ (some 8) rfl rfl Tryz.func11 (by kernel_rfl) rfl #[.agg #[.int .i64 a0_0, .slice A0_1 l0_1.length c0_1], .int .i64 a1] rfl (by (try simp only [List.map_toArray, List.map_cons, List.map_nil]); first | done | rfl | (simp only [List.length_drop, List.length_take]; rfl)) ?_; (with_reducible refine (laws_szWhole.calls a0_0 _ _ l0_1 a1 t104 _ ?side1 ?side2 A3.out).mono ?_); (case side1 => repeat (first | exact (Kd.C_below HR0_1.out HB.out) | (with_reducible refine Kd.C_alloc ?_ _) | (with_reducible refine Kd.C_drewN ?_ _) | (with_reducible refine Kd.C_drew ?_))); (case side2 => exact HC0_1.out); rintro e w10 ⟨rfl, hb⟩; refine ⟨_, rfl, ?_⟩; have n0_ := Azq.mk (kbq (g := gb103) (o := .cells #[.int .i64 a0_0, .slice A0_1 l0_1.length c0_1, .int .i64 a0_2] 26 (0, 0)) (by (with_reducible repeat (first | refine kdq ?_ _ | refine krq ?_ | refine kaq ?_ _)); exact BK103.out) hb); have n1_ := Azq.mk (wtq (by repeat (first | (with_reducible first | exact HB.out | apply waq | apply wdq | apply wrq | refine wsq ?_ GE103.out) | exact HB.out)) hb); clear BK103; clear HB; have BK103 := n0_; have HB := n1_; clear n0_ n1_; (try clear hb); (try clear hb2); (try clear hk); (try clear hi)))
  go_ret
  exact ⟨by first | rfl | (simp [errW_none, errW_some] <;> rfl) | (simp [*, errW_none, errW_some] <;> rfl), by repeat (first | (with_reducible first | exact HB.out | apply waq | apply wdq | apply wrq | refine wsq ?_ GE103.out) | exact HB.out)⟩
end Go.Proofs.YtjggbalhpflbbaaGreat.PW
end
section
namespace Go.Proofs.YtjggbalhpflbbaaGreat.PW
open Go.RowKit Go.Proofs.YtjggbalhpflbbaaGreatW.PrintWords Go.Proofs.YtjggbalhpflbbaaGreatW.PrintLast Go.Proofs.YtjggbalhpflbbaaGreatW.PrintMore
attribute [local go_sem] max2_int min2_int max_two min_two max_three min_three max_four min_four   -- for this text's walks alone
set_option linter.unusedVariables false
set_option linter.unusedSimpArgs false
def laws_toDyadic.f (k : Nat) (a0_0 : Int) (l0_1 : List Int) (a0_2 : Int) : Option (Int × List Int × Int) := (laws_toWhole.f k a0_0 l0_1).bind fun bt373 => (some (bt373.1, bt373.2, a0_2))
theorem laws_toDyadic.mono : ∀ a0 a1 a2 k, LeO (laws_toDyadic.f k a0 a1 a2) (laws_toDyadic.f (k + 1) a0 a1 a2) := by
 intro a0 a1 a2 k
 unfold laws_toDyadic.f
 repeat' first
   | (with_reducible exact laws_toWhole.mono _ _ _)
   | (with_reducible exact LeO.refl _)
   | (with_reducible exact LeO.none _)
   | (with_reducible refine LeO.ite ?_ ?_)
   | (with_reducible refine LeO.bind ?_ (fun _ => ?_))
   | exact laws_toWhole.mono _ _ _
   | exact LeO.none _
   | refine LeO.ite ?_ ?_
   | refine LeO.bind ?_ (fun _ => ?_)
set_option maxHeartbeats 8000000 in
set_option maxRecDepth 100000 in
theorem laws_toDyadic.calls (k : Nat) (a0_0 : Int) (A0_1 : Option Addr) (c0_1 : Nat) (l0_1 : List Int) (a0_2 : Int) (r1 : Int) (r2 : List Int) (r3 : Int) (w : World) (hr0_1 : Kd.C (Kd.int .i64) w A0_1 l0_1.length l0_1) (hc0_1 : l0_1.length ≤ c0_1) (h : laws_toDyadic.f k a0_0 l0_1 a0_2 = some (r1, r2, r3)) :
  Calls Tryz.prog 6 #[.agg #[.int .i64 a0_0, .slice A0_1 l0_1.length c0_1, .int .i64 a0_2]] w fun e w' => ∃ v1_ : Value, e = .returned (.agg #[.int .i64 r1, v1_, .int .i64 r3]) ∧ Kd.R (Kd.int .i64) 2 w' w.heap.size (fun _ => True) v1_ r2 ∧ Below w.heap.size w w' := by
 have hu26 := Tryz.underlying26
 have hu30 := Tryz.underlying30
 have hu24 := Tryz.underlying24
 have hu28 := Tryz.underlying28
 have HR0_1 := Azq.mk hr0_1
 have HC0_1 := Azq.mk hc0_1
 clear hr0_1 hc0_1
 have HB := Azq.mk (Below.refl w.heap.size w)
 have H : ((laws_toWhole.f k a0_0 l0_1).bind fun bt373 => (some (bt373.1, bt373.2, a0_2))) = some (r1, r2, r3) := h
 clear h
 replace H := Option.bind_eq_some_iff.mp H
 obtain ⟨⟨t373, t374⟩, A20, H⟩ := H
 replace H : (some (t373, t374, a0_2)) = some (r1, r2, r3) := H
 have A2 := Azq.mk A20
 clear A20
 simp only [Option.some.injEq, Prod.mk.injEq] at H
 obtain ⟨rfl, rfl, rfl⟩ := H
 go_enter Tryz.func6, Tryz.ntmps6
 go_wp2_with (first | ((with_reducible refine gate_dst (N := 1) rfl ?_); refine box_event ?hg (N := 1) ?hd (cs := #[.int .i64 a0_0, .slice A0_1 l0_1.length c0_1, .int .i64 a0_2]) (t := 26) ?hr ?_; (case hd => rfl); (case hg => rfl); (case hr => first | (go_simp; done) | (go_simp; rfl)); intro gb370 hg w3 hbox hb; have n0_ := Azq.mk (wtq (by repeat (first | (with_reducible first | exact HB.out | apply waq | apply wdq | apply wrq) | exact HB.out)) hb); have n1_ := Azq.mk (hbox); have n2_ := Azq.mk ((by rw [hg]; exact (wzq (by repeat (first | (with_reducible first | exact HB.out | apply waq | apply wdq | apply wrq) | exact HB.out))) : w.heap.size ≤ gb370)); have n3_ := n2_; clear HB; have HB := n0_; have BK370 := n1_; have GW370 := n2_; have GE370 := n3_; clear n0_ n1_ n2_ n3_; clear hb hbox hg) | ((with_reducible refine gate_dst (N := 2) rfl ?_); refine box_event ?hg (N := 2) ?hd (cs := #[.int .i64 0, .slice none 0 0, .int .i64 0]) (t := 30) ?hr ?_; (case hd => rfl); (case hg => rfl); (case hr => first | (go_simp; done) | (go_simp; rfl)); intro gb371 hg w4 hbox hb; have n0_ := Azq.mk (kbq (g := gb370) (o := .cells #[.int .i64 a0_0, .slice A0_1 l0_1.length c0_1, .int .i64 a0_2] 26 (0, 0)) (by (with_reducible repeat (first | refine kdq ?_ _ | refine krq ?_ | refine kaq ?_ _)); exact BK370.out) hb); have n1_ := Azq.mk (wtq (by repeat (first | (with_reducible first | exact HB.out | apply waq | apply wdq | apply wrq | refine wsq ?_ GE370.out) | exact HB.out)) hb); have n2_ := Azq.mk (hbox); have n3_ := Azq.mk ((by rw [hg]; exact (wzq (by repeat (first | (with_reducible first | exact HB.out | apply waq | apply wdq | apply wrq | refine wsq ?_ GE370.out) | exact HB.out))) : w.heap.size ≤ gb371)); have n4_ := n3_; have n5_ := Azq.mk ((by rw [hg]; exact Nat.ne_of_lt (klq (g := gb370) (o := .cells #[.int .i64 a0_0, .slice A0_1 l0_1.length c0_1, .int .i64 a0_2] 26 (0, 0)) (by (with_reducible repeat (first | refine kdq ?_ _ | refine krq ?_ | refine kaq ?_ _)); exact BK370.out)) : gb370 ≠ gb371)); have n6_ := Azq.mk ((by rw [hg]; exact Nat.ne_of_gt (klq (g := gb370) (o := .cells #[.int .i64 a0_0, .slice A0_1 l0_1.length c0_1, .int .i64 a0_2] 26 (0, 0)) (by (with_reducible repeat (first | refine kdq ?_ _ | refine krq ?_ | refine kaq ?_ _)); exact BK370.out)) : gb371 ≠ gb370)); clear BK370; clear HB; have BK370 := n0_; have HB := n1_; have BK371 := n2_; have GW371 := n3_; have GE371 := n4_; have NB370_371 := n5_; have NB371_370 := n6_; clear n0_ n1_ n2_ n3_ n4_ n5_ n6_; clear hb hbox hg) | ((with_reducible refine gate_dst (N := 3) rfl ?_); refine box_event ?hg (N := 3) ?hd (cs := #[.int .i64 0, .slice none 0 0, .int .i64 0]) (t := 30) ?hr ?_; (case hd => rfl); (case hg => rfl); (case hr => first | (go_simp; done) | (go_simp; rfl)); intro gb372 hg w5 hbox hb; have n0_ := Azq.mk (kbq (g := gb370) (o := .cells #[.int .i64 a0_0, .slice A0_1 l0_1.length c0_1, .int .i64 a0_2] 26 (0, 0)) (by (with_reducible repeat (first | refine kdq ?_ _ | refine krq ?_ | refine kaq ?_ _)); exact BK370.out) hb); have n1_ := Azq.mk (kbq (g := gb371) (o := .cells #[.int .i64 0, .slice none 0 0, .int .i64 0] 30 (0, 0)) (by (with_reducible repeat (first | refine kdq ?_ _ | refine krq ?_ | refine kaq ?_ _)); exact BK371.out) hb); have n2_ := Azq.mk (wtq (by repeat (first | (with_reducible first | exact HB.out | apply waq | apply wdq | apply wrq | refine wsq ?_ GE370.out | refine wsq ?_ GE371.out) | exact HB.out)) hb); have n3_ := Azq.mk (hbox); have n4_ := Azq.mk ((by rw [hg]; exact (wzq (by repeat (first | (with_reducible first | exact HB.out | apply waq | apply wdq | apply wrq | refine wsq ?_ GE370.out | refine wsq ?_ GE371.out) | exact HB.out))) : w.heap.size ≤ gb372)); have n5_ := n4_; have n6_ := Azq.mk ((by rw [hg]; exact Nat.ne_of_lt (klq (g := gb370) (o := .cells #[.int .i64 a0_0, .slice A0_1 l0_1.length c0_1, .int .i64 a0_2] 26 (0, 0)) (by (with_reducible repeat (first | refine kdq ?_ _ | refine krq ?_ | refine kaq ?_ _)); exact BK370.out)) : gb370 ≠ gb372)); have n7_ := Azq.mk ((by rw [hg]; exact Nat.ne_of_gt (klq (g := gb370) (o := .cells #[.int .i64 a0_0, .slice A0_1 l0_1.length c0_1, .int .i64 a0_2] 26 (0, 0)) (by (with_reducible repeat (first | refine kdq ?_ _ | refine krq ?_ | refine kaq ?_ _)); exact BK370.out)) : gb372 ≠ gb370)); have n8_ := Azq.mk ((by rw [hg]; exact Nat.ne_of_lt (klq (g := gb371) (o := .cells #[.int .i64 0, .slice none 0 0, .int .i64 0] 30 (0, 0)) (by (with_reducible repeat (first | refine kdq ?_ _ | refine krq ?_ | refine kaq ?_ _)); exact BK371.out)) : gb371 ≠ gb372)); have n9_ := Azq.mk ((by rw [hg]; exact Nat.ne_of_gt (klq (g := gb371) (o := .cells #[.int .i64 0, .slice none 0 0, .int .i64 0] 30 (0, 0)) (by (with_reducible repeat (first | refine kdq ?_ _ | refine krq ?_ | refine kaq ?_ _)); exact BK371.out)) : gb372 ≠ gb371)); clear BK370; clear BK371; clear HB; have BK370 := n0_; have BK371 := n1_; have HB := n2_; have BK372 := n3_; have GW372 := n4_; have GE372 := n5_; have NB370_372 := n6_; have NB372_370 := n7_; have NB371_372 := n8_; have NB372_371 := n9_; clear n0_ n1_ n2_ n3_ n4_ n5_ n6_ n7_ n8_ n9_; clear hb hbox hg; have hnb6 := NB370_371.out; have hnc6 := NB371_370.out; have hnb7 := NB370_372.out; have hnc7 := NB372_370.out; have hcz8_0 : w5.cell? ⟨gb370, 0, none⟩ = some (.int .i64 a0_0) := (kcq BK370.out 0).trans rfl; have hcz8_1 : w5.cell? ⟨gb370, 1, none⟩ = some (.slice A0_1 l0_1.length c0_1) := (kcq BK370.out 1).trans rfl; have hcz8_2 : w5.cell? ⟨gb370, 2, none⟩ = some (.int .i64 a0_2) := (kcq BK370.out 2).trans rfl; have hfz8_0 := kfq BK370.out 0; have hfz8_1 := kfq BK370.out 1; have hfz8_2 := kfq BK370.out 2) | ((with_reducible refine gate_callee (f := 17) rfl ?_); refine goesL_ (some 6) rfl rfl Tryz.func17 (by kernel_rfl) rfl #[.agg #[.int .i64 a0_0, .slice A0_1 l0_1.length c0_1]] rfl (by (try simp only [List.map_toArray, List.map_cons, List.map_nil]); first | done | rfl | (simp only [List.length_drop, List.length_take]; rfl)) ?_; (with_reducible refine (laws_toWhole.calls k a0_0 _ _ l0_1 t373 t374 _ ?side1 ?side2 A2.out).mono ?_); (case side1 => repeat (first | exact (Kd.C_below HR0_1.out HB.out) | (with_reducible refine Kd.C_alloc ?_ _) | (with_reducible refine Kd.C_drewN ?_ _) | (with_reducible refine Kd.C_drew ?_))); (case side2 => exact HC0_1.out); rintro e w9 ⟨v375, rfl, ho0, hb⟩; refine ⟨_, rfl, ?_⟩; have n0_ := Azq.mk (Kd.R_lower ho0 (wzq (by repeat (first | (with_reducible first | exact HB.out | apply waq | apply wdq | apply wrq | refine wsq ?_ GE370.out | refine wsq ?_ GE371.out | refine wsq ?_ GE372.out) | exact HB.out)))); have n1_ := Azq.mk (kbq (g := gb370) (o := .cells #[.int .i64 a0_0, .slice A0_1 l0_1.length c0_1, .int .i64 a0_2] 26 (0, 0)) (by (with_reducible repeat (first | refine kdq ?_ _ | refine krq ?_ | refine kaq ?_ _)); exact BK370.out) hb); have n2_ := Azq.mk (kbq (g := gb371) (o := .cells #[.int .i64 0, .slice none 0 0, .int .i64 0] 30 (0, 0)) (by (with_reducible repeat (first | refine kdq ?_ _ | refine krq ?_ | refine kaq ?_ _)); exact BK371.out) hb); have n3_ := Azq.mk (kbq (g := gb372) (o := .cells #[.int .i64 0, .slice none 0 0, .int .i64 0] 30 (0, 0)) (by (with_reducible repeat (first | refine kdq ?_ _ | refine krq ?_ | refine kaq ?_ _)); exact BK372.out) hb); have n4_ := Azq.mk (wtq (by repeat (first | (with_reducible first | exact HB.out | apply waq | apply wdq | apply wrq | refine wsq ?_ GE370.out | refine wsq ?_ GE371.out | refine wsq ?_ GE372.out) | exact HB.out)) hb); clear BK370; clear BK371; clear BK372; clear HB; have HO376 := n0_; have BK370 := n1_; have BK371 := n2_; have BK372 := n3_; have HB := n4_; clear n0_ n1_ n2_ n3_ n4_; (try clear hb); (try clear hb2); (try clear hk); (try clear hi); (try clear ho0); have hnb10 := NB372_371.out; have hnc10 := NB371_372.out; have hcz11_0 : w9.cell? ⟨gb372, 0, none⟩ = some (.int .i64 0) := (kcq BK372.out 0).trans rfl; have hcz11_1 : w9.cell? ⟨gb372, 1, none⟩ = some (.slice none 0 0) := (kcq BK372.out 1).trans rfl; have hcz11_2 : w9.cell? ⟨gb372, 2, none⟩ = some (.int .i64 0) := (kcq BK372.out 2).trans rfl; have hfz11_0 := kfq BK372.out 0; have hfz11_1 := kfq BK372.out 1; have hfz11_2 := kfq BK372.out 2; obtain ⟨Ao12, co12, eo12⟩ := Kd.R_slice HO376.out; subst eo12; have hcz13_0 : w9.cell? ⟨gb370, 0, none⟩ = some (.int .i64 a0_0) := (kcq BK370.out 0).trans rfl; have hcz13_1 : w9.cell? ⟨gb370, 1, none⟩ = some (.slice A0_1 l0_1.length c0_1) := (kcq BK370.out 1).trans rfl; have hcz13_2 : w9.cell? ⟨gb370, 2, none⟩ = some (.int .i64 a0_2) := (kcq BK370.out 2).trans rfl; have hfz13_0 := kfq BK370.out 0; have hfz13_1 := kfq BK370.out 1; have hfz13_2 := kfq BK370.out 2; have hcz14_0 : w9.cell? ⟨gb371, 0, none⟩ = some (.int .i64 0) := (kcq BK371.out 0).trans rfl; have hcz14_1 : w9.cell? ⟨gb371, 1, none⟩ = some (.slice none 0 0) := (kcq BK371.out 1).trans rfl; have hcz14_2 : w9.cell? ⟨gb371, 2, none⟩ = some (.int .i64 0) := (kcq BK371.out 2).trans rfl; have hfz14_0 := kfq BK371.out 0; have hfz14_1 := kfq BK371.out 1; have hfz14_2 := kfq BK371.out 2))
 refine bodyPost_ret (results_cell_row rfl _ _ gb371 30 #[.int .i64 t373, .slice Ao12 t374.length co12, .int .i64 a0_2] (0, 0) _ rfl (by (with_reducible repeat (first | refine kdq ?_ _ | refine krq ?_ | refine kaq ?_ _)); refine blk_put (cs := #[.int .i64 t373, .slice Ao12 t374.length co12, .int .i64 0]) ?_ 2 _ rfl; (with_reducible repeat (first | refine kdq ?_ _ | refine krq ?_ | refine kaq ?_ _)); refine blk_put (cs := #[.int .i64 t373, .slice none 0 0, .int .i64 0]) ?_ 1 _ rfl; (with_reducible repeat (first | refine kdq ?_ _ | refine krq ?_ | refine kaq ?_ _)); refine blk_put (cs := #[.int .i64 0, .slice none 0 0, .int .i64 0]) ?_ 0 _ rfl; (with_reducible repeat (first | refine kdq ?_ _ | refine krq ?_ | refine kaq ?_ _)); refine blk_far ?_ NB371_372.out _; (with_reducible repeat (first | refine kdq ?_ _ | refine krq ?_ | refine kaq ?_ _)); refine blk_far ?_ NB371_372.out _; (with_reducible repeat (first | refine kdq ?_ _ | refine krq ?_ | refine kaq ?_ _)); refine blk_far ?_ NB371_372.out _; (with_reducible repeat (first | refine kdq ?_ _ | refine krq ?_ | refine kaq ?_ _)); exact BK371.out) Tryz.underlying30 rfl (by kernel_rfl)) rfl ?_
 exact ⟨_, by first | rfl | (simp [errW_none, errW_some] <;> rfl) | (simp [*, errW_none, errW_some] <;> rfl), by (with_reducible repeat (first | apply Kd.R_alloc | apply Kd.R_drewN | apply Kd.R_drew)); exact Kd.R_mono (Kd.R_far (p := ⟨gb371, 2, none⟩) (Kd.R_far (p := ⟨gb371, 1, none⟩) (Kd.R_far (p := ⟨gb371, 0, none⟩) (Kd.R_far (p := ⟨gb372, 2, none⟩) (Kd.R_far (p := ⟨gb372, 1, none⟩) (Kd.R_far (p := ⟨gb372, 0, none⟩) (Kd.R_types (Kd.R_types HO376.out BK372.out (by decide)) BK371.out (by decide)) (fun _ hk => hk.1.2) (.int .i64 t373)) (fun _ hk => hk.1.2) (.slice Ao12 t374.length co12)) (fun _ hk => hk.1.2) (.int .i64 a0_2)) (fun _ hk => hk.2) (.int .i64 t373)) (fun _ hk => hk.2) (.slice Ao12 t374.length co12)) (fun _ hk => hk.2) (.int .i64 a0_2)) (fun _ hk => trivial), by repeat (first | (with_reducible first | exact HB.out | apply waq | apply wdq | apply wrq | refine wsq ?_ GE370.out | refine wsq ?_ GE371.out | refine wsq ?_ GE372.out) | exact HB.out)⟩
end Go.Proofs.YtjggbalhpflbbaaGreat.PW
end
section
namespace Go.Proofs.YtjggbalhpflbbaaGreat.PW
open Go.RowKit Go.Proofs.YtjggbalhpflbbaaGreatW.PrintWords Go.Proofs.YtjggbalhpflbbaaGreatW.PrintLast Go.Proofs.YtjggbalhpflbbaaGreatW.PrintMore
attribute [local go_sem] max2_int min2_int max_two min_two max_three min_three max_four min_four   -- for this text's walks alone
set_option linter.unusedVariables false
set_option linter.unusedSimpArgs false
def laws_eqDyadic.f (k : Nat) (a0_0 : Int) (l0_1 : List Int) (a0_2 : Int) (a1_0 : Int) (l1_1 : List Int) (a1_2 : Int) : Option (Bool) := (laws_eqWhole.f k a0_0 l0_1 a1_0 l1_1).bind fun t462 => (if t462 = true then (if a0_2 = a1_2 then (some true) else (some false)) else (some false))
theorem laws_eqDyadic.mono : ∀ a0 a1 a2 a3 a4 a5 k, LeO (laws_eqDyadic.f k a0 a1 a2 a3 a4 a5) (laws_eqDyadic.f (k + 1) a0 a1 a2 a3 a4 a5) := by
 intro a0 a1 a2 a3 a4 a5 k
 unfold laws_eqDyadic.f
 repeat' first
   | (with_reducible exact laws_eqWhole.mono _ _ _ _ _)
   | (with_reducible exact LeO.refl _)
   | (with_reducible exact LeO.none _)
   | (with_reducible refine LeO.ite ?_ ?_)
   | (with_reducible refine LeO.bind ?_ (fun _ => ?_))
   | exact laws_eqWhole.mono _ _ _ _ _
   | exact LeO.none _
   | refine LeO.ite ?_ ?_
   | refine LeO.bind ?_ (fun _ => ?_)
set_option maxHeartbeats 8000000 in
set_option maxRecDepth 100000 in
theorem laws_eqDyadic.calls (k : Nat) (a0_0 : Int) (A0_1 : Option Addr) (c0_1 : Nat) (l0_1 : List Int) (a0_2 : Int) (a1_0 : Int) (A1_1 : Option Addr) (c1_1 : Nat) (l1_1 : List Int) (a1_2 : Int) (r : Bool) (w : World) (hr0_1 : Kd.C (Kd.int .i64) w A0_1 l0_1.length l0_1) (hc0_1 : l0_1.length ≤ c0_1) (hr1_1 : Kd.C (Kd.int .i64) w A1_1 l1_1.length l1_1) (hc1_1 : l1_1.length ≤ c1_1) (h : laws_eqDyadic.f k a0_0 l0_1 a0_2 a1_0 l1_1 a1_2 = some r) :
  Calls Tryz.prog 8 #[.agg #[.int .i64 a0_0, .slice A0_1 l0_1.length c0_1, .int .i64 a0_2], .agg #[.int .i64 a1_0, .slice A1_1 l1_1.length c1_1, .int .i64 a1_2]] w fun e w' => e = .returned (.bool r) ∧ Below w.heap.size w w' := by
 have hu30 := Tryz.underlying30
 have hu28 := Tryz.underlying28
 have HR0_1 := Azq.mk hr0_1
 have HC0_1 := Azq.mk hc0_1
 clear hr0_1 hc0_1
 have HR1_1 := Azq.mk hr1_1
 have HC1_1 := Azq.mk hc1_1
 clear hr1_1 hc1_1
 have HB := Azq.mk (Below.refl w.heap.size w)
 have H : ((laws_eqWhole.f k a0_0 l0_1 a1_0 l1_1).bind fun t462 => (if t462 = true then (if a0_2 = a1_2 then (some true) else (some false)) else (some false))) = some r := h
 clear h
 replace H := Option.bind_eq_some_iff.mp H
 obtain ⟨t462, A30, H⟩ := H
 replace H : (if t462 = true then (if a0_2 = a1_2 then (some true) else (some false)) else (some false)) = some r := H
 have A3 := Azq.mk A30
 clear A30
 by_cases c4 : t462 = true
 ·subst c4
  have H1 : (if a0_2 = a1_2 then (some true) else (some false)) = some r := by rw [if_pos rfl] at H; exact H
  clear H
  have H := H1
  clear H1
  by_cases c5 : a0_2 = a1_2
  ·rw [if_pos c5] at H
   have c5b0 : (a0_2 == a1_2) = true := beq_iff_eq.mpr c5
   have c5b1 : (a0_2 != a1_2) = false := bne_eq_false_iff_eq.mpr c5
   clear c5
   obtain rfl := Option.some.inj H
   go_enter Tryz.func8, Tryz.ntmps8
   go_wp2_with (first | ((with_reducible refine gate_dst (N := 2) rfl ?_); refine box_event ?hg (N := 2) ?hd (cs := #[.int .i64 a0_0, .slice A0_1 l0_1.length c0_1, .int .i64 a0_2]) (t := 30) ?hr ?_; (case hd => rfl); (case hg => rfl); (case hr => first | (go_simp; done) | (go_simp; rfl)); intro gb460 hg w6 hbox hb; have n0_ := Azq.mk (wtq (by repeat (first | (with_reducible first | exact HB.out | apply waq | apply wdq | apply wrq) | exact HB.out)) hb); have n1_ := Azq.mk (hbox); have n2_ := Azq.mk ((by rw [hg]; exact (wzq (by repeat (first | (with_reducible first | exact HB.out | apply waq | apply wdq | apply wrq) | exact HB.out))) : w.heap.size ≤ gb460)); have n3_ := n2_; clear HB; have HB := n0_; have BK460 := n1_; have GW460 := n2_; have GE460 := n3_; clear n0_ n1_ n2_ n3_; clear hb hbox hg) | ((with_reducible refine gate_dst (N := 3) rfl ?_); refine box_event ?hg (N := 3) ?hd (cs := #[.int .i64 a1_0, .slice A1_1 l1_1.length c1_1, .int .i64 a1_2]) (t := 30) ?hr ?_; (case hd => rfl); (case hg => rfl); (case hr => first | (go_simp; done) | (go_simp; rfl)); intro gb461 hg w7 hbox hb; have n0_ := Azq.mk (kbq (g := gb460) (o := .cells #[.int .i64 a0_0, .slice A0_1 l0_1.length c0_1, .int .i64 a0_2] 30 (0, 0)) (by (with_reducible repeat (first | refine kdq ?_ _ | refine krq ?_ | refine kaq ?_ _)); exact BK460.out) hb); have n1_ := Azq.mk (wtq (by repeat (first | (with_reducible first | exact HB.out | apply waq | apply wdq | apply wrq | refine wsq ?_ GE460.out) | exact HB.out)) hb); have n2_ := Azq.mk (hbox); have n3_ := Azq.mk ((by rw [hg]; exact (wzq (by repeat (first | (with_reducible first | exact HB.out | apply waq | apply wdq | apply wrq | refine wsq ?_ GE460.out) | exact HB.out))) : w.heap.size ≤ gb461)); have n4_ := n3_; have n5_ := Azq.mk ((by rw [hg]; exact Nat.ne_of_lt (klq (g := gb460) (o := .cells #[.int .i64 a0_0, .slice A0_1 l0_1.length c0_1, .int .i64 a0_2] 30 (0, 0)) (by (with_reducible repeat (first | refine kdq ?_ _ | refine krq ?_ | refine kaq ?_ _)); exact BK460.out)) : gb460 ≠ gb461)); have n6_ := Azq.mk ((by rw [hg]; exact Nat.ne_of_gt (klq (g := gb460) (o := .cells #[.int .i64 a0_0, .slice A0_1 l0_1.length c0_1, .int .i64 a0_2] 30 (0, 0)) (by (with_reducible repeat (first | refine kdq ?_ _ | refine krq ?_ | refine kaq ?_ _)); exact BK460.out)) : gb461 ≠ gb460)); clear BK460; clear HB; have BK460 := n0_; have HB := n1_; have BK461 := n2_; have GW461 := n3_; have GE461 := n4_; have NB460_461 := n5_; have NB461_460 := n6_; clear n0_ n1_ n2_ n3_ n4_ n5_ n6_; clear hb hbox hg; have hnb8 := NB460_461.out; have hnc8 := NB461_460.out; have hcz9_0 : w7.cell? ⟨gb460, 0, none⟩ = some (.int .i64 a0_0) := (kcq BK460.out 0).trans rfl; have hcz9_1 : w7.cell? ⟨gb460, 1, none⟩ = some (.slice A0_1 l0_1.length c0_1) := (kcq BK460.out 1).trans rfl; have hcz9_2 : w7.cell? ⟨gb460, 2, none⟩ = some (.int .i64 a0_2) := (kcq BK460.out 2).trans rfl; have hfz9_0 := kfq BK460.out 0; have hfz9_1 := kfq BK460.out 1; have hfz9_2 := kfq BK460.out 2; have hcz10_0 : w7.cell? ⟨gb461, 0, none⟩ = some (.int .i64 a1_0) := (kcq BK461.out 0).trans rfl; have hcz10_1 : w7.cell? ⟨gb461, 1, none⟩ = some (.slice A1_1 l1_1.length c1_1) := (kcq BK461.out 1).trans rfl; have hcz10_2 : w7.cell? ⟨gb461, 2, none⟩ = some (.int .i64 a1_2) := (kcq BK461.out 2).trans rfl; have hfz10_0 := kfq BK461.out 0; have hfz10_1 := kfq BK461.out 1; have hfz10_2 := kfq BK461.out 2) | ((with_reducible refine gate_callee (f := 23) rfl ?_); refine goesL_ (some 9) rfl rfl Tryz.func23 (by kernel_rfl) rfl #[.agg #[.int .i64 a0_0, .slice A0_1 l0_1.length c0_1], .agg #[.int .i64 a1_0, .slice A1_1 l1_1.length c1_1]] rfl (by (try simp only [List.map_toArray, List.map_cons, List.map_nil]); first | done | rfl | (simp only [List.length_drop, List.length_take]; rfl)) ?_; (with_reducible refine (laws_eqWhole.calls k a0_0 _ _ l0_1 a1_0 _ _ l1_1 true _ ?side1 ?side2 ?side3 ?side4 A3.out).mono ?_); (case side1 => repeat (first | exact (Kd.C_below HR0_1.out HB.out) | (with_reducible refine Kd.C_alloc ?_ _) | (with_reducible refine Kd.C_drewN ?_ _) | (with_reducible refine Kd.C_drew ?_))); (case side2 => exact HC0_1.out); (case side3 => repeat (first | exact (Kd.C_below HR1_1.out HB.out) | (with_reducible refine Kd.C_alloc ?_ _) | (with_reducible refine Kd.C_drewN ?_ _) | (with_reducible refine Kd.C_drew ?_))); (case side4 => exact HC1_1.out); rintro e w11 ⟨rfl, hb⟩; refine ⟨_, rfl, ?_⟩; have n0_ := Azq.mk (kbq (g := gb460) (o := .cells #[.int .i64 a0_0, .slice A0_1 l0_1.length c0_1, .int .i64 a0_2] 30 (0, 0)) (by (with_reducible repeat (first | refine kdq ?_ _ | refine krq ?_ | refine kaq ?_ _)); exact BK460.out) hb); have n1_ := Azq.mk (kbq (g := gb461) (o := .cells #[.int .i64 a1_0, .slice A1_1 l1_1.length c1_1, .int .i64 a1_2] 30 (0, 0)) (by (with_reducible repeat (first | refine kdq ?_ _ | refine krq ?_ | refine kaq ?_ _)); exact BK461.out) hb); have n2_ := Azq.mk (wtq (by repeat (first | (with_reducible first | exact HB.out | apply waq | apply wdq | apply wrq | refine wsq ?_ GE460.out | refine wsq ?_ GE461.out) | exact HB.out)) hb); clear BK460; clear BK461; clear HB; have BK460 := n0_; have BK461 := n1_; have HB := n2_; clear n0_ n1_ n2_; (try clear hb); (try clear hb2); (try clear hk); (try clear hi); have hcz12_0 : w11.cell? ⟨gb460, 0, none⟩ = some (.int .i64 a0_0) := (kcq BK460.out 0).trans rfl; have hcz12_1 : w11.cell? ⟨gb460, 1, none⟩ = some (.slice A0_1 l0_1.length c0_1) := (kcq BK460.out 1).trans rfl; have hcz12_2 : w11.cell? ⟨gb460, 2, none⟩ = some (.int .i64 a0_2) := (kcq BK460.out 2).trans rfl; have hfz12_0 := kfq BK460.out 0; have hfz12_1 := kfq BK460.out 1; have hfz12_2 := kfq BK460.out 2; have hcz13_0 : w11.cell? ⟨gb461, 0, none⟩ = some (.int .i64 a1_0) := (kcq BK461.out 0).trans rfl; have hcz13_1 : w11.cell? ⟨gb461, 1, none⟩ = some (.slice A1_1 l1_1.length c1_1) := (kcq BK461.out 1).trans rfl; have hcz13_2 : w11.cell? ⟨gb461, 2, none⟩ = some (.int .i64 a1_2) := (kcq BK461.out 2).trans rfl; have hfz13_0 := kfq BK461.out 0; have hfz13_1 := kfq BK461.out 1; have hfz13_2 := kfq BK461.out 2))
   go_ret
   exact ⟨by first | rfl | (simp [errW_none, errW_some] <;> rfl) | (simp [*, errW_none, errW_some] <;> rfl), by repeat (first | (with_reducible first | exact HB.out | apply waq | apply wdq | apply wrq | refine wsq ?_ GE460.out | refine wsq ?_ GE461.out) | exact HB.out)⟩
  ·rw [if_neg c5] at H
   have c5b0 : (a0_2 == a1_2) = false := beq_eq_false_iff_ne.mpr c5
   have c5b1 : (a0_2 != a1_2) = true := bne_iff_ne.mpr c5
   obtain rfl := Option.some.inj H
   go_enter Tryz.func8, Tryz.ntmps8
   go_wp2_with (first | ((with_reducible refine gate_dst (N := 2) rfl ?_); refine box_event ?hg (N := 2) ?hd (cs := #[.int .i64 a0_0, .slice A0_1 l0_1.length c0_1, .int .i64 a0_2]) (t := 30) ?hr ?_; (case hd => rfl); (case hg => rfl); (case hr => first | (go_simp; done) | (go_simp; rfl)); intro gb460 hg w14 hbox hb; have n0_ := Azq.mk (wtq (by repeat (first | (with_reducible first | exact HB.out | apply waq | apply wdq | apply wrq) | exact HB.out)) hb); have n1_ := Azq.mk (hbox); have n2_ := Azq.mk ((by rw [hg]; exact (wzq (by repeat (first | (with_reducible first | exact HB.out | apply waq | apply wdq | apply wrq) | exact HB.out))) : w.heap.size ≤ gb460)); have n3_ := n2_; clear HB; have HB := n0_; have BK460 := n1_; have GW460 := n2_; have GE460 := n3_; clear n0_ n1_ n2_ n3_; clear hb hbox hg) | ((with_reducible refine gate_dst (N := 3) rfl ?_); refine box_event ?hg (N := 3) ?hd (cs := #[.int .i64 a1_0, .slice A1_1 l1_1.length c1_1, .int .i64 a1_2]) (t := 30) ?hr ?_; (case hd => rfl); (case hg => rfl); (case hr => first | (go_simp; done) | (go_simp; rfl)); intro gb461 hg w15 hbox hb; have n0_ := Azq.mk (kbq (g := gb460) (o := .cells #[.int .i64 a0_0, .slice A0_1 l0_1.length c0_1, .int .i64 a0_2] 30 (0, 0)) (by (with_reducible repeat (first | refine kdq ?_ _ | refine krq ?_ | refine kaq ?_ _)); exact BK460.out) hb); have n1_ := Azq.mk (wtq (by repeat (first | (with_reducible first | exact HB.out | apply waq | apply wdq | apply wrq | refine wsq ?_ GE460.out) | exact HB.out)) hb); have n2_ := Azq.mk (hbox); have n3_ := Azq.mk ((by rw [hg]; exact (wzq (by repeat (first | (with_reducible first | exact HB.out | apply waq | apply wdq | apply wrq | refine wsq ?_ GE460.out) | exact HB.out))) : w.heap.size ≤ gb461)); have n4_ := n3_; have n5_ := Azq.mk ((by rw [hg]; exact Nat.ne_of_lt (klq (g := gb460) (o := .cells #[.int .i64 a0_0, .slice A0_1 l0_1.length c0_1, .int .i64 a0_2] 30 (0, 0)) (by (with_reducible repeat (first | refine kdq ?_ _ | refine krq ?_ | refine kaq ?_ _)); exact BK460.out)) : gb460 ≠ gb461)); have n6_ := Azq.mk ((by rw [hg]; exact Nat.ne_of_gt (klq (g := gb460) (o := .cells #[.int .i64 a0_0, .slice A0_1 l0_1.length c0_1, .int .i64 a0_2] 30 (0, 0)) (by (with_reducible repeat (first | refine kdq ?_ _ | refine krq ?_ | refine kaq ?_ _)); exact BK460.out)) : gb461 ≠ gb460)); clear BK460; clear HB; have BK460 := n0_; have HB := n1_; have BK461 := n2_; have GW461 := n3_; have GE461 := n4_; have NB460_461 := n5_; have NB461_460 := n6_; clear n0_ n1_ n2_ n3_ n4_ n5_ n6_; clear hb hbox hg; have hnb16 := NB460_461.out; have hnc16 := NB461_460.out; have hcz17_0 : w15.cell? ⟨gb460, 0, none⟩ = some (.int .i64 a0_0) := (kcq BK460.out 0).trans rfl; have hcz17_1 : w15.cell? ⟨gb460, 1, none⟩ = some (.slice A0_1 l0_1.length c0_1) := (kcq BK460.out 1).trans rfl; have hcz17_2 : w15.cell? ⟨gb460, 2, none⟩ = some (.int .i64 a0_2) := (kcq BK460.out 2).trans rfl; have hfz17_0 := kfq BK460.out 0; have hfz17_1 := kfq BK460.out 1; have hfz17_2 := kfq BK460.out 2; have hcz18_0 : w15.cell? ⟨gb461, 0, none⟩ = some (.int .i64 a1_0) := (kcq BK461.out 0).trans rfl; have hcz18_1 : w15.cell? ⟨gb461, 1, none⟩ = some (.slice A1_1 l1_1.length c1_1) := (kcq BK461.out 1).trans rfl; have hcz18_2 : w15.cell? ⟨gb461, 2, none⟩ = some (.int .i64 a1_2) := (kcq BK461.out 2).trans rfl; have hfz18_0 := kfq BK461.out 0; have hfz18_1 := kfq BK461.out 1; have hfz18_2 := kfq BK461.out 2) | ((with_reducible refine gate_callee (f := 23) rfl ?_); refine goesL_ (some 9) rfl rfl Tryz.func23 (by kernel_rfl) rfl #[.agg #[.int .i64 a0_0, .slice A0_1 l0_1.length c0_1], .agg #[.int .i64 a1_0, .slice A1_1 l1_1.length c1_1]] rfl (by (try simp only [List.map_toArray, List.map_cons, List.map_nil]); first | done | rfl | (simp only [List.length_drop, List.length_take]; rfl)) ?_; (with_reducible refine (laws_eqWhole.calls k a0_0 _ _ l0_1 a1_0 _ _ l1_1 true _ ?side1 ?side2 ?side3 ?side4 A3.out).mono ?_); (case side1 => repeat (first | exact (Kd.C_below HR0_1.out HB.out) | (with_reducible refine Kd.C_alloc ?_ _) | (with_reducible refine Kd.C_drewN ?_ _) | (with_reducible refine Kd.C_drew ?_))); (case side2 => exact HC0_1.out); (case side3 => repeat (first | exact (Kd.C_below HR1_1.out HB.out) | (with_reducible refine Kd.C_alloc ?_ _) | (with_reducible refine Kd.C_drewN ?_ _) | (with_reducible refine Kd.C_drew ?_))); (case side4 => exact HC1_1.out); rintro e w19 ⟨rfl, hb⟩; refine ⟨_, rfl, ?_⟩; have n0_ := Azq.mk (kbq (g := gb460) (o := .cells #[.int .i64 a0_0, .slice A0_1 l0_1.length c0_1, .int .i64 a0_2] 30 (0, 0)) (by (with_reducible repeat (first | refine kdq ?_ _ | refine krq ?_ | refine kaq ?_ _)); exact BK460.out) hb); have n1_ := Azq.mk (kbq (g := gb461) (o := .cells #[.int .i64 a1_0, .slice A1_1 l1_1.length c1_1, .int .i64 a1_2] 30 (0, 0)) (by (with_reducible repeat (first | refine kdq ?_ _ | refine krq ?_ | refine kaq ?_ _)); exact BK461.out) hb); have n2_ := Azq.mk (wtq (by repeat (first | (with_reducible first | exact HB.out | apply waq | apply wdq | apply wrq | refine wsq ?_ GE460.out | refine wsq ?_ GE461.out) | exact HB.out)) hb); clear BK460; clear BK461; clear HB; have BK460 := n0_; have BK461 := n1_; have HB := n2_; clear n0_ n1_ n2_; (try clear hb); (try clear hb2); (try clear hk); (try clear hi); have hcz20_0 : w19.cell? ⟨gb460, 0, none⟩ = some (.int .i64 a0_0) := (kcq BK460.out 0).trans rfl; have hcz20_1 : w19.cell? ⟨gb460, 1, none⟩ = some (.slice A0_1 l0_1.length c0_1) := (kcq BK460.out 1).trans rfl; have hcz20_2 : w19.cell? ⟨gb460, 2, none⟩ = some (.int .i64 a0_2) := (kcq BK460.out 2).trans rfl; have hfz20_0 := kfq BK460.out 0; have hfz20_1 := kfq BK460.out 1; have hfz20_2 := kfq BK460.out 2; have hcz21_0 : w19.cell? ⟨gb461, 0, none⟩ = some (.int .i64 a1_0) := (kcq BK461.out 0).trans rfl; have hcz21_1 : w19.cell? ⟨gb461, 1, none⟩ = some (.slice A1_1 l1_1.length c1_1) := (kcq BK461.out 1).trans rfl; have hcz21_2 : w19.cell? ⟨gb461, 2, none⟩ = some (.int .i64 a1_2) := (kcq BK461.out 2).trans rfl; have hfz21_0 := kfq BK461.out 0; have hfz21_1 := kfq BK461.out 1; have hfz21_2 := kfq BK461.out 2))
   go_ret
   exact ⟨by first | rfl | (simp [errW_none, errW_some] <;> rfl) | (simp [*, errW_none, errW_some] <;> rfl), by repeat (first | (with_reducible first | exact HB.out | apply waq | apply wdq | apply wrq | refine wsq ?_ GE460.out | refine wsq ?_ GE461.out) | exact HB.out)⟩
 ·replace c4 := Bool.eq_false_iff.mpr c4
  subst c4
  have H1 : (some false) = some r := by rw [if_neg (show ¬ (false = true) by decide)] at H; exact H
  clear H
  have H := H1
  clear H1
  obtain rfl := Option.some.inj H
  go_enter Tryz.func8, Tryz.ntmps8
  go_wp2_with (first | ((with_reducible refine gate_dst (N := 2) rfl ?_); refine box_event ?hg (N := 2) ?hd (cs := #[.int .i64 a0_0, .slice A0_1 l0_1.length c0_1, .int .i64 a0_2]) (t := 30) ?hr ?_; (case hd => rfl); (case hg => rfl); (case hr => first | (go_simp; done) | (go_simp; rfl)); intro gb460 hg w22 hbox hb; have n0_ := Azq.mk (wtq (by repeat (first | (with_reducible first | exact HB.out | apply waq | apply wdq | apply wrq) | exact HB.out)) hb); have n1_ := Azq.mk (hbox); have n2_ := Azq.mk ((by rw [hg]; exact (wzq (by repeat (first | (with_reducible first | exact HB.out | apply waq | apply wdq | apply wrq) | exact HB.out))) : w.heap.size ≤ gb460)); have n3_ := n2_; clear HB; have HB := n0_; have BK460 := n1_; have GW460 := n2_; have GE460 := n3_; clear n0_ n1_ n2_ n3_; clear hb hbox hg) | ((with_reducible refine gate_dst (N := 3) rfl ?_); refine box_event ?hg (N := 3) ?hd (cs := #[.int .i64 a1_0, .slice A1_1 l1_1.length c1_1, .int .i64 a1_2]) (t := 30) ?hr ?_; (case hd => rfl); (case hg => rfl); (case hr => first | (go_simp; done) | (go_simp; rfl)); intro gb461 hg w23 hbox hb; have n0_ := Azq.mk (kbq (g := gb460) (o := .cells #[.int .i64 a0_0, .slice A0_1 l0_1.length c0_1, .int .i64 a0_2] 30 (0, 0)) (by (with_reducible repeat (first | refine kdq ?_ _ | refine krq ?_ | refine kaq ?_ _)); exact BK460.out) hb); have n1_ := Azq.mk (wtq (by repeat (first | (with_reducible first | exact HB.out | apply waq | apply wdq | apply wrq | refine wsq ?_ GE460.out) | exact HB.out)) hb); have n2_ := Azq.mk (hbox); have n3_ := Azq.mk ((by rw [hg]; exact (wzq (by repeat (first | (with_reducible first | exact HB.out | apply waq | apply wdq | apply wrq | refine wsq ?_ GE460.out) | exact HB.out))) : w.heap.size ≤ gb461)); have n4_ := n3_; have n5_ := Azq.mk ((by rw [hg]; exact Nat.ne_of_lt (klq (g := gb460) (o := .cells #[.int .i64 a0_0, .slice A0_1 l0_1.length c0_1, .int .i64 a0_2] 30 (0, 0)) (by (with_reducible repeat (first | refine kdq ?_ _ | refine krq ?_ | refine kaq ?_ _)); exact BK460.out)) : gb460 ≠ gb461)); have n6_ := Azq.mk ((by rw [hg]; exact Nat.ne_of_gt (klq (g := gb460) (o := .cells #[.int .i64 a0_0, .slice A0_1 l0_1.length c0_1, .int .i64 a0_2] 30 (0, 0)) (by (with_reducible repeat (first | refine kdq ?_ _ | refine krq ?_ | refine kaq ?_ _)); exact BK460.out)) : gb461 ≠ gb460)); clear BK460; clear HB; have BK460 := n0_; have HB := n1_; have BK461 := n2_; have GW461 := n3_; have GE461 := n4_; have NB460_461 := n5_; have NB461_460 := n6_; clear n0_ n1_ n2_ n3_ n4_ n5_ n6_; clear hb hbox hg; have hnb24 := NB460_461.out; have hnc24 := NB461_460.out; have hcz25_0 : w23.cell? ⟨gb460, 0, none⟩ = some (.int .i64 a0_0) := (kcq BK460.out 0).trans rfl; have hcz25_1 : w23.cell? ⟨gb460, 1, none⟩ = some (.slice A0_1 l0_1.length c0_1) := (kcq BK460.out 1).trans rfl; have hcz25_2 : w23.cell? ⟨gb460, 2, none⟩ = some (.int .i64 a0_2) := (kcq BK460.out 2).trans rfl; have hfz25_0 := kfq BK460.out 0; have hfz25_1 := kfq BK460.out 1; have hfz25_2 := kfq BK460.out 2; have hcz26_0 : w23.cell? ⟨gb461, 0, none⟩ = some (.int .i64 a1_0) := (kcq BK461.out 0).trans rfl; have hcz26_1 : w23.cell? ⟨gb461, 1, none⟩ = some (.slice A1_1 l1_1.length c1_1) := (kcq BK461.out 1).trans rfl; have hcz26_2 : w23.cell? ⟨gb461, 2, none⟩ = some (.int .i64 a1_2) := (kcq BK461.out 2).trans rfl; have hfz26_0 := kfq BK461.out 0; have hfz26_1 := kfq BK461.out 1; have hfz26_2 := kfq BK461.out 2) | ((with_reducible refine gate_callee (f := 23) rfl ?_); refine goesL_ (some 9) rfl rfl Tryz.func23 (by kernel_rfl) rfl #[.agg #[.int .i64 a0_0, .slice A0_1 l0_1.length c0_1], .agg #[.int .i64 a1_0, .slice A1_1 l1_1.length c1_1]] rfl (by (try simp only [List.map_toArray, List.map_cons, List.map_nil]); first | done | rfl | (simp only [List.length_drop, List.length_take]; rfl)) ?_; (with_reducible refine (laws_eqWhole.calls k a0_0 _ _ l0_1 a1_0 _ _ l1_1 false _ ?side1 ?side2 ?side3 ?side4 A3.out).mono ?_); (case side1 => repeat (first | exact (Kd.C_below HR0_1.out HB.out) | (with_reducible refine Kd.C_alloc ?_ _) | (with_reducible refine Kd.C_drewN ?_ _) | (with_reducible refine Kd.C_drew ?_))); (case side2 => exact HC0_1.out); (case side3 => repeat (first | exact (Kd.C_below HR1_1.out HB.out) | (with_reducible refine Kd.C_alloc ?_ _) | (with_reducible refine Kd.C_drewN ?_ _) | (with_reducible refine Kd.C_drew ?_))); (case side4 => exact HC1_1.out); rintro e w27 ⟨rfl, hb⟩; refine ⟨_, rfl, ?_⟩; have n0_ := Azq.mk (kbq (g := gb460) (o := .cells #[.int .i64 a0_0, .slice A0_1 l0_1.length c0_1, .int .i64 a0_2] 30 (0, 0)) (by (with_reducible repeat (first | refine kdq ?_ _ | refine krq ?_ | refine kaq ?_ _)); exact BK460.out) hb); have n1_ := Azq.mk (kbq (g := gb461) (o := .cells #[.int .i64 a1_0, .slice A1_1 l1_1.length c1_1, .int .i64 a1_2] 30 (0, 0)) (by (with_reducible repeat (first | refine kdq ?_ _ | refine krq ?_ | refine kaq ?_ _)); exact BK461.out) hb); have n2_ := Azq.mk (wtq (by repeat (first | (with_reducible first | exact HB.out | apply waq | apply wdq | apply wrq | refine wsq ?_ GE460.out | refine wsq ?_ GE461.out) | exact HB.out)) hb); clear BK460; clear BK461; clear HB; have BK460 := n0_; have BK461 := n1_; have HB := n2_; clear n0_ n1_ n2_; (try clear hb); (try clear hb2); (try clear hk); (try clear hi)))
  go_ret
  exact ⟨by first | rfl | (simp [errW_none, errW_some] <;> rfl) | (simp [*, errW_none, errW_some] <;> rfl), by repeat (first | (with_reducible first | exact HB.out | apply waq | apply wdq | apply wrq | refine wsq ?_ GE460.out | refine wsq ?_ GE461.out) | exact HB.out)⟩
end Go.Proofs.YtjggbalhpflbbaaGreat.PW
end
section
namespace Go.Proofs.YtjggbalhpflbbaaGreat.PW
open Go.RowKit Go.Proofs.YtjggbalhpflbbaaGreatW.PrintWords Go.Proofs.YtjggbalhpflbbaaGreatW.PrintLast Go.Proofs.YtjggbalhpflbbaaGreatW.PrintMore
attribute [local go_sem] max2_int min2_int max_two min_two max_three min_three max_four min_four   -- for this text's walks alone
set_option linter.unusedVariables false
set_option linter.unusedSimpArgs false
def laws_markInt64S.l0 : Nat → List Int → Int → Int → Option (Int × List Int)
 | 0, _, _, _ => none
 | k + 1, x0, x1, x5 => if x5 < (x0.length : Int) then (if 0 ≤ x5 then (laws_markInt64S.l0 k (x0.set (x5 : Int).toNat x1) (wrap64 (x1 + 1)) (wrap64 (x5 + 1))) else (none)) else (some (x1, x0))
def laws_markInt64S.f (k : Nat) (l0 : List Int) (a1 : Int) : Option (Int × List Int) := laws_markInt64S.l0 k l0 a1 0
theorem laws_markInt64S.mono_l : ∀ k, (∀ y0 y1 y2, LeO (laws_markInt64S.l0 k y0 y1 y2) (laws_markInt64S.l0 (k + 1) y0 y1 y2))
 | 0 => fun _ _ _ r h => by simp [laws_markInt64S.l0] at h
 | k + 1 => by
  have ih0 := laws_markInt64S.mono_l k
  ·intro y0 y1 y2
   unfold laws_markInt64S.l0
   repeat' first
   | (with_reducible exact ih0 _ _ _)
   | (with_reducible exact LeO.refl _)
   | (with_reducible exact LeO.none _)
   | (with_reducible refine LeO.ite ?_ ?_)
   | (with_reducible refine LeO.bind ?_ (fun _ => ?_))
   | exact ih0 _ _ _
   | exact LeO.none _
   | refine LeO.ite ?_ ?_
   | refine LeO.bind ?_ (fun _ => ?_)
theorem laws_markInt64S.mono : ∀ a0 a1 k, LeO (laws_markInt64S.f k a0 a1) (laws_markInt64S.f (k + 1) a0 a1) := by
 intro a0 a1 k
 have ih0 := laws_markInt64S.mono_l k
 unfold laws_markInt64S.f
 repeat' first
   | (with_reducible exact ih0 _ _ _)
   | (with_reducible exact LeO.refl _)
   | (with_reducible exact LeO.none _)
   | (with_reducible refine LeO.ite ?_ ?_)
   | (with_reducible refine LeO.bind ?_ (fun _ => ?_))
   | exact ih0 _ _ _
   | exact LeO.none _
   | refine LeO.ite ?_ ?_
   | refine LeO.bind ?_ (fun _ => ?_)
set_option maxHeartbeats 8000000 in
set_option maxRecDepth 100000 in
theorem laws_markInt64S.calls (k : Nat) (P0_ : Nat → Prop) (u9000_ : Value) (l0 : List Int) (a1 : Int) (r1 : Int) (r2 : List Int) (w0 w : World) (hB : Below w0.heap.size w0 w) (ho0 : Kd.R (Kd.int .i64) 2 w w0.heap.size P0_ u9000_ l0) (h : laws_markInt64S.f k l0 a1 = some (r1, r2)) :
  Calls Tryz.prog 51 #[u9000_, .int .i64 a1] w fun e w' => e = .returned (.int .i64 r1) ∧ Kd.R (Kd.int .i64) 2 w' w0.heap.size (fun k_ => (P0_ k_ ∨ w.heap.size ≤ k_)) u9000_ r2 ∧ Below w0.heap.size w0 w' ∧ Kept w w' (fun k_ => P0_ k_) := by
 have HO0 := Azq.mk (show Kd.R (Kd.int .i64) 2 w w0.heap.size (fun k_ => (P0_ k_ ∨ w.heap.size ≤ k_)) u9000_ l0 from Kd.R_mono ho0 (fun k_ hk => (.inl hk)))
 have HK := Azq.mk (Kept.refl w (fun k_ => P0_ k_))
 have HW0 := Azq.mk hB.size
 have HB := Azq.mk hB
 clear hB
 have H : (laws_markInt64S.l0 k l0 a1 0) = some (r1, r2) := h
 clear h
 have H' := Azq.mk H
 clear H
 go_enter Tryz.func51, Tryz.ntmps51
 go_wp2
 go_loopg [1, 5] k (fun kq v1 v5 w' => ∃ (x0_1 : List Int) (x1_1 : Int) (x5_1 : Int), v1 = .int .i64 x1_1 ∧ v5 = .int .i64 x5_1 ∧ Azq (laws_markInt64S.l0 kq x0_1 x1_1 x5_1 = some (r1, r2)) ∧ Azq (kq ≤ k) ∧ Azq (Kd.R (Kd.int .i64) 2 w' w0.heap.size (fun k_ => (P0_ k_ ∨ w.heap.size ≤ k_)) u9000_ x0_1) ∧ Azq (Kept w w' (fun k_ => P0_ k_)) ∧ Azq (Below w0.heap.size w0 w'))
 case atStart => exact ⟨(l0), (a1), (0), (by first | rfl | (simp; done) | (simp [*]; done)), (by first | rfl | (simp; done) | (simp [*]; done)), H', ⟨Nat.le_refl _⟩, ⟨by (with_reducible repeat (first | apply Kd.R_alloc | apply Kd.R_drewN | apply Kd.R_drew)); exact HO0.out⟩, ⟨by repeat (first | (with_reducible first | exact HK.out | apply Kept.alloc | apply Kept.drewN | apply Kept.drew) | exact HK.out)⟩, ⟨by repeat (first | (with_reducible first | exact HB.out | apply waq | apply wdq | apply wrq) | exact HB.out)⟩⟩
 case round =>
  clear H'
  try clear p2
  obtain ⟨x0_1, x1_1, x5_1, rfl, rfl, HA, HK1, HO_0, HK, HB⟩ := hrel
  cases gk with
  | zero => exact absurd HA.out (by simp [laws_markInt64S.l0])
  | succ k1 =>
   have H := HA.out
   clear HA
   simp only [laws_markInt64S.l0] at H
   by_cases c3 : x5_1 < (x0_1.length : Int)
   ·rw [if_pos c3] at H
    have c3b0 : decide (x5_1 < (x0_1.length : Int)) = true := decide_eq_true c3
    clear c3
    by_cases c4 : 0 ≤ x5_1
    ·rw [if_pos c4] at H
     have c4b0 : decide (0 ≤ x5_1) = true := decide_eq_true c4
     clear c4
     obtain ⟨y463, hy463⟩ : ∃ y_ : List Int, y_ = (x0_1.set (x5_1 : Int).toNat x1_1) := ⟨_, rfl⟩
     replace H : (laws_markInt64S.l0 k1 y463 (wrap64 (x1_1 + 1)) (wrap64 (x5_1 + 1))) = some (r1, r2) := by first | (rw [hy463]; with_reducible exact H) | (have H2_ := (Option.bind_some _ _).symm.trans H; rw [hy463]; with_reducible exact H2_) | (have H2_ := (Option.bind_some _ _).symm.trans H; with_reducible exact H2_) | with_reducible exact H | (rw [hy463]; exact H) | exact H
     have Ny463 := Azq.mk hy463
     clear hy463
     have H' := Azq.mk H
     clear H
     obtain ⟨Ao6, co6, eo6⟩ := Kd.R_slice HO_0.out
     subst eo6
     have p5 : 0 ≤ (x5_1 : Int) := of_decide_eq_true (by first | (with_reducible assumption) | assumption)
     have q5 : (x5_1 : Int) < ((x0_1.length : Int) : Int) := of_decide_eq_true (by first | (with_reducible assumption) | assumption)
     obtain ⟨go5, co5, eo5, gb5, gl5, cl5, HG5⟩ := Kd.R_form HO_0.out (by omega)
     (first | cases eo5 | (injection eo5 with ea_ en_ ec_; (first | subst ea_ | (injection ea_ with ea_; subst ea_)); subst ec_; clear en_))
     have GB5 := Azq.mk gb5
     have GG5 := Azq.mk HG5
     clear gb5 gl5 HG5
     have HMgo5 := Azq.mk (show (P0_ go5 ∨ w.heap.size ≤ go5) from (HO_0.out.1 _ rfl))
     obtain ⟨hx5_0, hf5_0⟩ := Kd.R_celln 0 HO_0.out (x5_1 : Int) p5 q5
     replace p5 := eq_true p5
     replace q5 := eq_true q5
     have HP7 := Kd.R_putg HO_0.out (x5_1 : Int) x1_1
     go_wp2_with (first | ((with_reducible refine gate_store (t := 2) (p := 15) rfl ?_); refine store_event (t := 2) (p := 15) (v := ?vo_w8) (w1 := (wr.setCell ⟨go5, (x5_1 : Int).toNat, none⟩ (.int .i64 x1_1))) ?hg ?ho ?hn ?hr ?_; (case ho => rfl); (case hg => rfl); (case hn => rfl); (case hr => first | (go_simp; done) | (go_simp; rfl)); intro w8 hw; have hg : wr.grownBy w8 (some go5) := (by rw [hw]; exact HP7.2); have hp_ : Kd.R (Kd.int .i64) 2 w8 w0.heap.size (fun k_ => (P0_ k_ ∨ w.heap.size ≤ k_)) (.slice (some ⟨go5, 0, none⟩) x0_1.length co6) y463 := (by rw [hw, Ny463.out]; exact HP7.1); clear HP7; have n0_ := Azq.mk (hp_); have n1_ := Azq.mk ((by rw [hw]; exact wsq (HB.out) GB5.out : Below w0.heap.size w0 w8)); have n2_ := Azq.mk (Kept.of_grown (S := (fun k_ => P0_ k_)) hg (by repeat (first | (with_reducible first | exact HK.out | apply Kept.alloc | apply Kept.drewN | apply Kept.drew) | exact HK.out)) (fun k_ e_ => (HO_0.out.1 k_ e_))); clear HO_0; clear HB; clear HK; have HO_0 := n0_; have HB := n1_; have HK := n2_; clear n0_ n1_ n2_; clear hg hw hp_))
     go_roundg k1
     case measure => have := HK1.out; omega
     case rel => exact ⟨(y463), (wrap64 (x1_1 + 1)), (wrap64 (x5_1 + 1)), (by first | rfl | (simp; done) | (simp [*]; done)), (by first | rfl | (simp; done) | (simp [*]; done)), H', ⟨by have := HK1.out; omega⟩, ⟨by (with_reducible repeat (first | apply Kd.R_alloc | apply Kd.R_drewN | apply Kd.R_drew)); exact HO_0.out⟩, ⟨by repeat (first | (with_reducible first | exact HK.out | apply Kept.alloc | apply Kept.drewN | apply Kept.drew) | exact HK.out)⟩, ⟨by repeat (first | (with_reducible first | exact HB.out | apply waq | apply wdq | apply wrq) | exact HB.out)⟩⟩
    ·rw [if_neg c4] at H
     exact absurd H (by simp)
   ·rw [if_neg c3] at H
    have c3b0 : decide (x5_1 < (x0_1.length : Int)) = false := decide_eq_false c3
    clear c3
    simp only [Option.some.injEq, Prod.mk.injEq] at H
    obtain ⟨rfl, rfl⟩ := H
    obtain ⟨Ao9, co9, eo9⟩ := Kd.R_slice HO_0.out
    subst eo9
    go_wp2
    go_ret
    exact ⟨by first | rfl | (simp [errW_none, errW_some] <;> rfl) | (simp [*, errW_none, errW_some] <;> rfl), by (with_reducible repeat (first | apply Kd.R_alloc | apply Kd.R_drewN | apply Kd.R_drew)); exact HO_0.out, by repeat (first | (with_reducible first | exact HB.out | apply waq | apply wdq | apply wrq) | exact HB.out), by repeat (first | (with_reducible first | exact HK.out | apply Kept.alloc | apply Kept.drewN | apply Kept.drew) | exact HK.out)⟩
end Go.Proofs.YtjggbalhpflbbaaGreat.PW
end
section
namespace Go.Proofs.YtjggbalhpflbbaaGreat.PW
open Go.RowKit Go.Proofs.YtjggbalhpflbbaaGreatW.PrintWords Go.Proofs.YtjggbalhpflbbaaGreatW.PrintLast Go.Proofs.YtjggbalhpflbbaaGreatW.PrintMore
attribute [local go_sem] max2_int min2_int max_two min_two max_three min_three max_four min_four   -- for this text's walks alone
set_option linter.unusedVariables false
set_option linter.unusedSimpArgs false
def laws_markWhole.f (k : Nat) (a0_0 : Int) (l0_1 : List Int) (a1 : Int) : Option (Int × List Int) := (laws_markInt64S.f k l0_1 a1).bind fun bt465 => (some (bt465.1, bt465.2))
theorem laws_markWhole.mono : ∀ a0 a1 a2 k, LeO (laws_markWhole.f k a0 a1 a2) (laws_markWhole.f (k + 1) a0 a1 a2) := by
 intro a0 a1 a2 k
 unfold laws_markWhole.f
 repeat' first
   | (with_reducible exact laws_markInt64S.mono _ _ _)
   | (with_reducible exact LeO.refl _)
   | (with_reducible exact LeO.none _)
   | (with_reducible refine LeO.ite ?_ ?_)
   | (with_reducible refine LeO.bind ?_ (fun _ => ?_))
   | exact laws_markInt64S.mono _ _ _
   | exact LeO.none _
   | refine LeO.ite ?_ ?_
   | refine LeO.bind ?_ (fun _ => ?_)
set_option maxHeartbeats 8000000 in
set_option maxRecDepth 100000 in
theorem laws_markWhole.calls (k : Nat) (a0_0 : Int) (P0_1_ : Nat → Prop) (u9000_ : Value) (l0_1 : List Int) (a1 : Int) (r1 : Int) (r2 : List Int) (w0 w : World) (hB : Below w0.heap.size w0 w) (ho0_1 : Kd.R (Kd.int .i64) 2 w w0.heap.size P0_1_ u9000_ l0_1) (h : laws_markWhole.f k a0_0 l0_1 a1 = some (r1, r2)) :
  Calls Tryz.prog 24 #[.agg #[.int .i64 a0_0, u9000_], .int .i64 a1] w fun e w' => e = .returned (.int .i64 r1) ∧ Kd.R (Kd.int .i64) 2 w' w0.heap.size (fun k_ => (P0_1_ k_ ∨ w.heap.size ≤ k_)) u9000_ r2 ∧ Below w0.heap.size w0 w' ∧ Kept w w' (fun k_ => P0_1_ k_) := by
 have hu28 := Tryz.underlying28
 have HO0_1 := Azq.mk (show Kd.R (Kd.int .i64) 2 w w0.heap.size (fun k_ => (P0_1_ k_ ∨ w.heap.size ≤ k_)) u9000_ l0_1 from Kd.R_mono ho0_1 (fun k_ hk => (.inl hk)))
 have HK := Azq.mk (Kept.refl w (fun k_ => P0_1_ k_))
 have HW0 := Azq.mk hB.size
 have HB := Azq.mk hB
 clear hB
 have H : ((laws_markInt64S.f k l0_1 a1).bind fun bt465 => (some (bt465.1, bt465.2))) = some (r1, r2) := h
 clear h
 replace H := Option.bind_eq_some_iff.mp H
 obtain ⟨⟨t465, t466⟩, A30, H⟩ := H
 replace H : (some (t465, t466)) = some (r1, r2) := H
 have A3 := Azq.mk A30
 clear A30
 simp only [Option.some.injEq, Prod.mk.injEq] at H
 obtain ⟨rfl, rfl⟩ := H
 obtain ⟨Ao4, co4, eo4⟩ := Kd.R_slice HO0_1.out
 subst eo4
 go_enter Tryz.func24, Tryz.ntmps24
 go_wp2_with (first | ((with_reducible refine gate_dst (N := 2) rfl ?_); refine box_event ?hg (N := 2) ?hd (cs := #[.int .i64 a0_0, .slice Ao4 l0_1.length co4]) (t := 28) ?hr ?_; (case hd => rfl); (case hg => rfl); (case hr => first | (go_simp; done) | (go_simp; rfl)); intro gb464 hg w5 hbox hb; have n0_ := Azq.mk (Kd.R_below (by (with_reducible repeat (first | apply Kd.R_alloc | apply Kd.R_drewN | apply Kd.R_drew)); exact HO0_1.out) hb); have n1_ := Azq.mk (Kept.below (S := (fun k_ => P0_1_ k_)) (by repeat (first | (with_reducible first | exact HK.out | apply Kept.alloc | apply Kept.drewN | apply Kept.drew) | exact HK.out)) hb); have n2_ := Azq.mk (wtq (by repeat (first | (with_reducible first | exact HB.out | apply waq | apply wdq | apply wrq) | exact HB.out)) hb); have n3_ := Azq.mk (hbox); have n4_ := Azq.mk ((by rw [hg]; exact (by first | exact HK.out.1 | exact (show Kept w _ (fun k_ => P0_1_ k_) from by repeat (first | (with_reducible first | exact HK.out | apply Kept.alloc | apply Kept.drewN | apply Kept.drew) | exact HK.out)).1) : w.heap.size ≤ gb464)); have n5_ := Azq.mk ((by rw [hg]; exact (wzq (by repeat (first | (with_reducible first | exact HB.out | apply waq | apply wdq | apply wrq) | exact HB.out))) : w0.heap.size ≤ gb464)); clear HO0_1; clear HK; clear HB; have HO0_1 := n0_; have HK := n1_; have HB := n2_; have BK464 := n3_; have GW464 := n4_; have GE464 := n5_; clear n0_ n1_ n2_ n3_ n4_ n5_; clear hb hbox hg; have hcz6_0 : w5.cell? ⟨gb464, 0, none⟩ = some (.int .i64 a0_0) := (kcq BK464.out 0).trans rfl; have hcz6_1 : w5.cell? ⟨gb464, 1, none⟩ = some (.slice Ao4 l0_1.length co4) := (kcq BK464.out 1).trans rfl; have hfz6_0 := kfq BK464.out 0; have hfz6_1 := kfq BK464.out 1) | ((with_reducible refine gate_callee (f := 51) rfl ?_); refine goesL_ (some 8) rfl rfl Tryz.func51 (by kernel_rfl) rfl #[.slice Ao4 l0_1.length co4, .int .i64 a1] rfl (by (try simp only [List.map_toArray, List.map_cons, List.map_nil]); first | done | rfl | (simp only [List.length_drop, List.length_take]; rfl)) ?_; (with_reducible refine (laws_markInt64S.calls k (fun k_ => some k_ = (.slice Ao4 l0_1.length co4 : Value).ownBlock) (.slice Ao4 l0_1.length co4) l0_1 a1 t465 t466 w0 _ ?side1 ?side2 A3.out).mono ?_); (case side1 => repeat (first | (with_reducible first | exact HB.out | apply waq | apply wdq | apply wrq | refine wsq ?_ GE464.out) | exact HB.out)); (case side2 => exact Kd.R_tight rfl HO0_1.out); rintro e w7 ⟨rfl, hy0, hb, hkp⟩; refine ⟨_, rfl, ?_⟩; have n0_ := Azq.mk (Kd.R_reok rfl hy0 (fun k_ e_ => HO0_1.out.1 k_ e_)); have n1_ := Azq.mk (blk_kept (by (with_reducible repeat (first | refine kdq ?_ _ | refine krq ?_ | refine kaq ?_ _)); exact BK464.out) hkp (fun hs_ => (fun e_ => (Kd.R_ne HO0_1.out BK464.out (by decide)) e_) hs_)); have n2_ := Azq.mk (Kept.then_ (S := (fun k_ => P0_1_ k_)) (by repeat (first | (with_reducible first | exact HK.out | apply Kept.alloc | apply Kept.drewN | apply Kept.drew | refine Kept.setCell ?_ (.inr GW464.out) _) | exact HK.out)) hkp (fun k_ hs_ => (fun e_ => (HO0_1.out.1 k_ e_.symm)) hs_)); have n3_ := Azq.mk (hb); clear HO0_1; clear BK464; clear HK; clear HB; have HO0_1 := n0_; have BK464 := n1_; have HK := n2_; have HB := n3_; clear n0_ n1_ n2_ n3_; (try clear hb); (try clear hkp); (try clear hy0)))
 go_ret
 exact ⟨by first | rfl | (simp [errW_none, errW_some] <;> rfl) | (simp [*, errW_none, errW_some] <;> rfl), by (with_reducible repeat (first | apply Kd.R_alloc | apply Kd.R_drewN | apply Kd.R_drew)); exact HO0_1.out, by repeat (first | (with_reducible first | exact HB.out | apply waq | apply wdq | apply wrq | refine wsq ?_ GE464.out) | exact HB.out), by repeat (first | (with_reducible first | exact HK.out | apply Kept.alloc | apply Kept.drewN | apply Kept.drew | refine Kept.setCell ?_ (.inr GW464.out) _) | exact HK.out)⟩
end Go.Proofs.YtjggbalhpflbbaaGreat.PW
end
section
namespace Go.Proofs.YtjggbalhpflbbaaGreat.PW
open Go.RowKit Go.Proofs.YtjggbalhpflbbaaGreatW.PrintWords Go.Proofs.YtjggbalhpflbbaaGreatW.PrintLast Go.Proofs.YtjggbalhpflbbaaGreatW.PrintMore
attribute [local go_sem] max2_int min2_int max_two min_two max_three min_three max_four min_four   -- for this text's walks alone
set_option linter.unusedVariables false
set_option linter.unusedSimpArgs false
def laws_markDyadic.f (k : Nat) (a0_0 : Int) (l0_1 : List Int) (a0_2 : Int) (a1 : Int) : Option (Int × List Int) := (laws_markWhole.f k a0_0 l0_1 a1).bind fun bt468 => (some (bt468.1, bt468.2))
theorem laws_markDyadic.mono : ∀ a0 a1 a2 a3 k, LeO (laws_markDyadic.f k a0 a1 a2 a3) (laws_markDyadic.f (k + 1) a0 a1 a2 a3) := by
 intro a0 a1 a2 a3 k
 unfold laws_markDyadic.f
 repeat' first
   | (with_reducible exact laws_markWhole.mono _ _ _ _)
   | (with_reducible exact LeO.refl _)
   | (with_reducible exact LeO.none _)
   | (with_reducible refine LeO.ite ?_ ?_)
   | (with_reducible refine LeO.bind ?_ (fun _ => ?_))
   | exact laws_markWhole.mono _ _ _ _
   | exact LeO.none _
   | refine LeO.ite ?_ ?_
   | refine LeO.bind ?_ (fun _ => ?_)
set_option maxHeartbeats 8000000 in
set_option maxRecDepth 100000 in
theorem laws_markDyadic.calls (k : Nat) (a0_0 : Int) (P0_1_ : Nat → Prop) (u9000_ : Value) (l0_1 : List Int) (a0_2 : Int) (a1 : Int) (r1 : Int) (r2 : List Int) (w0 w : World) (hB : Below w0.heap.size w0 w) (ho0_1 : Kd.R (Kd.int .i64) 2 w w0.heap.size P0_1_ u9000_ l0_1) (h : laws_markDyadic.f k a0_0 l0_1 a0_2 a1 = some (r1, r2)) :
  Calls Tryz.prog 9 #[.agg #[.int .i64 a0_0, u9000_, .int .i64 a0_2], .int .i64 a1] w fun e w' => e = .returned (.int .i64 r1) ∧ Kd.R (Kd.int .i64) 2 w' w0.heap.size (fun k_ => (P0_1_ k_ ∨ w.heap.size ≤ k_)) u9000_ r2 ∧ Below w0.heap.size w0 w' ∧ Kept w w' (fun k_ => P0_1_ k_) := by
 have hu30 := Tryz.underlying30
 have hu28 := Tryz.underlying28
 have HO0_1 := Azq.mk (show Kd.R (Kd.int .i64) 2 w w0.heap.size (fun k_ => (P0_1_ k_ ∨ w.heap.size ≤ k_)) u9000_ l0_1 from Kd.R_mono ho0_1 (fun k_ hk => (.inl hk)))
 have HK := Azq.mk (Kept.refl w (fun k_ => P0_1_ k_))
 have HW0 := Azq.mk hB.size
 have HB := Azq.mk hB
 clear hB
 have H : ((laws_markWhole.f k a0_0 l0_1 a1).bind fun bt468 => (some (bt468.1, bt468.2))) = some (r1, r2) := h
 clear h
 replace H := Option.bind_eq_some_iff.mp H
 obtain ⟨⟨t468, t469⟩, A30, H⟩ := H
 replace H : (some (t468, t469)) = some (r1, r2) := H
 have A3 := Azq.mk A30
 clear A30
 simp only [Option.some.injEq, Prod.mk.injEq] at H
 obtain ⟨rfl, rfl⟩ := H
 obtain ⟨Ao4, co4, eo4⟩ := Kd.R_slice HO0_1.out
 subst eo4
 go_enter Tryz.func9, Tryz.ntmps9
 go_wp2_with (first | ((with_reducible refine gate_dst (N := 2) rfl ?_); refine box_event ?hg (N := 2) ?hd (cs := #[.int .i64 a0_0, .slice Ao4 l0_1.length co4, .int .i64 a0_2]) (t := 30) ?hr ?_; (case hd => rfl); (case hg => rfl); (case hr => first | (go_simp; done) | (go_simp; rfl)); intro gb467 hg w5 hbox hb; have n0_ := Azq.mk (Kd.R_below (by (with_reducible repeat (first | apply Kd.R_alloc | apply Kd.R_drewN | apply Kd.R_drew)); exact HO0_1.out) hb); have n1_ := Azq.mk (Kept.below (S := (fun k_ => P0_1_ k_)) (by repeat (first | (with_reducible first | exact HK.out | apply Kept.alloc | apply Kept.drewN | apply Kept.drew) | exact HK.out)) hb); have n2_ := Azq.mk (wtq (by repeat (first | (with_reducible first | exact HB.out | apply waq | apply wdq | apply wrq) | exact HB.out)) hb); have n3_ := Azq.mk (hbox); have n4_ := Azq.mk ((by rw [hg]; exact (by first | exact HK.out.1 | exact (show Kept w _ (fun k_ => P0_1_ k_) from by repeat (first | (with_reducible first | exact HK.out | apply Kept.alloc | apply Kept.drewN | apply Kept.drew) | exact HK.out)).1) : w.heap.size ≤ gb467)); have n5_ := Azq.mk ((by rw [hg]; exact (wzq (by repeat (first | (with_reducible first | exact HB.out | apply waq | apply wdq | apply wrq) | exact HB.out))) : w0.heap.size ≤ gb467)); clear HO0_1; clear HK; clear HB; have HO0_1 := n0_; have HK := n1_; have HB := n2_; have BK467 := n3_; have GW467 := n4_; have GE467 := n5_; clear n0_ n1_ n2_ n3_ n4_ n5_; clear hb hbox hg; have hcz6_0 : w5.cell? ⟨gb467, 0, none⟩ = some (.int .i64 a0_0) := (kcq BK467.out 0).trans rfl; have hcz6_1 : w5.cell? ⟨gb467, 1, none⟩ = some (.slice Ao4 l0_1.length co4) := (kcq BK467.out 1).trans rfl; have hcz6_2 : w5.cell? ⟨gb467, 2, none⟩ = some (.int .i64 a0_2) := (kcq BK467.out 2).trans rfl; have hfz6_0 := kfq BK467.out 0; have hfz6_1 := kfq BK467.out 1; have hfz6_2 := kfq BK467.out 2) | ((with_reducible refine gate_callee (f := 24) rfl ?_); refine goesL_ (some 8) rfl rfl Tryz.func24 (by kernel_rfl) rfl #[.agg #[.int .i64 a0_0, .slice Ao4 l0_1.length co4], .int .i64 a1] rfl (by (try simp only [List.map_toArray, List.map_cons, List.map_nil]); first | done | rfl | (simp only [List.length_drop, List.length_take]; rfl)) ?_; (with_reducible refine (laws_markWhole.calls k a0_0 (fun k_ => some k_ = (.slice Ao4 l0_1.length co4 : Value).ownBlock) (.slice Ao4 l0_1.length co4) l0_1 a1 t468 t469 w0 _ ?side1 ?side2 A3.out).mono ?_); (case side1 => repeat (first | (with_reducible first | exact HB.out | apply waq | apply wdq | apply wrq | refine wsq ?_ GE467.out) | exact HB.out)); (case side2 => exact Kd.R_tight rfl HO0_1.out); rintro e w7 ⟨rfl, hy0, hb, hkp⟩; refine ⟨_, rfl, ?_⟩; have n0_ := Azq.mk (Kd.R_reok rfl hy0 (fun k_ e_ => HO0_1.out.1 k_ e_)); have n1_ := Azq.mk (blk_kept (by (with_reducible repeat (first | refine kdq ?_ _ | refine krq ?_ | refine kaq ?_ _)); exact BK467.out) hkp (fun hs_ => (fun e_ => (Kd.R_ne HO0_1.out BK467.out (by decide)) e_) hs_)); have n2_ := Azq.mk (Kept.then_ (S := (fun k_ => P0_1_ k_)) (by repeat (first | (with_reducible first | exact HK.out | apply Kept.alloc | apply Kept.drewN | apply Kept.drew | refine Kept.setCell ?_ (.inr GW467.out) _) | exact HK.out)) hkp (fun k_ hs_ => (fun e_ => (HO0_1.out.1 k_ e_.symm)) hs_)); have n3_ := Azq.mk (hb); clear HO0_1; clear BK467; clear HK; clear HB; have HO0_1 := n0_; have BK467 := n1_; have HK := n2_; have HB := n3_; clear n0_ n1_ n2_ n3_; (try clear hb); (try clear hkp); (try clear hy0)))
 go_ret
 exact ⟨by first | rfl | (simp [errW_none, errW_some] <;> rfl) | (simp [*, errW_none, errW_some] <;> rfl), by (with_reducible repeat (first | apply Kd.R_alloc | apply Kd.R_drewN | apply Kd.R_drew)); exact HO0_1.out, by repeat (first | (with_reducible first | exact HB.out | apply waq | apply wdq | apply wrq | refine wsq ?_ GE467.out) | exact HB.out), by repeat (first | (with_reducible first | exact HK.out | apply Kept.alloc | apply Kept.drewN | apply Kept.drew | refine Kept.setCell ?_ (.inr GW467.out) _) | exact HK.out)⟩
end Go.Proofs.YtjggbalhpflbbaaGreat.PW
end
section
namespace Go.Proofs.YtjggbalhpflbbaaGreat.PW
open Go.RowKit Go.Proofs.YtjggbalhpflbbaaGreatW.PrintWords Go.Proofs.YtjggbalhpflbbaaGreatW.PrintLast Go.Proofs.YtjggbalhpflbbaaGreatW.PrintMore
attribute [local go_sem] max2_int min2_int max_two min_two max_three min_three max_four min_four   -- for this text's walks alone
set_option linter.unusedVariables false
set_option linter.unusedSimpArgs false
def laws_heldInt64S.l0 : Nat → List Int → Int → Int → Option (Int)
 | 0, _, _, _ => none
 | k + 1, x0, x1, x5 => if x5 < (x0.length : Int) then (if 0 ≤ x5 then (if (rd x0 x5) = x1 then (laws_heldInt64S.l0 k x0 (wrap64 (x1 + 1)) (wrap64 (x5 + 1))) else (some (-1))) else (none)) else (some x1)
def laws_heldInt64S.f (k : Nat) (l0 : List Int) (a1 : Int) : Option (Int) := laws_heldInt64S.l0 k l0 a1 0
theorem laws_heldInt64S.mono_l : ∀ k, (∀ y0 y1 y2, LeO (laws_heldInt64S.l0 k y0 y1 y2) (laws_heldInt64S.l0 (k + 1) y0 y1 y2))
 | 0 => fun _ _ _ r h => by simp [laws_heldInt64S.l0] at h
 | k + 1 => by
  have ih0 := laws_heldInt64S.mono_l k
  ·intro y0 y1 y2
   unfold laws_heldInt64S.l0
   repeat' first
   | (with_reducible exact ih0 _ _ _)
   | (with_reducible exact LeO.refl _)
   | (with_reducible exact LeO.none _)
   | (with_reducible refine LeO.ite ?_ ?_)
   | (with_reducible refine LeO.bind ?_ (fun _ => ?_))
   | exact ih0 _ _ _
   | exact LeO.none _
   | refine LeO.ite ?_ ?_
   | refine LeO.bind ?_ (fun _ => ?_)
theorem laws_heldInt64S.mono : ∀ a0 a1 k, LeO (laws_heldInt64S.f k a0 a1) (laws_heldInt64S.f (k + 1) a0 a1) := by
 intro a0 a1 k
 have ih0 := laws_heldInt64S.mono_l k
 unfold laws_heldInt64S.f
 repeat' first
   | (with_reducible exact ih0 _ _ _)
   | (with_reducible exact LeO.refl _)
   | (with_reducible exact LeO.none _)
   | (with_reducible refine LeO.ite ?_ ?_)
   | (with_reducible refine LeO.bind ?_ (fun _ => ?_))
   | exact ih0 _ _ _
   | exact LeO.none _
   | refine LeO.ite ?_ ?_
   | refine LeO.bind ?_ (fun _ => ?_)
set_option maxHeartbeats 8000000 in
set_option maxRecDepth 100000 in
theorem laws_heldInt64S.calls (k : Nat) (A0 : Option Addr) (c0 : Nat) (l0 : List Int) (a1 : Int) (r : Int) (w : World) (hr0 : Kd.C (Kd.int .i64) w A0 l0.length l0) (hc0 : l0.length ≤ c0) (h : laws_heldInt64S.f k l0 a1 = some r) :
  Calls Tryz.prog 52 #[.slice A0 l0.length c0, .int .i64 a1] w fun e w' => e = .returned (.int .i64 r) ∧ Drawn0 w w' := by
 have HR0 := Azq.mk hr0
 have HC0 := Azq.mk hc0
 clear hr0 hc0
 have H : (laws_heldInt64S.l0 k l0 a1 0) = some r := h
 clear h
 have H' := Azq.mk H
 clear H
 go_enter Tryz.func52, Tryz.ntmps52
 go_wp2
 go_loopg [1, 5] k (fun kq v1 v5 w' => ∃ (x1_1 : Int) (x5_1 : Int), v1 = .int .i64 x1_1 ∧ v5 = .int .i64 x5_1 ∧ Azq (laws_heldInt64S.l0 kq l0 x1_1 x5_1 = some r) ∧ Azq (kq ≤ k) ∧ Drawn0 w w')
 case atStart => exact ⟨(a1), (0), (by first | rfl | (simp; done) | (simp [*]; done)), (by first | rfl | (simp; done) | (simp [*]; done)), H', ⟨Nat.le_refl _⟩, by repeat (first | exact Drawn0.refl _ | apply Drawn0.step)⟩
 case round =>
  clear H'
  try clear p2
  obtain ⟨x1_1, x5_1, rfl, rfl, HA, HK1, ⟨m1, rfl⟩⟩ := hrel
  cases gk with
  | zero => exact absurd HA.out (by simp [laws_heldInt64S.l0])
  | succ k1 =>
   have H := HA.out
   clear HA
   simp only [laws_heldInt64S.l0] at H
   by_cases c3 : x5_1 < (l0.length : Int)
   ·rw [if_pos c3] at H
    have c3b0 : decide (x5_1 < (l0.length : Int)) = true := decide_eq_true c3
    clear c3
    by_cases c4 : 0 ≤ x5_1
    ·rw [if_pos c4] at H
     have c4b0 : decide (0 ≤ x5_1) = true := decide_eq_true c4
     clear c4
     by_cases c5 : (rd l0 x5_1) = x1_1
     ·rw [if_pos c5] at H
      have c5b0 : ((rd l0 x5_1) == x1_1) = true := beq_iff_eq.mpr c5
      have c5b1 : ((rd l0 x5_1) != x1_1) = false := bne_eq_false_iff_eq.mpr c5
      clear c5
      have H' := Azq.mk H
      clear H
      have p470 : 0 ≤ (x5_1 : Int) := of_decide_eq_true (by first | (with_reducible assumption) | assumption)
      have q470 : x5_1 < (l0.length : Int) := of_decide_eq_true (by first | (with_reducible assumption) | assumption)
      obtain ⟨ad470, e470, hx470_0⟩ := Kd.at_int HR0.out x5_1 p470 q470
      cases e470
      replace p470 := eq_true p470
      replace q470 := eq_true q470
      go_wp2
      go_roundg k1
      case measure => have := HK1.out; omega
      case rel => exact ⟨(wrap64 (x1_1 + 1)), (wrap64 (x5_1 + 1)), (by first | rfl | (simp; done) | (simp [*]; done)), (by first | rfl | (simp; done) | (simp [*]; done)), H', ⟨by have := HK1.out; omega⟩, by repeat (first | exact Drawn0.refl _ | apply Drawn0.step)⟩
     ·rw [if_neg c5] at H
      have c5b0 : ((rd l0 x5_1) == x1_1) = false := beq_eq_false_iff_ne.mpr c5
      have c5b1 : ((rd l0 x5_1) != x1_1) = true := bne_iff_ne.mpr c5
      obtain rfl := Option.some.inj H
      have p470 : 0 ≤ (x5_1 : Int) := of_decide_eq_true (by first | (with_reducible assumption) | assumption)
      have q470 : x5_1 < (l0.length : Int) := of_decide_eq_true (by first | (with_reducible assumption) | assumption)
      obtain ⟨ad470, e470, hx470_0⟩ := Kd.at_int HR0.out x5_1 p470 q470
      cases e470
      replace p470 := eq_true p470
      replace q470 := eq_true q470
      go_wp2
      go_ret
      exact ⟨by first | rfl | (simp; done) | (simp [*]; done), by repeat (first | exact Drawn0.refl _ | apply Drawn0.step)⟩
    ·rw [if_neg c4] at H
     exact absurd H (by simp)
   ·rw [if_neg c3] at H
    have c3b0 : decide (x5_1 < (l0.length : Int)) = false := decide_eq_false c3
    clear c3
    obtain rfl := Option.some.inj H
    go_wp2
    go_ret
    exact ⟨by first | rfl | (simp; done) | (simp [*]; done), by repeat (first | exact Drawn0.refl _ | apply Drawn0.step)⟩
end Go.Proofs.YtjggbalhpflbbaaGreat.PW
end
section
namespace Go.Proofs.YtjggbalhpflbbaaGreat.PW
open Go.RowKit Go.Proofs.YtjggbalhpflbbaaGreatW.PrintWords Go.Proofs.YtjggbalhpflbbaaGreatW.PrintLast Go.Proofs.YtjggbalhpflbbaaGreatW.PrintMore
attribute [local go_sem] max2_int min2_int max_two min_two max_three min_three max_four min_four   -- for this text's walks alone
set_option linter.unusedVariables false
set_option linter.unusedSimpArgs false
def laws_heldWhole.f (k : Nat) (a0_0 : Int) (l0_1 : List Int) (a1 : Int) : Option (Int) := (laws_heldInt64S.f k l0_1 a1).bind fun t472 => (if t472 < 0 then (some (-1)) else (some t472))
theorem laws_heldWhole.mono : ∀ a0 a1 a2 k, LeO (laws_heldWhole.f k a0 a1 a2) (laws_heldWhole.f (k + 1) a0 a1 a2) := by
 intro a0 a1 a2 k
 unfold laws_heldWhole.f
 repeat' first
   | (with_reducible exact laws_heldInt64S.mono _ _ _)
   | (with_reducible exact LeO.refl _)
   | (with_reducible exact LeO.none _)
   | (with_reducible refine LeO.ite ?_ ?_)
   | (with_reducible refine LeO.bind ?_ (fun _ => ?_))
   | exact laws_heldInt64S.mono _ _ _
   | exact LeO.none _
   | refine LeO.ite ?_ ?_
   | refine LeO.bind ?_ (fun _ => ?_)
set_option maxHeartbeats 8000000 in
set_option maxRecDepth 100000 in
theorem laws_heldWhole.calls (k : Nat) (a0_0 : Int) (A0_1 : Option Addr) (c0_1 : Nat) (l0_1 : List Int) (a1 : Int) (r : Int) (w : World) (hr0_1 : Kd.C (Kd.int .i64) w A0_1 l0_1.length l0_1) (hc0_1 : l0_1.length ≤ c0_1) (h : laws_heldWhole.f k a0_0 l0_1 a1 = some r) :
  Calls Tryz.prog 25 #[.agg #[.int .i64 a0_0, .slice A0_1 l0_1.length c0_1], .int .i64 a1] w fun e w' => e = .returned (.int .i64 r) ∧ Below w.heap.size w w' := by
 have hu28 := Tryz.underlying28
 have HR0_1 := Azq.mk hr0_1
 have HC0_1 := Azq.mk hc0_1
 clear hr0_1 hc0_1
 have HB := Azq.mk (Below.refl w.heap.size w)
 have H : ((laws_heldInt64S.f k l0_1 a1).bind fun t472 => (if t472 < 0 then (some (-1)) else (some t472))) = some r := h
 clear h
 replace H := Option.bind_eq_some_iff.mp H
 obtain ⟨t472, A30, H⟩ := H
 replace H : (if t472 < 0 then (some (-1)) else (some t472)) = some r := H
 have A3 := Azq.mk A30
 clear A30
 by_cases c4 : t472 < 0
 ·rw [if_pos c4] at H
  have c4b0 : decide (t472 < 0) = true := decide_eq_true c4
  clear c4
  obtain rfl := Option.some.inj H
  go_enter Tryz.func25, Tryz.ntmps25
  go_wp2_with (first | ((with_reducible refine gate_dst (N := 2) rfl ?_); refine box_event ?hg (N := 2) ?hd (cs := #[.int .i64 a0_0, .slice A0_1 l0_1.length c0_1]) (t := 28) ?hr ?_; (case hd => rfl); (case hg => rfl); (case hr => first | (go_simp; done) | (go_simp; rfl)); intro gb471 hg w5 hbox hb; have n0_ := Azq.mk (wtq (by repeat (first | (with_reducible first | exact HB.out | apply waq | apply wdq | apply wrq) | exact HB.out)) hb); have n1_ := Azq.mk (hbox); have n2_ := Azq.mk ((by rw [hg]; exact (wzq (by repeat (first | (with_reducible first | exact HB.out | apply waq | apply wdq | apply wrq) | exact HB.out))) : w.heap.size ≤ gb471)); have n3_ := n2_; clear HB; have HB := n0_; have BK471 := n1_; have GW471 := n2_; have GE471 := n3_; clear n0_ n1_ n2_ n3_; clear hb hbox hg; have hcz6_0 : w5.cell? ⟨gb471, 0, none⟩ = some (.int .i64 a0_0) := (kcq BK471.out 0).trans rfl; have hcz6_1 : w5.cell? ⟨gb471, 1, none⟩ = some (.slice A0_1 l0_1.length c0_1) := (kcq BK471.out 1).trans rfl; have hfz6_0 := kfq BK471.out 0; have hfz6_1 := kfq BK471.out 1) | ((with_reducible refine gate_callee (f := 52) rfl ?_); refine goesL_ (some 8) rfl rfl Tryz.func52 (by kernel_rfl) rfl #[.slice A0_1 l0_1.length c0_1, .int .i64 a1] rfl (by (try simp only [List.map_toArray, List.map_cons, List.map_nil]); first | done | rfl | (simp only [List.length_drop, List.length_take]; rfl)) ?_; (with_reducible refine (laws_heldInt64S.calls k _ _ l0_1 a1 t472 _ ?side1 ?side2 A3.out).mono ?_); (case side1 => repeat (first | exact (Kd.C_below HR0_1.out HB.out) | (with_reducible refine Kd.C_alloc ?_ _) | (with_reducible refine Kd.C_drewN ?_ _) | (with_reducible refine Kd.C_drew ?_))); (case side2 => exact HC0_1.out); rintro e w' ⟨rfl, ⟨nd, rfl⟩⟩; refine ⟨_, rfl, ?_⟩))
  go_ret
  exact ⟨by first | rfl | (simp [errW_none, errW_some] <;> rfl) | (simp [*, errW_none, errW_some] <;> rfl), by repeat (first | (with_reducible first | exact HB.out | apply waq | apply wdq | apply wrq | refine wsq ?_ GE471.out) | exact HB.out)⟩
 ·rw [if_neg c4] at H
  have c4b0 : decide (t472 < 0) = false := decide_eq_false c4
  clear c4
  obtain rfl := Option.some.inj H
  go_enter Tryz.func25, Tryz.ntmps25
  go_wp2_with (first | ((with_reducible refine gate_dst (N := 2) rfl ?_); refine box_event ?hg (N := 2) ?hd (cs := #[.int .i64 a0_0, .slice A0_1 l0_1.length c0_1]) (t := 28) ?hr ?_; (case hd => rfl); (case hg => rfl); (case hr => first | (go_simp; done) | (go_simp; rfl)); intro gb471 hg w7 hbox hb; have n0_ := Azq.mk (wtq (by repeat (first | (with_reducible first | exact HB.out | apply waq | apply wdq | apply wrq) | exact HB.out)) hb); have n1_ := Azq.mk (hbox); have n2_ := Azq.mk ((by rw [hg]; exact (wzq (by repeat (first | (with_reducible first | exact HB.out | apply waq | apply wdq | apply wrq) | exact HB.out))) : w.heap.size ≤ gb471)); have n3_ := n2_; clear HB; have HB := n0_; have BK471 := n1_; have GW471 := n2_; have GE471 := n3_; clear n0_ n1_ n2_ n3_; clear hb hbox hg; have hcz8_0 : w7.cell? ⟨gb471, 0, none⟩ = some (.int .i64 a0_0) := (kcq BK471.out 0).trans rfl; have hcz8_1 : w7.cell? ⟨gb471, 1, none⟩ = some (.slice A0_1 l0_1.length c0_1) := (kcq BK471.out 1).trans rfl; have hfz8_0 := kfq BK471.out 0; have hfz8_1 := kfq BK471.out 1) | ((with_reducible refine gate_callee (f := 52) rfl ?_); refine goesL_ (some 8) rfl rfl Tryz.func52 (by kernel_rfl) rfl #[.slice A0_1 l0_1.length c0_1, .int .i64 a1] rfl (by (try simp only [List.map_toArray, List.map_cons, List.map_nil]); first | done | rfl | (simp only [List.length_drop, List.length_take]; rfl)) ?_; (with_reducible refine (laws_heldInt64S.calls k _ _ l0_1 a1 t472 _ ?side1 ?side2 A3.out).mono ?_); (case side1 => repeat (first | exact (Kd.C_below HR0_1.out HB.out) | (with_reducible refine Kd.C_alloc ?_ _) | (with_reducible refine Kd.C_drewN ?_ _) | (with_reducible refine Kd.C_drew ?_))); (case side2 => exact HC0_1.out); rintro e w' ⟨rfl, ⟨nd, rfl⟩⟩; refine ⟨_, rfl, ?_⟩))
  go_ret
  exact ⟨by first | rfl | (simp [errW_none, errW_some] <;> rfl) | (simp [*, errW_none, errW_some] <;> rfl), by repeat (first | (with_reducible first | exact HB.out | apply waq | apply wdq | apply wrq | refine wsq ?_ GE471.out) | exact HB.out)⟩
end Go.Proofs.YtjggbalhpflbbaaGreat.PW
end
section
namespace Go.Proofs.YtjggbalhpflbbaaGreat.PW
open Go.RowKit Go.Proofs.YtjggbalhpflbbaaGreatW.PrintWords Go.Proofs.YtjggbalhpflbbaaGreatW.PrintLast Go.Proofs.YtjggbalhpflbbaaGreatW.PrintMore
attribute [local go_sem] max2_int min2_int max_two min_two max_three min_three max_four min_four   -- for this text's walks alone
set_option linter.unusedVariables false
set_option linter.unusedSimpArgs false
def laws_heldDyadic.f (k : Nat) (a0_0 : Int) (l0_1 : List Int) (a0_2 : Int) (a1 : Int) : Option (Int) := (laws_heldWhole.f k a0_0 l0_1 a1).bind fun t474 => (if t474 < 0 then (some (-1)) else (some t474))
theorem laws_heldDyadic.mono : ∀ a0 a1 a2 a3 k, LeO (laws_heldDyadic.f k a0 a1 a2 a3) (laws_heldDyadic.f (k + 1) a0 a1 a2 a3) := by
 intro a0 a1 a2 a3 k
 unfold laws_heldDyadic.f
 repeat' first
   | (with_reducible exact laws_heldWhole.mono _ _ _ _)
   | (with_reducible exact LeO.refl _)
   | (with_reducible exact LeO.none _)
   | (with_reducible refine LeO.ite ?_ ?_)
   | (with_reducible refine LeO.bind ?_ (fun _ => ?_))
   | exact laws_heldWhole.mono _ _ _ _
   | exact LeO.none _
   | refine LeO.ite ?_ ?_
   | refine LeO.bind ?_ (fun _ => ?_)
set_option maxHeartbeats 8000000 in
set_option maxRecDepth 100000 in
theorem laws_heldDyadic.calls (k : Nat) (a0_0 : Int) (A0_1 : Option Addr) (c0_1 : Nat) (l0_1 : List Int) (a0_2 : Int) (a1 : Int) (r : Int) (w : World) (hr0_1 : Kd.C (Kd.int .i64) w A0_1 l0_1.length l0_1) (hc0_1 : l0_1.length ≤ c0_1) (h : laws_heldDyadic.f k a0_0 l0_1 a0_2 a1 = some r) :
  Calls Tryz.prog 10 #[.agg #[.int .i64 a0_0, .slice A0_1 l0_1.length c0_1, .int .i64 a0_2], .int .i64 a1] w fun e w' => e = .returned (.int .i64 r) ∧ Below w.heap.size w w' := by
 have hu30 := Tryz.underlying30
 have hu28 := Tryz.underlying28
 have HR0_1 := Azq.mk hr0_1
 have HC0_1 := Azq.mk hc0_1
 clear hr0_1 hc0_1
 have HB := Azq.mk (Below.refl w.heap.size w)
 have H : ((laws_heldWhole.f k a0_0 l0_1 a1).bind fun t474 => (if t474 < 0 then (some (-1)) else (some t474))) = some r := h
 clear h
 replace H := Option.bind_eq_some_iff.mp H
 obtain ⟨t474, A30, H⟩ := H
 replace H : (if t474 < 0 then (some (-1)) else (some t474)) = some r := H
 have A3 := Azq.mk A30
 clear A30
 by_cases c4 : t474 < 0
 ·rw [if_pos c4] at H
  have c4b0 : decide (t474 < 0) = true := decide_eq_true c4
  clear c4
  obtain rfl := Option.some.inj H
  go_enter Tryz.func10, Tryz.ntmps10
  go_wp2_with (first | ((with_reducible refine gate_dst (N := 2) rfl ?_); refine box_event ?hg (N := 2) ?hd (cs := #[.int .i64 a0_0, .slice A0_1 l0_1.length c0_1, .int .i64 a0_2]) (t := 30) ?hr ?_; (case hd => rfl); (case hg => rfl); (case hr => first | (go_simp; done) | (go_simp; rfl)); intro gb473 hg w5 hbox hb; have n0_ := Azq.mk (wtq (by repeat (first | (with_reducible first | exact HB.out | apply waq | apply wdq | apply wrq) | exact HB.out)) hb); have n1_ := Azq.mk (hbox); have n2_ := Azq.mk ((by rw [hg]; exact (wzq (by repeat (first | (with_reducible first | exact HB.out | apply waq | apply wdq | apply wrq) | exact HB.out))) : w.heap.size ≤ gb473)); have n3_ := n2_; clear HB; have HB := n0_; have BK473 := n1_; have GW473 := n2_; have GE473 := n3_; clear n0_ n1_ n2_ n3_; clear hb hbox hg; have hcz6_0 : w5.cell? ⟨gb473, 0, none⟩ = some (.int .i64 a0_0) := (kcq BK473.out 0).trans rfl; have hcz6_1 : w5.cell? ⟨gb473, 1, none⟩ = some (.slice A0_1 l0_1.length c0_1) := (kcq BK473.out 1).trans rfl; have hcz6_2 : w5.cell? ⟨gb473, 2, none⟩ = some (.int .i64 a0_2) := (kcq BK473.out 2).trans rfl; have hfz6_0 := kfq BK473.out 0; have hfz6_1 := kfq BK473.out 1; have hfz6_2 := kfq BK473.out 2) | ((with_reducible refine gate_callee (f := 25) rfl ?_); refine goesL_ (some 8) rfl rfl Tryz.func25 (by kernel_rfl) rfl #[.agg #[.int .i64 a0_0, .slice A0_1 l0_1.length c0_1], .int .i64 a1] rfl (by (try simp only [List.map_toArray, List.map_cons, List.map_nil]); first | done | rfl | (simp only [List.length_drop, List.length_take]; rfl)) ?_; (with_reducible refine (laws_heldWhole.calls k a0_0 _ _ l0_1 a1 t474 _ ?side1 ?side2 A3.out).mono ?_); (case side1 => repeat (first | exact (Kd.C_below HR0_1.out HB.out) | (with_reducible refine Kd.C_alloc ?_ _) | (with_reducible refine Kd.C_drewN ?_ _) | (with_reducible refine Kd.C_drew ?_))); (case side2 => exact HC0_1.out); rintro e w7 ⟨rfl, hb⟩; refine ⟨_, rfl, ?_⟩; have n0_ := Azq.mk (kbq (g := gb473) (o := .cells #[.int .i64 a0_0, .slice A0_1 l0_1.length c0_1, .int .i64 a0_2] 30 (0, 0)) (by (with_reducible repeat (first | refine kdq ?_ _ | refine krq ?_ | refine kaq ?_ _)); exact BK473.out) hb); have n1_ := Azq.mk (wtq (by repeat (first | (with_reducible first | exact HB.out | apply waq | apply wdq | apply wrq | refine wsq ?_ GE473.out) | exact HB.out)) hb); clear BK473; clear HB; have BK473 := n0_; have HB := n1_; clear n0_ n1_; (try clear hb); (try clear hb2); (try clear hk); (try clear hi)))
  go_ret
  exact ⟨by first | rfl | (simp [errW_none, errW_some] <;> rfl) | (simp [*, errW_none, errW_some] <;> rfl), by repeat (first | (with_reducible first | exact HB.out | apply waq | apply wdq | apply wrq | refine wsq ?_ GE473.out) | exact HB.out)⟩
 ·rw [if_neg c4] at H
  have c4b0 : decide (t474 < 0) = false := decide_eq_false c4
  clear c4
  obtain rfl := Option.some.inj H
  go_enter Tryz.func10, Tryz.ntmps10
  go_wp2_with (first | ((with_reducible refine gate_dst (N := 2) rfl ?_); refine box_event ?hg (N := 2) ?hd (cs := #[.int .i64 a0_0, .slice A0_1 l0_1.length c0_1, .int .i64 a0_2]) (t := 30) ?hr ?_; (case hd => rfl); (case hg => rfl); (case hr => first | (go_simp; done) | (go_simp; rfl)); intro gb473 hg w8 hbox hb; have n0_ := Azq.mk (wtq (by repeat (first | (with_reducible first | exact HB.out | apply waq | apply wdq | apply wrq) | exact HB.out)) hb); have n1_ := Azq.mk (hbox); have n2_ := Azq.mk ((by rw [hg]; exact (wzq (by repeat (first | (with_reducible first | exact HB.out | apply waq | apply wdq | apply wrq) | exact HB.out))) : w.heap.size ≤ gb473)); have n3_ := n2_; clear HB; have HB := n0_; have BK473 := n1_; have GW473 := n2_; have GE473 := n3_; clear n0_ n1_ n2_ n3_; clear hb hbox hg; have hcz9_0 : w8.cell? ⟨gb473, 0, none⟩ = some (.int .i64 a0_0) := (kcq BK473.out 0).trans rfl; have hcz9_1 : w8.cell? ⟨gb473, 1, none⟩ = some (.slice A0_1 l0_1.length c0_1) := (kcq BK473.out 1).trans rfl; have hcz9_2 : w8.cell? ⟨gb473, 2, none⟩ = some (.int .i64 a0_2) := (kcq BK473.out 2).trans rfl; have hfz9_0 := kfq BK473.out 0; have hfz9_1 := kfq BK473.out 1; have hfz9_2 := kfq BK473.out 2) | ((with_reducible refine gate_callee (f := 25) rfl ?_); refine goesL_ (some 8) rfl rfl Tryz.func25 (by kernel_rfl) rfl #[.agg #[.int .i64 a0_0, .slice A0_1 l0_1.length c0_1], .int .i64 a1] rfl (by (try simp only [List.map_toArray, List.map_cons, List.map_nil]); first | done | rfl | (simp only [List.length_drop, List.length_take]; rfl)) ?_; (with_reducible refine (laws_heldWhole.calls k a0_0 _ _ l0_1 a1 t474 _ ?side1 ?side2 A3.out).mono ?_); (case side1 => repeat (first | exact (Kd.C_below HR0_1.out HB.out) | (with_reducible refine Kd.C_alloc ?_ _) | (with_reducible refine Kd.C_drewN ?_ _) | (with_reducible refine Kd.C_drew ?_))); (case side2 => exact HC0_1.out); rintro e w10 ⟨rfl, hb⟩; refine ⟨_, rfl, ?_⟩; have n0_ := Azq.mk (kbq (g := gb473) (o := .cells #[.int .i64 a0_0, .slice A0_1 l0_1.length c0_1, .int .i64 a0_2] 30 (0, 0)) (by (with_reducible repeat (first | refine kdq ?_ _ | refine krq ?_ | refine kaq ?_ _)); exact BK473.out) hb); have n1_ := Azq.mk (wtq (by repeat (first | (with_reducible first | exact HB.out | apply waq | apply wdq | apply wrq | refine wsq ?_ GE473.out) | exact HB.out)) hb); clear BK473; clear HB; have BK473 := n0_; have HB := n1_; clear n0_ n1_; (try clear hb); (try clear hb2); (try clear hk); (try clear hi)))
  go_ret
  exact ⟨by first | rfl | (simp [errW_none, errW_some] <;> rfl) | (simp [*, errW_none, errW_some] <;> rfl), by repeat (first | (with_reducible first | exact HB.out | apply waq | apply wdq | apply wrq | refine wsq ?_ GE473.out) | exact HB.out)⟩
end Go.Proofs.YtjggbalhpflbbaaGreat.PW
end
section
namespace Go.Proofs.YtjggbalhpflbbaaGreat.Px
open Go.RowKit Go.Proofs.YtjggbalhpflbbaaGreatW.PrintWords Go.Proofs.YtjggbalhpflbbaaGreat.PW Go.Proofs.YtjggbalhpflbbaaGreat.Pb Go.Proofs.YtjggbalhpflbbaaGreat.Pc Go.Proofs.YtjggbalhpflbbaaGreat.Pm Go.Proofs.YtjggbalhpflbbaaGreat.Pw Dg
set_option linter.unusedVariables false
set_option linter.unusedSimpArgs false
theorem sown (l : List Int) (h : l.length ≤ 1099511627776) : spec_l01Own.f l = some l := by
  unfold spec_l01Own.f
  simp only [Option.bind_some, List.length_nil, List.nil_append]
  rw [if_pos (by omega)]
def smk (s : Int) (n : Nat) : Int × List Int := if n = 0 then (0, []) else (s, L n)
theorem smk_sgn (z : Int) : smk (sgn z) z.natAbs = (sgn z, L z.natAbs) := by
  unfold smk
  by_cases h : z = 0
  · subst h
    simp [sgn, L_zero]
  · rw [if_neg (by omega)]
theorem smk_one (z : Int) (s : Int) (hs : s = if z < 0 then -1 else 1) : smk s z.natAbs = (sgn z, L z.natAbs) := by
  by_cases h : z = 0
  · subst h
    simp [smk, sgn, L_zero]
  · rw [← smk_sgn z, hs]
    congr 1
    unfold sgn
    split
    · rfl
    · first | rw [if_neg h] | rfl
theorem smake_loop (s : Int) (l : List Int) (hd : Dig 16777216 l) (hl : l.length ≤ 1099511627776) : ∀ i : Nat, i ≤ l.length → val 16777216 (l.take i) = val 16777216 l → Ev (fun k => spec_l02Make.l0 k s l (i : Int)) (smk s (val 16777216 l).toNat) := by
  intro i
  induction i with
  | zero =>
    intro _ hv
    refine Ev.step (f := fun _ => some (0, [])) (fun k => ?_) (ev_of fun _ => ?_)
    · simp only [spec_l02Make.l0]
      rw [if_neg (by omega), if_pos (by omega)]
    · rw [List.take_zero, val_nil] at hv
      rw [← hv]; rfl
  | succ i ih =>
    intro hi hv
    have e1 : wrap64 (((i + 1 : Nat) : Int) - 1) = (i : Int) := by rw [wrapZ _ (by omega) (by omega)]; omega
    by_cases h0 : l.getD i 0 = 0
    · refine Ev.step (f := fun k => spec_l02Make.l0 k s l (i : Int)) (fun k => ?_) (ih (by omega) ?_)
      · simp only [spec_l02Make.l0]
        rw [if_pos (by omega), e1, if_pos (by omega), if_pos (by omega), rdN, if_pos h0]
      · rw [← hv]
        exact (val_take_zero (by omega) h0).symm
    · refine Ev.step (f := fun _ => some (s, l.take (i + 1))) (fun k => ?_) (ev_of fun _ => ?_)
      · simp only [spec_l02Make.l0]
        rw [if_pos (by omega), e1, if_pos (by omega), if_pos (by omega), rdN, if_neg h0, if_neg (by omega), if_pos (by omega), if_pos (show ((i + 1 : Nat) : Int) ≤ (l.length : Int) by omega), Int.toNat_natCast, sown _ (by simp; omega)]
        rfl
      · have ht : Top (l.take (i + 1)) := top_take_of hi (.inr (by rw [Nat.add_sub_cancel]; exact h0))
        have hne : l.take (i + 1) ≠ [] := by
          intro e
          have := congrArg List.length e
          rw [List.length_take, List.length_nil] at this
          omega
        have hp := val_pos (hd.take (i + 1)) ht hne (by decide)
        rw [hv] at hp
        have hL := L_of (hd.take (i + 1)) ht
        rw [hv] at hL
        unfold smk
        rw [if_neg (by omega), hL]
theorem smake (s : Int) (l : List Int) (hd : Dig 16777216 l) (hl : l.length ≤ 1099511627776) : Ev (fun k => spec_l02Make.f k s l) (smk s (val 16777216 l).toNat) := by
  unfold spec_l02Make.f
  exact smake_loop s l hd hl l.length (Nat.le_refl _) (by rw [List.take_length])
def mks (k : Int) (n : Nat) : List Int := (List.range n).map fun i : Nat => k + i
theorem mks_len (k : Int) (n : Nat) : (mks k n).length = n := by unfold mks; simp
theorem mks_succ (k : Int) (n : Nat) : mks k (n + 1) = mks k n ++ [k + n] := by unfold mks; rw [List.range_succ, List.map_append]; rfl
theorem mks_getD (k : Int) (n i : Nat) (h : i < n) : (mks k n).getD i 0 = k + i := by unfold mks; simp [List.getD, h]
theorem mark_loop (n : Nat) (hn : n ≤ 1099511627776) (d : Nat) : ∀ (i : Nat) (ys : List Int), i + d = n → ys.length = n → ys.take i = mks 1 i → Ev (fun k => laws_markInt64S.l0 k ys (1 + (i : Int)) (i : Int)) (1 + (n : Int), mks 1 n) := by
  induction d with
  | zero =>
    intro i ys hi hy h
    obtain rfl : i = n := by omega
    rw [List.take_of_length_le (by omega)] at h
    subst h
    refine Ev.step (f := fun _ => some (1 + (i : Int), mks 1 i)) (fun k => ?_) (ev_of fun _ => rfl)
    simp only [laws_markInt64S.l0]
    rw [if_neg (by omega)]
  | succ d ih =>
    intro i ys hi hy h
    refine Ev.step (f := fun k => laws_markInt64S.l0 k (ys.set i (1 + (i : Int))) (1 + ((i + 1 : Nat) : Int)) ((i + 1 : Nat) : Int)) (fun k => ?_) (ih (i + 1) _ (by omega) (by simpa using hy) ?_)
    · simp only [laws_markInt64S.l0]
      rw [if_pos (by omega), if_pos (by omega), wrapZ _ (by omega) (by omega), wrapZ _ (by omega) (by omega), Int.toNat_natCast]
      congr 1
    · rw [List.take_succ_eq_append_getElem (by simp; omega), Dg.take_set, h, mks_succ]
      simp
theorem held_loop (n : Nat) (hn : n ≤ 1099511627776) (d : Nat) : ∀ (i : Nat), i + d = n → Ev (fun k => laws_heldInt64S.l0 k (mks 1 n) (1 + (i : Int)) (i : Int)) (1 + (n : Int)) := by
  have hln := mks_len 1 n
  induction d with
  | zero =>
    intro i hi
    obtain rfl : i = n := by omega
    refine Ev.step (f := fun _ => some (1 + (i : Int))) (fun k => ?_) (ev_of fun _ => rfl)
    simp only [laws_heldInt64S.l0]
    rw [if_neg (by omega)]
  | succ d ih =>
    intro i hi
    refine Ev.step (f := fun k => laws_heldInt64S.l0 k (mks 1 n) (1 + ((i + 1 : Nat) : Int)) ((i + 1 : Nat) : Int)) (fun k => ?_) (ih (i + 1) (by omega))
    simp only [laws_heldInt64S.l0]
    rw [if_pos (by omega), if_pos (by omega), rdN, mks_getD 1 n i (by omega), if_pos rfl, wrapZ _ (by omega) (by omega), wrapZ _ (by omega) (by omega)]
    congr 1
theorem sheld (s : Int) (n : Nat) (hn : n ≤ 1099511627776) : Ev (fun k => laws_heldWhole.f k s (mks 1 n) 1) (1 + (n : Int)) := by
  unfold laws_heldWhole.f laws_heldInt64S.f
  exact Ev.bind (f := fun k t => _) (held_loop n hn n 0 (by omega)) (ifn (by omega) (ev_of fun _ => rfl))
end Go.Proofs.YtjggbalhpflbbaaGreat.Px
end
section
namespace Go.Proofs.YtjggbalhpflbbaaGreat.Pt
open Go.RowKit Go.Proofs.YtjggbalhpflbbaaGreatW.PrintWords Go.Proofs.YtjggbalhpflbbaaGreat.PW Go.Proofs.YtjggbalhpflbbaaGreat.Pb Go.Proofs.YtjggbalhpflbbaaGreat.Pc Go.Proofs.YtjggbalhpflbbaaGreat.Pm Go.Proofs.YtjggbalhpflbbaaGreat.Pw Dg
set_option linter.unusedVariables false
set_option linter.unusedSimpArgs false
theorem slimbs_loop (a b : List Int) (hl : a.length = b.length) (hm : a.length ≤ 1099511627776) (ha : Dig 16777216 a) (hb : Dig 16777216 b) :
    ∀ i : Nat, i ≤ a.length → a.drop i = b.drop i → Ev (fun k => spec_l02CompareLimbs.l0 k a b ((i : Int) - 1)) (sgn (val 16777216 a - val 16777216 b)) := by
  intro i
  induction i with
  | zero =>
    intro _ h
    rw [List.drop_zero, List.drop_zero] at h
    subst h
    refine Ev.step (f := fun _ => some 0) (fun k => ?_) (ev_of fun _ => by rw [Int.sub_self]; rfl)
    simp only [spec_l02CompareLimbs.l0]
    rw [if_neg (by omega)]
  | succ i ih =>
    intro hi h
    have e1 : ((i + 1 : Nat) : Int) - 1 = (i : Int) := by omega
    rw [e1]
    by_cases hx : a.getD i 0 = b.getD i 0
    · have h2 : a.drop i = b.drop i := by
        rw [List.drop_eq_getElem_cons (show i < a.length by omega), List.drop_eq_getElem_cons (show i < b.length by omega), h, ← getD_lt (show i < a.length by omega), ← getD_lt (show i < b.length by omega), hx]
      refine Ev.step (f := fun k => spec_l02CompareLimbs.l0 k a b ((i : Int) - 1)) (fun k => ?_) (ih (by omega) h2)
      simp only [spec_l02CompareLimbs.l0]
      rw [if_pos (by omega), if_pos (by omega), if_pos (by omega), if_pos (by omega), rdN, rdN, if_pos hx, wrapZ _ (by omega) (by omega)]
    · refine Ev.step (f := fun _ => some (sgn (a.getD i 0 - b.getD i 0))) (fun k => ?_) (ev_of fun _ => ?_)
      · simp only [spec_l02CompareLimbs.l0]
        rw [if_pos (by omega), if_pos (by omega), if_pos (by omega), if_pos (by omega), rdN, rdN, if_neg hx]
        unfold sgn
        rcases Int.lt_or_gt_of_ne hx with h3 | h3
        · rw [if_pos h3, if_pos (by omega)]
        · rw [if_neg (by omega), if_neg (by omega), if_neg (by omega)]
      · congr 1
        rcases Int.lt_or_gt_of_ne hx with h3 | h3
        · have := val_lt_of_digit (by decide) ha hb i h (by omega) h3
          unfold sgn; rw [if_pos (by omega), if_pos (by omega)]
        · have := val_lt_of_digit (by decide) hb ha i h.symm (by omega) h3
          unfold sgn; rw [if_neg (by omega), if_neg (by omega), if_neg (by omega), if_neg (by omega)]
theorem slimbs {a b : List Int} (ha : Dig 16777216 a) (hb : Dig 16777216 b) (ta : Top a) (tb : Top b) (h1 : a.length ≤ 1099511627776) (h2 : b.length ≤ 1099511627776) : Ev (fun k => spec_l02CompareLimbs.f k a b) (sgn (val 16777216 a - val 16777216 b)) := by
  unfold spec_l02CompareLimbs.f
  by_cases h : a.length = b.length
  · refine ifp (by omega) ?_
    have := slimbs_loop a b h h1 ha hb a.length (Nat.le_refl _) (by rw [List.drop_length, h, List.drop_length])
    rw [wrapZ _ (by omega) (by omega)]
    exact this
  · refine ifn (by omega) ?_
    rcases Nat.lt_or_gt_of_ne h with h3 | h3
    · have := val_lt_of_length (by decide) ha hb tb h3
      refine ifp (by omega) (ev_of fun _ => ?_)
      unfold sgn; rw [if_pos (by omega)]
    · have := val_lt_of_length (by decide) hb ha ta h3
      refine ifn (by omega) (ev_of fun _ => ?_)
      unfold sgn; rw [if_neg (by omega), if_neg (by omega)]
theorem sgn_range (z : Int) : -1 ≤ sgn z ∧ sgn z ≤ 1 := by
  unfold sgn
  split
  · omega
  · split <;> omega
theorem sgn_neg (z : Int) : sgn (-z) = -sgn z := by
  unfold sgn
  rcases Int.lt_trichotomy z 0 with h | h | h
  · rw [if_neg (by omega), if_neg (by omega), if_pos h]; rfl
  · subst h; rfl
  · rw [if_pos (by omega), if_neg (by omega), if_neg (by omega)]
end Go.Proofs.YtjggbalhpflbbaaGreat.Pt
end
section
namespace Go.Proofs.YtjggbalhpflbbaaGreat.Py
open Go.RowKit Go.Proofs.YtjggbalhpflbbaaGreatW.PrintWords Go.Proofs.YtjggbalhpflbbaaGreat.PW Go.Proofs.YtjggbalhpflbbaaGreat.Pb Go.Proofs.YtjggbalhpflbbaaGreat.Pc Go.Proofs.YtjggbalhpflbbaaGreat.Pm Go.Proofs.YtjggbalhpflbbaaGreat.Pw Go.Proofs.YtjggbalhpflbbaaGreat.Px Go.Proofs.YtjggbalhpflbbaaGreat.Pt Dg
set_option linter.unusedVariables false
set_option linter.unusedSimpArgs false
theorem plus_round (a b out : List Int) (c : Int) (i : Nat) (ha : Dig 16777216 a) (hb : Dig 16777216 b) (hl1 : a.length ≤ 1099511627776) (hl2 : b.length ≤ 1099511627776) (ho : out.length ≤ 1099511627777) (h0 : 0 ≤ c) (h1 : c ≤ 1) (hi : i ≤ 1099511627777) (k : Nat) :
    spec_l02Plus.j1 (k + 1) a b out c (i : Int) true = spec_l02Plus.l0 k a b (out ++ [(c + a.getD i 0 + b.getD i 0) % 16777216]) ((c + a.getD i 0 + b.getD i 0) / 16777216) ((i + 1 : Nat) : Int) := by
  have hai := ha.all0 (by decide) i
  have hbi := hb.all0 (by decide) i
  simp only [spec_l02Plus.j1]
  rw [if_pos trivial, wrapZ ((i : Int) + 1) (by omega) (by omega)]
  by_cases hia : i < a.length
  · rw [if_pos (show (i : Int) < (a.length : Int) by omega), if_pos (show (0 : Int) ≤ (i : Int) by omega)]
    by_cases hib : i < b.length
    · rw [if_pos (show (i : Int) < (b.length : Int) by omega), if_pos (by omega), rdN, rdN, wrapZ (c + _) (by omega) (by omega), wrapZ (c + _ + _) (by omega) (by omega), Int.tmod_eq_emod_of_nonneg (by omega), Int.tdiv_eq_ediv_of_nonneg (by omega), wrapZ _ (by omega) (by omega)]
      rfl
    · have hb0 : b.getD i 0 = 0 := getD_ge (by omega)
      rw [if_neg (show ¬ (i : Int) < (b.length : Int) by omega), if_pos (by omega), rdN, wrapZ (c + _) (by omega) (by omega), Int.tmod_eq_emod_of_nonneg (by omega), Int.tdiv_eq_ediv_of_nonneg (by omega), wrapZ _ (by omega) (by omega), hb0, Int.add_zero]
      rfl
  · have ha0 : a.getD i 0 = 0 := getD_ge (by omega)
    rw [if_neg (show ¬ (i : Int) < (a.length : Int) by omega)]
    by_cases hib : i < b.length
    · rw [if_pos (show (i : Int) < (b.length : Int) by omega), if_pos (show (0 : Int) ≤ (i : Int) by omega), if_pos (by omega), rdN, wrapZ (c + _) (by omega) (by omega), Int.tmod_eq_emod_of_nonneg (by omega), Int.tdiv_eq_ediv_of_nonneg (by omega), wrapZ _ (by omega) (by omega), ha0, Int.add_zero]
      rfl
    · have hb0 : b.getD i 0 = 0 := getD_ge (by omega)
      rw [if_neg (show ¬ (i : Int) < (b.length : Int) by omega), if_pos (by omega), Int.tmod_eq_emod_of_nonneg (by omega), Int.tdiv_eq_ediv_of_nonneg (by omega), wrapZ _ (by omega) (by omega), ha0, hb0, Int.add_zero, Int.add_zero]
      rfl
theorem plus_end (a b out : List Int) (i : Nat) (ha : a.length ≤ i) (hb : b.length ≤ i) : Ev (fun k => spec_l02Plus.l0 k a b out 0 (i : Int)) out := by
  refine Ev.step (f := fun k => spec_l02Plus.j1 k a b out 0 (i : Int) false) (fun k => ?_) (Ev.step (f := fun _ => some out) (fun k => ?_) (ev_of fun _ => rfl))
  · simp only [spec_l02Plus.l0]
    rw [if_neg (by omega), if_neg (by omega)]
    rfl
  · simp only [spec_l02Plus.j1]
    rw [if_neg (by simp)]
theorem plus_loop (a b : List Int) (ha : Dig 16777216 a) (hb : Dig 16777216 b) (hl1 : a.length ≤ 1099511627776) (hl2 : b.length ≤ 1099511627776) (M : Nat) (hM1 : a.length ≤ M) (hM2 : b.length ≤ M) (hM3 : M = a.length ∨ M = b.length) (d : Nat) :
    ∀ (i : Nat) (out : List Int) (c : Int), i + d = M → out.length = i → Dig 16777216 out → 0 ≤ c → c ≤ 1 → val 16777216 out + 16777216 ^ i * c = val 16777216 (a.take i) + val 16777216 (b.take i) →
      ∃ r, Ev (fun k => spec_l02Plus.l0 k a b out c (i : Int)) r ∧ Dig 16777216 r ∧ val 16777216 r = val 16777216 a + val 16777216 b ∧ r.length ≤ M + 1 := by
  induction d with
  | zero =>
    intro i out c hd hlen hdo h0 h1 hinv
    obtain rfl : i = M := by omega
    rw [val_take_ge hM1, val_take_ge hM2] at hinv
    by_cases hc : c = 0
    · subst hc
      exact ⟨out, plus_end a b out i hM1 hM2, hdo, by omega, by omega⟩
    · obtain rfl : c = 1 := by omega
      have ha0 : a.getD i 0 = 0 := getD_ge hM1
      have hb0 : b.getD i 0 = 0 := getD_ge hM2
      refine ⟨out ++ [1], ?_, hdo.append (Dig.cons (by decide) (by decide) Dig.nil), ?_, by simp; omega⟩
      · refine Ev.step (f := fun k => spec_l02Plus.j1 k a b out 1 (i : Int) true) (fun k => ?_) (Ev.step (f := fun k => spec_l02Plus.l0 k a b (out ++ [1]) 0 ((i + 1 : Nat) : Int)) (fun k => ?_) (plus_end a b _ (i + 1) (by omega) (by omega)))
        · simp only [spec_l02Plus.l0]
          rw [if_neg (by omega), if_neg (by omega)]
          rfl
        · rw [plus_round a b out 1 i ha hb hl1 hl2 (by omega) (by decide) (by decide) (by omega) k, ha0, hb0]
          rfl
      · rw [val_snoc, hlen, ← hinv]
        rfl
  | succ d ih =>
    intro i out c hd hlen hdo h0 h1 hinv
    have hai := ha.all0 (by decide) i
    have hbi := hb.all0 (by decide) i
    obtain ⟨r, hr, h2⟩ := ih (i + 1) (out ++ [(c + a.getD i 0 + b.getD i 0) % 16777216]) ((c + a.getD i 0 + b.getD i 0) / 16777216) (by omega) (by simp; omega) (hdo.append (Dig.cons (by omega) (by omega) Dig.nil)) (by omega) (by omega) (by
      have := add_step (a := a.getD i 0) (b := b.getD i 0) (c := c) (x := (c + a.getD i 0 + b.getD i 0) % 16777216) (c' := (c + a.getD i 0 + b.getD i 0) / 16777216) (p := 16777216) hinv (by omega)
      rw [val_snoc, hlen, val_take_succ' a i, val_take_succ' b i, Int.pow_succ]
      exact this)
    refine ⟨r, ?_, h2⟩
    refine Ev.step (f := fun k => spec_l02Plus.j1 k a b out c (i : Int) true) (fun k => ?_) (Ev.step (f := fun k => _) (fun k => plus_round a b out c i ha hb hl1 hl2 (by omega) h0 h1 (by omega) k) hr)
    simp only [spec_l02Plus.l0]
    by_cases hia : i < a.length
    · rw [if_pos (by omega)]
    · rw [if_neg (by omega), if_pos (by omega)]
theorem splus (a b : List Int) (ha : Dig 16777216 a) (hb : Dig 16777216 b) (hl1 : a.length ≤ 1099511627776) (hl2 : b.length ≤ 1099511627776) :
    ∃ r, Ev (fun k => spec_l02Plus.f k a b) r ∧ Dig 16777216 r ∧ val 16777216 r = val 16777216 a + val 16777216 b ∧ r.length ≤ max a.length b.length + 1 := by
  unfold spec_l02Plus.f
  exact plus_loop a b ha hb hl1 hl2 (max a.length b.length) (by omega) (by omega) (by omega) (max a.length b.length) 0 [] 0 (by omega) rfl Dig.nil (by decide) (by decide) (by simp [val])
theorem minus_loop (a b : List Int) (ha : Dig 16777216 a) (hb : Dig 16777216 b) (hab : b.length ≤ a.length) (hl1 : a.length ≤ 1099511627776) (hle : val 16777216 b ≤ val 16777216 a) (d : Nat) :
    ∀ (i : Nat) (out : List Int) (c : Int), i + d = a.length → out.length = i → Dig 16777216 out → 0 ≤ c → c ≤ 1 → val 16777216 out - 16777216 ^ i * c = val 16777216 (a.take i) - val 16777216 (b.take i) →
      ∃ r, Ev (fun k => spec_l02Minus.l0 k a b out c (i : Int)) r ∧ Dig 16777216 r ∧ val 16777216 r = val 16777216 a - val 16777216 b ∧ r.length = a.length := by
  induction d with
  | zero =>
    intro i out c hd hlen hdo h0 h1 hinv
    obtain rfl : i = a.length := by omega
    rw [val_take_ge (Nat.le_refl _), val_take_ge hab] at hinv
    have hlt := val_lt (by decide) hdo
    rw [hlen] at hlt
    have hp : ((16777216 : Nat) : Int) ^ a.length = (16777216 : Int) ^ a.length := rfl
    have hv : val 16777216 out = val 16777216 a - val 16777216 b := by
      rcases (show c = 0 ∨ c = 1 by omega) with rfl | rfl
      · omega
      · exfalso
        rw [Int.mul_one] at hinv
        omega
    refine ⟨out, Ev.step (f := fun _ => some out) (fun k => ?_) (ev_of fun _ => rfl), hdo, hv, hlen⟩
    simp only [spec_l02Minus.l0]
    rw [if_neg (by omega)]
  | succ d ih =>
    intro i out c hd hlen hdo h0 h1 hinv
    have hai := ha.all0 (by decide) i
    have hbi := hb.all0 (by decide) i
    obtain ⟨x, hx⟩ : ∃ x, x = a.getD i 0 - c - b.getD i 0 := ⟨_, rfl⟩
    obtain ⟨y, e, hy0, hy1, he0, he1, hye, hcase⟩ : ∃ y e : Int, 0 ≤ y ∧ y < 16777216 ∧ 0 ≤ e ∧ e ≤ 1 ∧ x = y - 16777216 * e ∧ (x < 0 ∧ y = x + 16777216 ∧ e = 1 ∨ ¬ x < 0 ∧ y = x ∧ e = 0) := by
      by_cases hn : x < 0
      · exact ⟨x + 16777216, 1, by omega, by omega, by omega, by omega, by omega, .inl ⟨hn, rfl, rfl⟩⟩
      · exact ⟨x, 0, by omega, by omega, by omega, by omega, by omega, .inr ⟨hn, rfl, rfl⟩⟩
    obtain ⟨r, hr, h2⟩ := ih (i + 1) (out ++ [y]) e (by omega) (by simp; omega) (hdo.append (Dig.cons hy0 hy1 Dig.nil)) he0 he1 (by
      have := sub_step (a := a.getD i 0) (b := b.getD i 0) (c := c) (x := y) (c' := e) (p := 16777216) hinv (by omega)
      rw [val_snoc, hlen, val_take_succ' a i, val_take_succ' b i, Int.pow_succ]
      exact this)
    refine ⟨r, Ev.step (f := fun k => spec_l02Minus.l0 k a b (out ++ [y]) e ((i + 1 : Nat) : Int)) (fun k => ?_) hr, h2⟩
    simp only [spec_l02Minus.l0]
    rw [if_pos (by omega), if_pos (by omega), rdN, rdN, wrapZ (a.getD i 0 - c) (by omega) (by omega), wrapZ ((i : Int) + 1) (by omega) (by omega)]
    have hol : out.length < 17592186044416 := by omega
    by_cases hib : i < b.length
    · rw [if_pos (by omega), ← hx, wrapZ x (by omega) (by omega)]
      rcases hcase with ⟨hn, rfl, rfl⟩ | ⟨hn, rfl, rfl⟩
      · rw [if_pos hn, if_pos hol, wrapZ _ (by omega) (by omega)]; rfl
      · rw [if_neg hn, if_pos hol]; rfl
    · have hb0 : b.getD i 0 = 0 := getD_ge (by omega)
      rw [if_neg (by omega), show a.getD i 0 - c = x by omega]
      rcases hcase with ⟨hn, rfl, rfl⟩ | ⟨hn, rfl, rfl⟩
      · rw [if_pos hn, if_pos hol, wrapZ _ (by omega) (by omega)]; rfl
      · rw [if_neg hn, if_pos hol]; rfl
theorem sminus (a b : List Int) (ha : Dig 16777216 a) (hb : Dig 16777216 b) (hab : b.length ≤ a.length) (hl1 : a.length ≤ 1099511627776) (hle : val 16777216 b ≤ val 16777216 a) :
    ∃ r, Ev (fun k => spec_l02Minus.f k a b) r ∧ Dig 16777216 r ∧ val 16777216 r = val 16777216 a - val 16777216 b ∧ r.length = a.length := by
  unfold spec_l02Minus.f
  exact minus_loop a b ha hb hab hl1 hle a.length 0 [] 0 (by omega) rfl Dig.nil (by decide) (by decide) (by simp [val])
end Go.Proofs.YtjggbalhpflbbaaGreat.Py
end
section
namespace Go.Proofs.YtjggbalhpflbbaaGreat.Pz
open Go.RowKit Go.Proofs.YtjggbalhpflbbaaGreatW.PrintWords Go.Proofs.YtjggbalhpflbbaaGreat.PW Go.Proofs.YtjggbalhpflbbaaGreat.Pb Go.Proofs.YtjggbalhpflbbaaGreat.Pc Go.Proofs.YtjggbalhpflbbaaGreat.Pm Go.Proofs.YtjggbalhpflbbaaGreat.Pw Go.Proofs.YtjggbalhpflbbaaGreat.Px Go.Proofs.YtjggbalhpflbbaaGreat.Pt Go.Proofs.YtjggbalhpflbbaaGreat.Py Dg
set_option linter.unusedVariables false
set_option linter.unusedSimpArgs false
theorem smk_of {s z : Int} (h : z ≠ 0 → s = sgn z) : smk s z.natAbs = (sgn z, L z.natAbs) := by
  by_cases h0 : z = 0
  · subst h0; simp [smk, sgn, L_zero]
  · rw [h h0]; exact smk_sgn z
theorem sgn_zero {z : Int} : sgn z = 0 ↔ z = 0 := by
  unfold sgn
  split
  · omega
  · split <;> omega
theorem L_le {a b : Nat} (h : a ≤ b) : (L a).length ≤ (L b).length := by
  rcases Nat.lt_or_ge (L b).length (L a).length with h1 | h1
  · have := val_lt_of_length (by decide) (L_dig b) (L_dig a) (L_top a) h1
    rw [L_val, L_val] at this
    omega
  · exact h1
theorem sadd (x y : Int) (hx : bl x.natAbs ≤ 1099511627000) (hy : bl y.natAbs ≤ 1099511627000) : Ev (fun k => spec_l02Add.f k (sgn x) (L x.natAbs) (sgn y) (L y.natAbs)) (sgn (x + y), L (x + y).natAbs) := by
  have lx := L_len x.natAbs
  have ly := L_len y.natAbs
  have mk : ∀ (s : Int) (l : List Int) (z : Int), Dig 16777216 l → l.length ≤ 1099511627777 → val 16777216 l = (z.natAbs : Nat) → (z ≠ 0 → s = sgn z) → l.length ≤ 1099511627776 → Ev (fun k => spec_l02Make.f k s l) (sgn z, L z.natAbs) := by
    intro s l z hd _ hv hs hl
    have := smake s l hd hl
    rw [hv, Int.toNat_natCast, smk_of hs] at this
    exact this
  unfold spec_l02Add.f
  by_cases h0 : x = 0
  · subst h0
    refine ifp rfl (Ev.bind (f := fun k t => _) (mk (sgn y) (L y.natAbs) y (L_dig _) (by omega) (L_val _) (fun _ => rfl) (by omega)) (ev_of fun _ => ?_))
    rw [Int.zero_add]
  refine ifn (fun h => h0 (sgn_zero.1 h)) ?_
  by_cases h1 : y = 0
  · subst h1
    refine ifp rfl (Ev.bind (f := fun k t => _) (mk (sgn x) (L x.natAbs) x (L_dig _) (by omega) (L_val _) (fun _ => rfl) (by omega)) (ev_of fun _ => ?_))
    rw [Int.add_zero]
  refine ifn (fun h => h1 (sgn_zero.1 h)) ?_
  have sx : sgn x = 1 ∧ 0 < x ∨ sgn x = -1 ∧ x < 0 := by
    unfold sgn
    split
    · exact .inr ⟨rfl, by omega⟩
    · exact .inl ⟨rfl, by omega⟩
  have sy : sgn y = 1 ∧ 0 < y ∨ sgn y = -1 ∧ y < 0 := by
    unfold sgn
    split
    · exact .inr ⟨rfl, by omega⟩
    · exact .inl ⟨rfl, by omega⟩
  have sz : ∀ z : Int, (0 < z → sgn z = 1) ∧ (z < 0 → sgn z = -1) := fun z => ⟨fun h => by unfold sgn; rw [if_neg (by omega), if_neg (by omega)], fun h => by unfold sgn; rw [if_pos h]⟩
  by_cases he : sgn x = sgn y
  · refine ifp he ?_
    obtain ⟨r, hr, hd, hv, hl⟩ := splus (L x.natAbs) (L y.natAbs) (L_dig _) (L_dig _) (by omega) (by omega)
    rw [L_val, L_val] at hv
    refine Ev.bind (f := fun k t => _) hr (Ev.bind (f := fun k t => _) (mk (sgn x) r (x + y) hd (by omega) (by omega) (fun _ => ?_) (by omega)) (ev_of fun _ => rfl))
    have h2 := sz (x + y)
    rcases sx with ⟨e1, p1⟩ | ⟨e1, p1⟩ <;> rcases sy with ⟨e2, p2⟩ | ⟨e2, p2⟩
    · rw [e1, h2.1 (by omega)]
    · omega
    · omega
    · rw [e1, h2.2 (by omega)]
  · refine ifn he ?_
    have hc := slimbs (L_dig x.natAbs) (L_dig y.natAbs) (L_top _) (L_top _) (by omega) (by omega)
    rw [L_val, L_val] at hc
    refine Ev.bind (f := fun k t => _) hc ?_
    have h2 := sz (x + y)
    by_cases hle : y.natAbs ≤ x.natAbs
    · refine ifp ?_ ?_
      · unfold sgn; rw [if_neg (by omega)]; split <;> omega
      obtain ⟨r, hr, hd, hv, hl⟩ := sminus (L x.natAbs) (L y.natAbs) (L_dig _) (L_dig _) (L_le hle) (by omega) (by rw [L_val, L_val]; omega)
      rw [L_val, L_val] at hv
      refine Ev.bind (f := fun k t => _) hr (Ev.bind (f := fun k t => _) (mk (sgn x) r (x + y) hd (by omega) ?_ (fun _ => ?_) (by omega)) (ev_of fun _ => rfl))
      · rw [hv]
        rcases sx with ⟨e1, p1⟩ | ⟨e1, p1⟩ <;> rcases sy with ⟨e2, p2⟩ | ⟨e2, p2⟩ <;> omega
      · rcases sx with ⟨e1, p1⟩ | ⟨e1, p1⟩ <;> rcases sy with ⟨e2, p2⟩ | ⟨e2, p2⟩
        · omega
        · rw [e1, h2.1 (by omega)]
        · rw [e1, h2.2 (by omega)]
        · omega
    · refine ifn ?_ ?_
      · unfold sgn; rw [if_pos (by omega)]; omega
      obtain ⟨r, hr, hd, hv, hl⟩ := sminus (L y.natAbs) (L x.natAbs) (L_dig _) (L_dig _) (L_le (by omega)) (by omega) (by rw [L_val, L_val]; omega)
      rw [L_val, L_val] at hv
      refine Ev.bind (f := fun k t => _) hr (Ev.bind (f := fun k t => _) (mk (sgn y) r (x + y) hd (by omega) ?_ (fun _ => ?_) (by omega)) (ev_of fun _ => rfl))
      · rw [hv]
        rcases sx with ⟨e1, p1⟩ | ⟨e1, p1⟩ <;> rcases sy with ⟨e2, p2⟩ | ⟨e2, p2⟩ <;> omega
      · rcases sx with ⟨e1, p1⟩ | ⟨e1, p1⟩ <;> rcases sy with ⟨e2, p2⟩ | ⟨e2, p2⟩
        · omega
        · rw [e2, h2.2 (by omega)]
        · rw [e2, h2.1 (by omega)]
        · omega
end Go.Proofs.YtjggbalhpflbbaaGreat.Pz
end
section
namespace Go.Proofs.YtjggbalhpflbbaaGreat.Ss
open Go.RowKit Go.Proofs.YtjggbalhpflbbaaGreatW.PrintWords Go.Proofs.YtjggbalhpflbbaaGreatW.PrintMore Go.Proofs.YtjggbalhpflbbaaGreat.PW Go.Proofs.YtjggbalhpflbbaaGreat.Pb Go.Proofs.YtjggbalhpflbbaaGreat.Pc Go.Proofs.YtjggbalhpflbbaaGreat.Pm Go.Proofs.YtjggbalhpflbbaaGreat.Pw Go.Proofs.YtjggbalhpflbbaaGreat.Px Go.Proofs.YtjggbalhpflbbaaGreat.Pt Go.Proofs.YtjggbalhpflbbaaGreat.Pz Dg
set_option linter.unusedVariables false
set_option linter.unusedSimpArgs false
theorem i64_id {x : Int} (h0 : -9223372036854775808 ≤ x) (h1 : x ≤ 9223372036854775807) : IntKind.i64.wrap x = x := by rw [IntKind.wrap_i64]; omega
theorem td24 (n : Nat) (h : n ≤ 4611686018427387904) : wrap64 (Int.tdiv (n : Int) 24) = ((n / 24 : Nat) : Int) := by
  rw [Int.tdiv_eq_ediv_of_nonneg (by omega), wrapZ _ (by omega) (by omega)]; rfl
theorem tm24 (n : Nat) : Int.tmod (n : Int) 24 = ((n % 24 : Nat) : Int) := by
  rw [Int.tmod_eq_emod_of_nonneg (by omega)]; rfl
theorem um24 (n : Nat) : IntKind.u64.wrap (Int.tmod (n : Int) 24) = ((n % 24 : Nat) : Int) := by
  rw [tm24, IntKind.wrap_u64]; omega
theorem and_one (a : Nat) (h : a < 2 ^ 63) : bits .and .i64 (a : Int) 1 = ((a % 2 : Nat) : Int) := by
  have := (bits_nat .i64 63 (by decide) (fun n h0 h1 => i64_id (by omega) (by omega)) a 1 h (by decide)).1
  rw [Nat.and_one_is_mod] at this
  exact this
theorem pow_le24 {r : Nat} (h : r ≤ 24) : 1 ≤ (2 : Int) ^ r ∧ (2 : Int) ^ r ≤ 16777216 := by
  have h1 := Nat.pow_le_pow_right (n := 2) (by decide) h
  have h2 := Nat.two_pow_pos r
  have e : ((2 : Int) ^ r) = ((2 ^ r : Nat) : Int) := by simp
  rw [e]; omega
theorem shl24 {x : Int} {r : Nat} (h0 : 0 ≤ x) (h1 : x < 16777216) (hr : r ≤ 24) : shl .i64 x (r : Int) = x * 2 ^ r ∧ 0 ≤ x * 2 ^ r ∧ x * 2 ^ r ≤ 16777215 * 16777216 := by
  have hp := pow_le24 hr
  have h2 : x * 2 ^ r ≤ 16777215 * 16777216 := Int.mul_le_mul (by omega) hp.2 (by omega) (by omega)
  have h3 : 0 ≤ x * 2 ^ r := Int.mul_nonneg h0 (by omega)
  refine ⟨?_, h3, h2⟩
  unfold shl
  rw [Int.toNat_natCast, Nat.min_eq_left (by show r ≤ 64; omega), i64_id (by omega) (by omega)]
theorem shr24 {x : Int} {r : Nat} (hr : r ≤ 24) : shr .i64 x (r : Int) = x / 2 ^ r := by
  unfold shr
  rw [Int.toNat_natCast, Nat.min_eq_left (by show r ≤ 64; omega)]
theorem left_loop (s : Int) (a : List Int) (ha : Dig 16777216 a) (k : Nat) (hk : k ≤ 1073741824) (hm : a.length ≤ 1073741824) (hs : -1 ≤ s ∧ s ≤ 1) (S : Nat) (hS : val 16777216 a * 2 ^ (k % 24) * 16777216 ^ (k / 24) = S) (d : Nat) :
    ∀ (i : Nat) (ys : List Int) (c : Int), i + d = a.length → ys.length = k / 24 + i → Dig 16777216 ys → 0 ≤ c → c < 2 ^ (k % 24) →
      val 16777216 ys + 16777216 ^ (k / 24 + i) * c = val 16777216 (a.take i) * 2 ^ (k % 24) * 16777216 ^ (k / 24) →
      Ev (fun n => spec_l02Left.l0 n (k : Int) ys c (i : Int) s a) (smk s S) := by
  have hr : k % 24 ≤ 24 := by omega
  have hq : k / 24 ≤ 1073741824 := by omega
  have um := um24 k
  generalize k % 24 = r at *
  generalize k / 24 = q at *
  have hp := pow_le24 hr
  induction d with
  | zero =>
    intro i ys c hd hy hdy hc0 hc1 hinv
    have hi : i = a.length := by omega
    subst hi
    rw [List.take_length, hS] at hinv
    have hmk := smake s (ys ++ [c]) (hdy.append (Dig.cons hc0 (by omega) Dig.nil)) (by simp; omega)
    rw [val_snoc, hy] at hmk
    have e : ((16777216 : Nat) : Int) = 16777216 := rfl
    rw [e, hinv, Int.toNat_natCast] at hmk
    refine Ev.step (f := fun n => (spec_l02Make.f n s (ys ++ [c])).bind fun bt => (some (bt.1, bt.2))) (fun n => ?_) (Ev.bind (f := fun k t => _) hmk (ev_of fun _ => rfl))
    simp only [spec_l02Left.l0]
    rw [if_neg (by omega), if_pos (by omega)]
  | succ d ih =>
    intro i ys c hd hy hdy hc0 hc1 hinv
    have hai := ha.all0 (by decide) i
    obtain ⟨hs1, hs2, hs3⟩ := shl24 hai.1 hai.2 hr
    obtain ⟨x, hx⟩ : ∃ x, x = c + a.getD i 0 * 2 ^ r := ⟨_, rfl⟩
    have hxlt : x / 16777216 < 2 ^ r := by
      apply Int.ediv_lt_of_lt_mul (by decide)
      have : (a.getD i 0 + 1) * 2 ^ r ≤ 16777216 * 2 ^ r := Int.mul_le_mul_of_nonneg_right (by omega) (by omega)
      rw [Int.add_mul] at this
      rw [hx, Int.mul_comm (2 ^ r)]
      omega
    refine Ev.step (f := fun n => spec_l02Left.l0 n (k : Int) (ys ++ [x % 16777216]) (x / 16777216) ((i + 1 : Nat) : Int) s a) (fun n => ?_)
      (ih (i + 1) _ _ (by omega) (by simp; omega) (hdy.append (Dig.cons (by omega) (by omega) Dig.nil)) (by omega) hxlt ?_)
    · simp only [spec_l02Left.l0]
      rw [if_pos (by omega), if_pos (by omega), um, if_pos (by omega), if_pos (by omega), rdN, hs1, ← hx, wrapZ x (by omega) (by omega), Int.tmod_eq_emod_of_nonneg (by omega), Int.tdiv_eq_ediv_of_nonneg (by omega), wrapZ (x / 16777216) (by omega) (by omega), wrapZ ((i : Int) + 1) (by omega) (by omega)]
      rfl
    · rw [val_snoc, hy, val_take_succ' a i, show q + (i + 1) = q + i + 1 by omega, Int.pow_succ]
      have h1 : x = x % 16777216 + 16777216 * (x / 16777216) := by omega
      have e : ((16777216 : Nat) : Int) = 16777216 := rfl
      rw [e]
      rw [Int.pow_add] at hinv ⊢
      generalize (16777216 : Int) ^ i = P at *
      generalize (16777216 : Int) ^ q = Q at *
      generalize x % 16777216 = lo at *
      generalize x / 16777216 = hi' at *
      generalize a.getD i 0 = ai at *
      generalize (2 : Int) ^ r = R at *
      generalize val 16777216 ys = Vy at *
      generalize val 16777216 (a.take i) = Va at *
      clear ih hs1 hs2 hs3 um
      grind
theorem pow_split24 (k : Nat) : (2 : Int) ^ (k % 24) * 16777216 ^ (k / 24) = 2 ^ k := by
  rw [show (16777216 : Int) = 2 ^ 24 from rfl, ← Int.pow_mul, ← Int.pow_add]
  congr 1
  omega
theorem sgn_pow (x : Int) (k : Nat) : sgn (x * 2 ^ k) = sgn x := by
  have hp : (0 : Int) < 2 ^ k := Int.pow_pos (by decide)
  unfold sgn
  rcases Int.lt_trichotomy x 0 with h | h | h
  · rw [if_pos h, if_pos (Int.mul_neg_of_neg_of_pos h hp)]
  · subst h; simp
  · have := Int.mul_pos h hp
    rw [if_neg (by omega), if_neg (by omega), if_neg (by omega), if_neg (by omega)]
theorem sleft (x : Int) (k : Nat) (hx : bl x.natAbs ≤ 1073741824) (hk : k ≤ 1073741824) : Ev (fun n => spec_l02Left.f n (sgn x) (L x.natAbs) (k : Int)) (sgn (x * 2 ^ k), L (x * 2 ^ k).natAbs) := by
  have lx := L_len x.natAbs
  unfold spec_l02Left.f
  rw [td24 k (by omega)]
  refine ifp (by omega) (ifp (by omega) ?_)
  have := left_loop (sgn x) (L x.natAbs) (L_dig _) k hk (by omega) (sgn_range x) (x * 2 ^ k).natAbs (by
    rw [L_val, Int.mul_assoc, pow_split24, Int.natAbs_mul, Int.natCast_mul]
    have hp : (0 : Int) < 2 ^ k := Int.pow_pos (by decide)
    rw [Int.natAbs_of_nonneg (Int.le_of_lt hp)]) (L x.natAbs).length 0 (List.replicate ((k / 24 : Nat) : Int).toNat 0) 0 (by omega) (by rw [List.length_replicate, Int.toNat_natCast]; rfl) (dig_replicate (by decide) _) (by decide) (Int.pow_pos (by decide)) (by rw [List.take_zero, val_nil, val_zeros]; simp)
  rw [← sgn_pow x k, smk_sgn] at this
  rw [← sgn_pow x k]
  exact this
theorem sbit (s : Int) (n k : Nat) (hn : bl n ≤ 1073741824) (hk : k ≤ 1073741824) : spec_l02Bit.f s (L n) (k : Int) = some ((n / 2 ^ k % 2 : Nat) : Int) := by
  have ln := L_len n
  have hpow : (2 : Nat) ^ k = 16777216 ^ (k / 24) * 2 ^ (k % 24) := by
    rw [show (16777216 : Nat) = 2 ^ 24 from rfl, ← Nat.pow_mul, ← Nat.pow_add]
    congr 1
    omega
  unfold spec_l02Bit.f
  rw [td24 k (by omega), um24]
  by_cases h : (L n).length ≤ k / 24
  · rw [if_pos (by omega)]
    have h1 : n < 16777216 ^ (L n).length := lt_of_dg_length _
    have h2 := Nat.pow_le_pow_right (n := 16777216) (by decide) h
    rw [hpow, ← Nat.div_div_eq_div_mul, Nat.div_eq_of_lt (Nat.lt_of_lt_of_le h1 h2), Nat.zero_div]
    rfl
  · rw [if_neg (by omega), if_pos (by omega), if_pos (by omega), if_pos (by omega), rdN, L_getD, shr24 (by omega)]
    congr 1
    have hpw : ((2 : Int) ^ (k % 24)) = ((2 ^ (k % 24) : Nat) : Int) := by simp
    rw [hpw]
    have hb := and_one (n / 16777216 ^ (k / 24) % 16777216 / 2 ^ (k % 24)) (Nat.lt_of_le_of_lt (Nat.div_le_self _ _) (Nat.lt_of_lt_of_le (Nat.mod_lt _ (by decide)) (by decide)))
    rw [show (((n / 16777216 ^ (k / 24) % 16777216 : Nat) : Int) / ((2 ^ (k % 24) : Nat) : Int)) = ((n / 16777216 ^ (k / 24) % 16777216 / 2 ^ (k % 24) : Nat) : Int) from rfl, hb, bit_limb _ _ (by omega), Nat.div_div_eq_div_mul, ← hpow]
theorem stwos_loop (s : Int) (n : Nat) (hn : bl n ≤ 1073741824) (h0 : n ≠ 0) (d : Nat) : ∀ k : Nat, k + d = tz n → Ev (fun m => spec_l02Twos.l0 m (k : Int) s (L n)) ((tz n : Nat) : Int) := by
  have hb := tz_lt h0
  induction d with
  | zero =>
    intro k hk
    obtain rfl : k = tz n := by omega
    refine Ev.step (f := fun _ => some ((tz n : Nat) : Int)) (fun m => ?_) (ev_of fun _ => rfl)
    simp only [spec_l02Twos.l0]
    rw [sbit s n (tz n) hn (by omega), Option.bind_some, if_neg (by have := tz_odd h0; omega)]
  | succ d ih =>
    intro k hk
    refine Ev.step (f := fun m => spec_l02Twos.l0 m ((k + 1 : Nat) : Int) s (L n)) (fun m => ?_) (ih (k + 1) (by omega))
    simp only [spec_l02Twos.l0]
    rw [sbit s n k hn (by omega), Option.bind_some, if_pos (by have := tz_even (n := n) (k := k) (by omega); omega), wrapZ ((k : Int) + 1) (by omega) (by omega)]
    rfl
theorem stwos (s : Int) (n : Nat) (hn : bl n ≤ 1073741824) (h0 : n ≠ 0) : Ev (fun m => spec_l02Twos.f m s (L n)) ((tz n : Nat) : Int) := by
  unfold spec_l02Twos.f
  exact stwos_loop s n hn h0 (tz n) 0 (by omega)
theorem cut_loop (s : Int) (n k : Nat) (hk : k ≤ 1073741824) (hn : bl n ≤ 1073741824) (d : Nat) :
    ∀ (j : Nat) (ys : List Int), k / 24 + j + d = (L n).length → ys.length = j → (∀ i, i < j → ys.getD i 0 = ((n / 2 ^ k / 16777216 ^ i % 16777216 : Nat) : Int)) →
      Ev (fun m => spec_l02Cut.l0 m (k : Int) ys ((k / 24 + j : Nat) : Int) s (L n)) (smk s (n / 2 ^ k)) := by
  have ln := L_len n
  have hr : k % 24 < 24 := by omega
  have um := um24 k
  have tm := tm24 k
  have hlt : n < 16777216 ^ (L n).length := lt_of_dg_length _
  have hpow : (2 : Nat) ^ k = 16777216 ^ (k / 24) * 2 ^ (k % 24) := by
    rw [show (16777216 : Nat) = 2 ^ 24 from rfl, ← Nat.pow_mul, ← Nat.pow_add]
    congr 1
    omega
  have hpw : ∀ r : Nat, ((2 : Int) ^ r) = ((2 ^ r : Nat) : Int) := fun r => by simp
  generalize hrr : k % 24 = r at *
  generalize hqq : k / 24 = q at *
  induction d with
  | zero =>
    intro j ys hd hy hdig
    have hv := val_digits (by decide) ys (n / 2 ^ k) (fun i hi => hdig i (by omega))
    have hlt2 : n / 2 ^ k < 16777216 ^ ys.length := by
      rw [hpow, ← Nat.div_div_eq_div_mul]
      refine Nat.lt_of_le_of_lt (Nat.div_le_self _ _) ?_
      apply Nat.div_lt_of_lt_mul
      rw [← Nat.pow_add, hy, show q + j = (L n).length by omega]
      exact hlt
    rw [Nat.mod_eq_of_lt hlt2] at hv
    have hdy : Dig 16777216 ys := dig_of_getD fun i hi => by
      rw [hdig i (by omega)]
      have := Nat.mod_lt (n / 2 ^ k / 16777216 ^ i) (show 0 < 16777216 by decide)
      omega
    have hmk := smake s ys hdy (by omega)
    rw [hv, Int.toNat_natCast] at hmk
    refine Ev.step (f := fun m => (spec_l02Make.f m s ys).bind fun bt => (some (bt.1, bt.2))) (fun m => ?_) (Ev.bind (f := fun k t => _) hmk (ev_of fun _ => rfl))
    simp only [spec_l02Cut.l0]
    rw [if_neg (by omega)]
  | succ d ih =>
    intro j ys hd hy hdig
    have hai : (L n).getD (q + j) 0 = ((n / 16777216 ^ (q + j) % 16777216 : Nat) : Int) := L_getD n (q + j)
    have haj : (L n).getD (q + j + 1) 0 = ((n / 16777216 ^ (q + j) / 16777216 % 16777216 : Nat) : Int) := by rw [L_getD, Nat.pow_succ, Nat.div_div_eq_div_mul]
    obtain ⟨X, hX⟩ : ∃ X, X = n / 16777216 ^ (q + j) := ⟨_, rfl⟩
    rw [← hX] at hai haj
    have hX3 : n / 2 ^ k / 16777216 ^ j = X / 2 ^ r := by
      rw [hX, hpow, Nat.div_div_eq_div_mul, Nat.div_div_eq_div_mul, Nat.pow_add]
      congr 1
      rw [Nat.mul_assoc, Nat.mul_comm (2 ^ r), Nat.mul_assoc]
    have hcd := cut_digit X r (by omega)
    have hXm := Nat.mod_lt X (show 0 < 16777216 by decide)
    have hXn := Nat.mod_lt (X / 16777216) (show 0 < 16777216 by decide)
    obtain ⟨v, hv⟩ : ∃ v : Nat, v = X / 2 ^ r % 16777216 := ⟨_, rfl⟩
    rw [← hv] at hcd
    refine Ev.step (f := fun m => spec_l02Cut.l0 m (k : Int) (ys ++ [(v : Int)]) ((q + (j + 1) : Nat) : Int) s (L n)) (fun m => ?_) (ih (j + 1) _ (by omega) (by simp; omega) (fun i hi => ?_))
    · simp only [spec_l02Cut.l0]
      rw [if_pos (by omega), if_pos (by omega), um, if_pos (by omega), wrapZ (((q + j : Nat) : Int) + 1) (by omega) (by omega), rdN, hai, shr24 (by omega), hpw]
      have hsm : ((X % 16777216 : Nat) : Int) / ((2 ^ r : Nat) : Int) = ((X % 16777216 / 2 ^ r : Nat) : Int) := rfl
      have hle := Nat.div_le_self (X % 16777216) (2 ^ r)
      rw [hsm]
      by_cases hj : q + j + 1 < (L n).length
      · have e24 : IntKind.u64.wrap (wrap64 (24 - Int.tmod (k : Int) 24)) = ((24 - r : Nat) : Int) := by rw [tm, wrapZ _ (by omega) (by omega), IntKind.wrap_u64]; omega
        obtain ⟨h1, h2, h3⟩ := shl24 (x := ((X / 16777216 % 16777216 : Nat) : Int)) (r := 24 - r) (by omega) (by omega) (by omega)
        rw [if_pos (by omega), if_pos (by omega), e24, if_pos (by omega), if_pos (by omega), show ((q + j : Nat) : Int) + 1 = ((q + j + 1 : Nat) : Int) by omega, rdN, haj, h1]
        have hw : (X % 16777216 / 2 ^ r : Nat) ≤ 16777215 := by omega
        have e : (((X % 16777216 / 2 ^ r : Nat) : Int) + ((X / 16777216 % 16777216 : Nat) : Int) * 2 ^ (24 - r)) % 16777216 = (v : Int) := by
          rw [hpw, ← hcd]; rfl
        have hs0 : 0 ≤ ((X % 16777216 / 2 ^ r : Nat) : Int) + ((X / 16777216 % 16777216 : Nat) : Int) * 2 ^ (24 - r) := Int.add_nonneg (Int.natCast_nonneg _) h2
        have hs1 : ((X % 16777216 / 2 ^ r : Nat) : Int) + ((X / 16777216 % 16777216 : Nat) : Int) * 2 ^ (24 - r) ≤ 16777215 + 16777215 * 16777216 := Int.add_le_add (Int.ofNat_le.2 hw) h3
        rw [wrapZ _ (Int.le_trans (by decide) hs0) (Int.le_trans hs1 (by decide)), Int.tmod_eq_emod_of_nonneg hs0, e]
        rfl
      · have h0 : (L n).getD (q + j + 1) 0 = 0 := getD_ge (by omega)
        rw [haj] at h0
        have h1 : X / 16777216 % 16777216 = 0 := by omega
        rw [h1, Nat.zero_mul, Nat.add_zero, Nat.mod_eq_of_lt (by omega)] at hcd
        rw [if_neg (by omega), if_pos (by omega), hcd]
        rfl
    · by_cases hij : i < j
      · rw [getD_lt (by simp; omega), List.getElem_append_left (by omega), ← getD_lt]
        exact hdig i hij
      · obtain rfl : i = j := by omega
        rw [hX3, ← hv, getD_lt (by simp; omega)]
        simp [hy]
theorem scut (s : Int) (n k : Nat) (hn : bl n ≤ 1073741824) (hk : k ≤ 1073741824) : Ev (fun m => spec_l02Cut.f m s (L n) (k : Int)) (smk s (n / 2 ^ k)) := by
  have ln := L_len n
  unfold spec_l02Cut.f
  rw [td24 k (by omega)]
  by_cases h : k / 24 ≤ (L n).length
  · exact cut_loop s n k hk hn ((L n).length - k / 24) 0 [] (by omega) rfl (fun i hi => by omega)
  · have h1 : n < 16777216 ^ (L n).length := lt_of_dg_length _
    have h2 := Nat.pow_le_pow_right (n := 16777216) (by decide) (show (L n).length ≤ k / 24 by omega)
    have hpow : (2 : Nat) ^ k = 16777216 ^ (k / 24) * 2 ^ (k % 24) := by
      rw [show (16777216 : Nat) = 2 ^ 24 from rfl, ← Nat.pow_mul, ← Nat.pow_add]
      congr 1
      omega
    have h3 : n / 2 ^ k = 0 := by rw [hpow, ← Nat.div_div_eq_div_mul, Nat.div_eq_of_lt (Nat.lt_of_lt_of_le h1 h2), Nat.zero_div]
    have hmk := smake s [] Dig.nil (by simp)
    rw [val_nil] at hmk
    rw [h3]
    refine Ev.step (f := fun m => (spec_l02Make.f m s []).bind fun bt => (some (bt.1, bt.2))) (fun m => ?_) (Ev.bind (f := fun k t => _) hmk (ev_of fun _ => rfl))
    simp only [spec_l02Cut.l0]
    rw [if_neg (by omega)]
end Go.Proofs.YtjggbalhpflbbaaGreat.Ss
end
section
namespace Go.Proofs.YtjggbalhpflbbaaGreat.Pv
open Go.RowKit Go.Proofs.YtjggbalhpflbbaaGreatW.PrintWords Go.Proofs.YtjggbalhpflbbaaGreat.PW Go.Proofs.YtjggbalhpflbbaaGreat.Pb Go.Proofs.YtjggbalhpflbbaaGreat.Pc Go.Proofs.YtjggbalhpflbbaaGreat.Pm Go.Proofs.YtjggbalhpflbbaaGreat.Pw Go.Proofs.YtjggbalhpflbbaaGreat.Px Dg
set_option linter.unusedVariables false
set_option linter.unusedSimpArgs false
theorem tdm (x : Int) : ((Int.tmod x 16777216 < 0 ∧ -(Int.tmod x 16777216) = ((x.natAbs % 16777216 : Nat) : Int)) ∨ (¬ Int.tmod x 16777216 < 0 ∧ Int.tmod x 16777216 = ((x.natAbs % 16777216 : Nat) : Int))) ∧ (Int.tdiv x 16777216).natAbs = x.natAbs / 16777216 ∧ (Int.tdiv x 16777216 = ((x.natAbs / 16777216 : Nat) : Int) ∨ Int.tdiv x 16777216 = -((x.natAbs / 16777216 : Nat) : Int)) := by
  by_cases h : 0 ≤ x
  · obtain ⟨m, rfl⟩ := Int.eq_ofNat_of_zero_le h
    rw [Int.tmod_eq_emod_of_nonneg (by omega), Int.tdiv_eq_ediv_of_nonneg (by omega)]
    omega
  · obtain ⟨m, hm⟩ := Int.eq_ofNat_of_zero_le (show 0 ≤ -x by omega)
    obtain rfl : x = -(m : Int) := by omega
    rw [Int.neg_tmod, Int.neg_tdiv, Int.tmod_eq_emod_of_nonneg (by omega), Int.tdiv_eq_ediv_of_nonneg (by omega)]
    omega
theorem sof_loop (n : Nat) (s : Int) (hn : (L n).length ≤ 1099511627776) : ∀ (m : Nat) (x : Int), x.natAbs = m → -9223372036854775808 ≤ x → x ≤ 9223372036854775807 → ∀ y : List Int, y ++ L m = L n → Ev (fun k => spec_l02Of.l0 k x s y) (smk s n) := by
  intro m
  induction m using Nat.strongRecOn with
  | ind m ih =>
    intro x hx h1 h2 y hy
    have hyl : y.length ≤ 1099511627776 := by have := congrArg List.length hy; rw [List.length_append] at this; omega
    by_cases h0 : x = 0
    · subst h0
      have : m = 0 := by omega
      subst this
      rw [L_zero, List.append_nil] at hy
      subst hy
      have hm := smake s (L n) (L_dig n) hn
      rw [L_val, Int.toNat_natCast] at hm
      refine Ev.step (f := fun k => (spec_l02Make.f k s (L n)).bind fun t => some (t.1, t.2)) (fun k => ?_) (Ev.bind (f := fun k t => _) hm (ev_of fun _ => rfl))
      simp only [spec_l02Of.l0]
      rw [if_pos trivial]
    · have hm0 : m ≠ 0 := by omega
      obtain ⟨hd, hq, hq2⟩ := tdm x
      rw [hx] at hd hq hq2
      have hL : L m = ((m % 16777216 : Nat) : Int) :: L (m / 16777216) := dg_pos _ hm0
      rw [hL] at hy
      have hq3 : wrap64 (Int.tdiv x 16777216) = Int.tdiv x 16777216 := wrapZ _ (by omega) (by omega)
      refine Ev.step (f := fun k => spec_l02Of.l0 k (Int.tdiv x 16777216) s (y ++ [((m % 16777216 : Nat) : Int)])) (fun k => ?_) (ih (m / 16777216) (Nat.div_lt_self (by omega) (by decide)) _ hq (by omega) (by omega) _ (by rw [List.append_assoc]; exact hy))
      simp only [spec_l02Of.l0]
      rw [if_neg h0]
      rcases hd with ⟨ha, hb⟩ | ⟨ha, hb⟩
      · rw [if_pos ha, if_pos (by omega), hq3, hb, wrapZ _ (by omega) (by omega)]
      · rw [if_neg ha, if_pos (by omega), hq3, hb]
theorem sof (n : Int) (h1 : -9223372036854775808 ≤ n) (h2 : n ≤ 9223372036854775807) : Ev (fun k => spec_l02Of.f k n) (sgn n, L n.natAbs) := by
  have hl : (L n.natAbs).length ≤ 1099511627776 := by
    have h3 := L_len n.natAbs
    have h4 : bl n.natAbs ≤ 64 := bl_le (k := 64) (by omega)
    omega
  unfold spec_l02Of.f
  simp only [Option.bind_some]
  by_cases h : n < 0
  · refine ifp h (Ev.step (f := fun k => spec_l02Of.l0 k n (-1) []) (fun k => rfl) ?_)
    rw [← smk_one n (-1) (by rw [if_pos h])]
    exact sof_loop n.natAbs (-1) hl n.natAbs n rfl h1 h2 [] rfl
  · refine ifn h (Ev.step (f := fun k => spec_l02Of.l0 k n 1 []) (fun k => rfl) ?_)
    rw [← smk_one n 1 (by rw [if_neg h])]
    exact sof_loop n.natAbs 1 hl n.natAbs n rfl h1 h2 [] rfl
end Go.Proofs.YtjggbalhpflbbaaGreat.Pv
end
section
namespace Go.Proofs.YtjggbalhpflbbaaGreat.Pzs
open Go.RowKit Go.Proofs.YtjggbalhpflbbaaGreatW.PrintWords Go.Proofs.YtjggbalhpflbbaaGreat.PW Go.Proofs.YtjggbalhpflbbaaGreat.Pb Go.Proofs.YtjggbalhpflbbaaGreat.Pc Go.Proofs.YtjggbalhpflbbaaGreat.Pm Go.Proofs.YtjggbalhpflbbaaGreat.Pw Go.Proofs.YtjggbalhpflbbaaGreat.Px Go.Proofs.YtjggbalhpflbbaaGreat.Pt Go.Proofs.YtjggbalhpflbbaaGreat.Py Go.Proofs.YtjggbalhpflbbaaGreat.Pz Dg
set_option linter.unusedVariables false
set_option linter.unusedSimpArgs false
theorem sneg (x : Int) (hx : bl x.natAbs ≤ 1099511627000) : Ev (fun k => spec_l02Neg.f k (sgn x) (L x.natAbs)) (sgn (-x), L x.natAbs) := by
  have lx := L_len x.natAbs
  unfold spec_l02Neg.f
  have hr := sgn_range x
  rw [wrapZ _ (by omega) (by omega)]
  have := smake (-(sgn x)) (L x.natAbs) (L_dig _) (by omega)
  have e : smk (-(sgn x)) x.natAbs = (sgn (-x), L x.natAbs) := by
    have h := smk_sgn (-x)
    rw [sgn_neg, Int.natAbs_neg] at h
    rw [h, sgn_neg]
  rw [L_val, Int.toNat_natCast, e] at this
  exact Ev.bind (f := fun k t => _) this (ev_of fun _ => rfl)
end Go.Proofs.YtjggbalhpflbbaaGreat.Pzs
end
section
namespace Go.Proofs.YtjggbalhpflbbaaGreat.St
open Go.RowKit Go.Proofs.YtjggbalhpflbbaaGreatW.PrintWords Go.Proofs.YtjggbalhpflbbaaGreatW.PrintMore Go.Proofs.YtjggbalhpflbbaaGreat.PW Go.Proofs.YtjggbalhpflbbaaGreat.Pb Go.Proofs.YtjggbalhpflbbaaGreat.Pc Go.Proofs.YtjggbalhpflbbaaGreat.Pm Go.Proofs.YtjggbalhpflbbaaGreat.Pw Go.Proofs.YtjggbalhpflbbaaGreat.Px Go.Proofs.YtjggbalhpflbbaaGreat.Pt Go.Proofs.YtjggbalhpflbbaaGreat.Pv Go.Proofs.YtjggbalhpflbbaaGreat.Pz Go.Proofs.YtjggbalhpflbbaaGreat.Pzs Go.Proofs.YtjggbalhpflbbaaGreat.Ss Dg
set_option linter.unusedVariables false
set_option linter.unusedSimpArgs false
theorem fdiv_neg (n m : Nat) (h : n ≠ 0) : -((n : Nat) : Int) / 2 ^ m = if n % 2 ^ m = 0 then -((n / 2 ^ m : Nat) : Int) else -((n / 2 ^ m : Nat) : Int) - 1 := by
  have hp := Nat.two_pow_pos m
  have e : ((2 : Int) ^ m) = ((2 ^ m : Nat) : Int) := by simp
  rw [e]
  generalize 2 ^ m = P at *
  have h1 := Nat.div_add_mod n P
  have h2 := Nat.mod_lt n hp
  split
  · rename_i h3
    rw [h3, Nat.add_zero] at h1
    have : (-((n : Nat) : Int)) = (P : Int) * (-((n / P : Nat) : Int)) := by rw [Int.mul_neg, ← Int.natCast_mul, h1]
    rw [this, Int.mul_ediv_cancel_left _ (by omega)]
  · rename_i h3
    have : (-((n : Nat) : Int)) = (((P - n % P : Nat)) : Int) + (P : Int) * (-((n / P : Nat) : Int) - 1) := by
      rw [Int.mul_sub, Int.mul_neg, ← Int.natCast_mul]
      omega
    rw [this, Int.add_mul_ediv_left _ _ (by omega), Int.ediv_eq_zero_of_lt (by omega) (by omega), Int.zero_add]
end Go.Proofs.YtjggbalhpflbbaaGreat.St
end
section
namespace Go.Proofs.YtjggbalhpflbbaaGreat.Qa
open Go.RowKit Go.Proofs.YtjggbalhpflbbaaGreatW.PrintWords Go.Proofs.YtjggbalhpflbbaaGreat.PW Go.Proofs.YtjggbalhpflbbaaGreat.Pb Go.Proofs.YtjggbalhpflbbaaGreat.Pc Go.Proofs.YtjggbalhpflbbaaGreat.Pm Go.Proofs.YtjggbalhpflbbaaGreat.Pw Go.Proofs.YtjggbalhpflbbaaGreat.Px Go.Proofs.YtjggbalhpflbbaaGreat.Pt Go.Proofs.YtjggbalhpflbbaaGreat.Pz Go.Proofs.YtjggbalhpflbbaaGreat.Ss Go.Proofs.YtjggbalhpflbbaaGreat.St Dg
set_option linter.unusedVariables false
set_option linter.unusedSimpArgs false
def isD (s : Int) (l : List Int) (e : Int) : Bool := isW s l && (if s = 0 then e == 0 else decide (l.getD 0 0 % 2 = 1) && (decide (-3000 ≤ e) && decide (e ≤ 3000)))
theorem isD_W {s : Int} {l : List Int} {e : Int} (h : isD s l e = true) : isW s l = true := by
  unfold isD at h
  rw [Bool.and_eq_true] at h
  exact h.1
theorem isD_e {s : Int} {l : List Int} {e : Int} (h : isD s l e = true) : -3000 ≤ e ∧ e ≤ 3000 := by
  unfold isD at h
  rw [Bool.and_eq_true] at h
  have h2 := h.2
  by_cases hs : s = 0
  · rw [if_pos hs, beq_iff_eq] at h2
    omega
  · rw [if_neg hs] at h2
    simp only [Bool.and_eq_true, decide_eq_true_eq] at h2
    omega
theorem isW_pos {s : Int} {l : List Int} (h : isW s l = true) (hs : s ≠ 0) : 0 < l.length := by
  obtain ⟨_, _, _, h4⟩ := isW_spec h
  rcases h4 with ⟨_, h⟩ | ⟨h, _⟩
  · exact absurd h hs
  · exact List.length_pos_iff.2 h
theorem in_true {a b c : Int} (h1 : b ≤ a) (h2 : a ≤ c) : spec_l01In.f a b c = some true := by
  unfold spec_l01In.f
  rw [if_pos h1]
  congr 1
  exact decide_eq_true h2
theorem in_false {a b c : Int} (h : a < b ∨ c < a) : spec_l01In.f a b c = some false := by
  unfold spec_l01In.f
  by_cases h1 : a < b
  · rw [if_neg (by omega)]
  · rw [if_pos (by omega)]
    congr 1
    exact decide_eq_false (by omega)
theorem sdIs (s : Int) (l : List Int) (e : Int) (hl : l.length ≤ 9223372036854775807) : Ev (fun k => spec_l03Is.f k s l e) (isD s l e) := by
  unfold spec_l03Is.f isD
  have h1 := l02Is s l hl
  cases hw : isW s l with
  | false =>
    rw [hw] at h1
    rw [Bool.false_and]
    refine Ev.bind (f := fun k t => _) h1 (ifn (by simp) (Ev.step (f := fun _ => some false) (fun k => ?_) (ev_of fun _ => rfl)))
    simp only [spec_l03Is.j0]
    rw [if_pos trivial]
  | true =>
    rw [hw] at h1
    rw [Bool.true_and]
    refine Ev.bind (f := fun k t => _) h1 (ifp rfl ?_)
    by_cases he : -3000 ≤ e ∧ e ≤ 3000
    · simp only [in_true he.1 he.2, Option.bind_some, Bool.not_true]
      refine Ev.step (f := fun _ => some (if s = 0 then e == 0 else decide (l.getD 0 0 % 2 = 1) && (decide (-3000 ≤ e) && decide (e ≤ 3000)))) (fun k => ?_) (ev_of fun _ => rfl)
      simp only [spec_l03Is.j0]
      rw [if_neg (by simp)]
      by_cases hs : s = 0
      · rw [if_pos hs, if_pos hs]
      · have hp := isW_pos hw hs
        have hd := (isW_spec hw).1.all0 (by decide) 0
        have e0 : rd l 0 = l.getD 0 0 := rdN l 0
        rw [if_neg hs, if_neg hs, if_pos (by omega), e0, Int.tmod_eq_emod_of_nonneg (by omega), decide_eq_true he.1, decide_eq_true he.2, Bool.and_true, Bool.and_true]
        rfl
    · have hf : spec_l01In.f e (-3000) 3000 = some false := in_false (by omega)
      simp only [hf, Option.bind_some, Bool.not_false]
      refine Ev.step (f := fun _ => some false) (fun k => ?_) (ev_of fun _ => ?_)
      · simp only [spec_l03Is.j0]
        rw [if_pos trivial]
      · by_cases hs : s = 0
        · rw [if_pos hs]
          have : (e == 0) = false := beq_eq_false_iff_ne.2 (by omega)
          rw [this]
        · rw [if_neg hs]
          by_cases h2 : -3000 ≤ e
          · rw [decide_eq_false (show ¬ e ≤ 3000 by omega), Bool.and_false, Bool.and_false]
          · rw [decide_eq_false h2, Bool.false_and, Bool.and_false]
theorem idIs (s : Int) (l : List Int) (e : Int) (hl : l.length ≤ 9223372036854775807) : Ev (fun k => impl_IsDyadic.f k s l e) (isD s l e) := by
  unfold impl_IsDyadic.f isD
  have h1 := iIs s l hl
  cases hw : isW s l with
  | false =>
    rw [hw] at h1
    rw [Bool.false_and]
    exact Ev.bind (f := fun k t => _) h1 (ifn (by simp) (ev_of fun _ => rfl))
  | true =>
    rw [hw] at h1
    rw [Bool.true_and]
    refine Ev.bind (f := fun k t => _) h1 (ifp rfl ?_)
    by_cases hs : s = 0
    · rw [if_pos hs]
      exact ev_of fun _ => by rw [if_pos hs]
    · have hp := isW_pos hw hs
      have hd := (isW_spec hw).1.all0 (by decide) 0
      have e0 : rd l 0 = l.getD 0 0 := rdN l 0
      rw [if_neg hs, if_neg hs]
      refine ifp (by omega) ?_
      rw [e0, Int.tmod_eq_emod_of_nonneg (by omega)]
      by_cases ho : l.getD 0 0 % 2 = 1
      · rw [decide_eq_true ho, Bool.true_and]
        refine ifp ho ?_
        by_cases h2 : -3000 ≤ e
        · rw [decide_eq_true h2, Bool.true_and]
          exact ifp h2 (ev_of fun _ => rfl)
        · rw [decide_eq_false h2, Bool.false_and]
          exact ifn h2 (ev_of fun _ => rfl)
      · rw [decide_eq_false ho, Bool.false_and]
        exact ifn ho (ev_of fun _ => rfl)
def dy (z e : Int) : Int × List Int × Int := if z = 0 then (0, [], 0) else (sgn z, L (z.natAbs / 2 ^ tz z.natAbs), e + (tz z.natAbs : Nat))
def fitD (z e : Int) : Int × List Int × Int × Int :=
  if z = 0 then (0, [], 0, 0) else if bl (z.natAbs / 2 ^ tz z.natAbs) ≤ 2400 ∧ -3000 ≤ e + (tz z.natAbs : Nat) ∧ e + (tz z.natAbs : Nat) ≤ 3000 then (sgn z, L (z.natAbs / 2 ^ tz z.natAbs), e + (tz z.natAbs : Nat), 0) else (0, [], 0, 3)
theorem smakeD (z e : Int) (hz : bl z.natAbs ≤ 1073741824) (h1 : -1099511627776 ≤ e) (h2 : e ≤ 1099511627776) : Ev (fun k => spec_l03Make.f k (sgn z) (L z.natAbs) e) (dy z e) := by
  unfold spec_l03Make.f dy
  by_cases h0 : z = 0
  · rw [if_pos h0]
    exact ifp (sgn_zero.2 h0) (ev_of fun _ => rfl)
  · rw [if_neg h0]
    have hn : z.natAbs ≠ 0 := by omega
    have ht := tz_lt hn
    have ho := tz_odd hn
    refine ifn (fun h => h0 (sgn_zero.1 h)) ?_
    have hc := scut (sgn z) z.natAbs (tz z.natAbs) hz (by omega)
    unfold smk at hc
    rw [if_neg (by intro h; rw [h] at ho; simp at ho)] at hc
    refine Ev.bind (f := fun k t => _) (stwos (sgn z) z.natAbs hz hn) (Ev.bind (f := fun k t => _) hc (ev_of fun _ => ?_))
    rw [wrapZ _ (by omega) (by omega)]
theorem isD_dy (z e : Int) : isD (dy z e).1 (dy z e).2.1 (dy z e).2.2 = decide (z = 0 ∨ bl (z.natAbs / 2 ^ tz z.natAbs) ≤ 2400 ∧ -3000 ≤ e + (tz z.natAbs : Nat) ∧ e + (tz z.natAbs : Nat) ≤ 3000) := by
  unfold dy
  by_cases h0 : z = 0
  · rw [if_pos h0, decide_eq_true (.inl h0)]
    rfl
  · rw [if_neg h0]
    have hn : z.natAbs ≠ 0 := by omega
    have ho := tz_odd hn
    generalize hm : z.natAbs / 2 ^ tz z.natAbs = m at *
    have hs : sgn (if z < 0 then -(m : Int) else (m : Int)) = sgn z := by
      unfold sgn
      by_cases hz : z < 0
      · rw [if_pos hz, if_pos hz, if_pos (by omega)]
      · rw [if_neg hz, if_neg hz, if_neg (by omega), if_neg (by omega), if_neg h0]
    have hb := isW_of (if z < 0 then -(m : Int) else (m : Int))
    have ea : (if z < 0 then -(m : Int) else (m : Int)).natAbs = m := by split <;> omega
    rw [hs, ea] at hb
    show isD (sgn z) (L m) (e + (tz z.natAbs : Nat)) = _
    unfold isD
    have hl : (L m).getD 0 0 = ((m % 16777216 : Nat) : Int) := by rw [L_getD]; simp
    rw [hb, if_neg (fun h => h0 (sgn_zero.1 h)), hl, decide_eq_true (show ((m % 16777216 : Nat) : Int) % 2 = 1 by omega), Bool.true_and, Bool.eq_iff_iff]
    simp only [Bool.and_eq_true, decide_eq_true_eq]
    omega
theorem sfitD (z e : Int) (hz : bl z.natAbs ≤ 1073741824) : Ev (fun k => spec_l03Fit.f k (dy z e).1 (dy z e).2.1 (dy z e).2.2) (fitD z e) := by
  unfold spec_l03Fit.f
  have hlen : (dy z e).2.1.length ≤ 9223372036854775807 := by
    unfold dy
    split
    · exact Nat.zero_le _
    · have := L_len (z.natAbs / 2 ^ tz z.natAbs)
      have := bl_mono (Nat.div_le_self z.natAbs (2 ^ tz z.natAbs))
      show (L (z.natAbs / 2 ^ tz z.natAbs)).length ≤ _
      omega
  have h := sdIs (dy z e).1 (dy z e).2.1 (dy z e).2.2 hlen
  rw [isD_dy] at h
  by_cases hc : z = 0 ∨ bl (z.natAbs / 2 ^ tz z.natAbs) ≤ 2400 ∧ -3000 ≤ e + (tz z.natAbs : Nat) ∧ e + (tz z.natAbs : Nat) ≤ 3000
  · rw [decide_eq_true hc] at h
    refine Ev.bind (f := fun k t => _) h (ifp rfl (ev_of fun _ => ?_))
    unfold dy fitD
    by_cases h0 : z = 0
    · rw [if_pos h0, if_pos h0]
    · rw [if_neg h0, if_neg h0, if_pos (by omega)]
  · rw [decide_eq_false hc] at h
    refine Ev.bind (f := fun k t => _) h (ifn (by simp) (ev_of fun _ => ?_))
    unfold fitD
    rw [if_neg (by omega), if_neg (by omega)]
theorem fitD_len (z e : Int) : (fitD z e).2.1.length ≤ 1048576 := by
  unfold fitD
  by_cases h0 : z = 0
  · rw [if_pos h0]; exact Nat.zero_le _
  · rw [if_neg h0]
    split
    · rename_i h
      have := (L_len_iff (z.natAbs / 2 ^ tz z.natAbs) 100).2 (by omega)
      show (L (z.natAbs / 2 ^ tz z.natAbs)).length ≤ _
      omega
    · exact Nat.zero_le _
theorem szD_le (s : Int) (l : List Int) (e n : Int) (h : (l.length : Int) ≤ n) (hn : n ≤ 1048576) : laws_szDyadic.f s l e n = some (n - l.length) := by
  unfold laws_szDyadic.f
  rw [sz_le s l n h hn, Option.bind_some, if_neg (by omega)]
theorem szD_gt (s : Int) (l : List Int) (e n : Int) (hm : l.length ≤ 9223372036854775807) (hn : n ≤ 1048576) (h : n < (l.length : Int)) (h0 : 0 ≤ n) : laws_szDyadic.f s l e n = some (-1) := by
  unfold laws_szDyadic.f
  rw [sz_gt s l n hm hn h h0]
  rfl
theorem toDyadic (s : Int) (l : List Int) (e : Int) (hl : l.length ≤ 1048576) : Ev (fun k => laws_toDyadic.f k s l e) (s, l, e) := by
  unfold laws_toDyadic.f
  exact Ev.bind (f := fun k t => _) (toWhole s l hl) (ev_of fun _ => rfl)
theorem eqDyadic_self (s : Int) (l : List Int) (e : Int) (hl : l.length ≤ 9223372036854775807) : Ev (fun k => laws_eqDyadic.f k s l e s l e) true := by
  unfold laws_eqDyadic.f
  exact Ev.bind (f := fun k t => _) (eqWhole_self s l hl) (ifp rfl (ifp rfl (ev_of fun _ => rfl)))
theorem sheldD (s : Int) (n : Nat) (e : Int) (hn : n ≤ 1099511627776) : Ev (fun k => laws_heldDyadic.f k s (mks 1 n) e 1) (1 + (n : Int)) := by
  unfold laws_heldDyadic.f
  exact Ev.bind (f := fun k t => _) (sheld s n hn) (ifn (by omega) (ev_of fun _ => rfl))
end Go.Proofs.YtjggbalhpflbbaaGreat.Qa
end
section
namespace Go.Proofs.YtjggbalhpflbbaaGreat.Sm
end Go.Proofs.YtjggbalhpflbbaaGreat.Sm
end
section
namespace Go.Proofs.YtjggbalhpflbbaaGreat.Qb
open Go.RowKit Go.Proofs.YtjggbalhpflbbaaGreatW.PrintWords Go.Proofs.YtjggbalhpflbbaaGreat.PW Go.Proofs.YtjggbalhpflbbaaGreat.Pb Go.Proofs.YtjggbalhpflbbaaGreat.Pc Go.Proofs.YtjggbalhpflbbaaGreat.Pm Go.Proofs.YtjggbalhpflbbaaGreat.Pw Go.Proofs.YtjggbalhpflbbaaGreat.Px Go.Proofs.YtjggbalhpflbbaaGreat.Pt Go.Proofs.YtjggbalhpflbbaaGreat.Pz Go.Proofs.YtjggbalhpflbbaaGreat.Pzs Go.Proofs.YtjggbalhpflbbaaGreat.Ss Go.Proofs.YtjggbalhpflbbaaGreat.St Go.Proofs.YtjggbalhpflbbaaGreat.Sm Go.Proofs.YtjggbalhpflbbaaGreat.Qa Dg
set_option linter.unusedVariables false
set_option linter.unusedSimpArgs false
theorem tz_mul {n : Nat} (h : n ≠ 0) (m : Nat) : tz (n * 2 ^ m) = tz n + m := by
  induction m with
  | zero => simp
  | succ m ih =>
    have hp := Nat.two_pow_pos m
    have h1 : n * 2 ^ m ≠ 0 := Nat.mul_ne_zero h (by omega)
    rw [Nat.pow_succ, ← Nat.mul_assoc, tz_half (by omega) (by omega), Nat.mul_div_cancel _ (by decide), ih]
    rfl
theorem dy_shift (z x : Int) (m : Nat) : dy (z * 2 ^ m) x = dy z (x + m) := by
  unfold dy
  have hp : (0 : Int) < 2 ^ m := Int.pow_pos (by decide)
  by_cases h0 : z = 0
  · subst h0; simp
  · have h1 : z * 2 ^ m ≠ 0 := Int.mul_ne_zero h0 (by omega)
    have ha : (z * 2 ^ m).natAbs = z.natAbs * 2 ^ m := by rw [Int.natAbs_mul, show ((2 : Int) ^ m).natAbs = 2 ^ m by rw [Int.natAbs_pow]; rfl]
    rw [if_neg h1, if_neg h0, ha, tz_mul (by omega), sgn_pow, Nat.pow_add, Nat.mul_comm z.natAbs, Nat.mul_comm (2 ^ tz z.natAbs), Nat.mul_div_mul_left _ _ (Nat.two_pow_pos m)]
    congr 2
    all_goals omega
theorem fitD_dy (z e : Int) : fitD z e = if isD (dy z e).1 (dy z e).2.1 (dy z e).2.2 = true then ((dy z e).1, (dy z e).2.1, (dy z e).2.2, 0) else (0, [], 0, 3) := by
  rw [isD_dy]
  unfold fitD dy
  by_cases h0 : z = 0
  · rw [if_pos h0, if_pos h0, if_pos (by simp [h0])]
  · rw [if_neg h0, if_neg h0]
    by_cases h : bl (z.natAbs / 2 ^ tz z.natAbs) ≤ 2400 ∧ -3000 ≤ e + (tz z.natAbs : Nat) ∧ e + (tz z.natAbs : Nat) ≤ 3000
    · rw [if_pos h, if_pos (by rw [decide_eq_true]; exact .inr h)]
    · rw [if_neg h, if_neg (by rw [decide_eq_true_eq]; exact fun k => h (k.resolve_left h0))]
theorem fitD_shift (z x : Int) (m : Nat) : fitD (z * 2 ^ m) x = fitD z (x + m) := by rw [fitD_dy, fitD_dy, dy_shift]
end Go.Proofs.YtjggbalhpflbbaaGreat.Qb
end
section
namespace Go.Proofs.YtjggbalhpflbbaaGreat.Ps
open Go.RowKit Go.Proofs.YtjggbalhpflbbaaGreatW.PrintWords Go.Proofs.YtjggbalhpflbbaaGreat.PW Go.Proofs.YtjggbalhpflbbaaGreat.Pb Go.Proofs.YtjggbalhpflbbaaGreat.Pc Go.Proofs.YtjggbalhpflbbaaGreat.Pm Go.Proofs.YtjggbalhpflbbaaGreat.Pw Dg
set_option linter.unusedVariables false
set_option linter.unusedSimpArgs false
theorem slength_loop : ∀ (m : Nat) (d : Nat), bl d = m → d < 16777216 → ∀ n : Nat, n + m ≤ 1099511627776 → Ev (fun k => spec_l02Length.l0 k (n : Int) (d : Int)) ((n + bl d : Nat) : Int) := by
  intro m
  induction m with
  | zero =>
    intro d hd _ n hn
    have := bl_eq_zero.1 hd
    subst this
    refine Ev.step (f := fun _ => some (n : Int)) (fun k => ?_) (ev_of fun _ => by rw [bl_zero]; rfl)
    simp only [spec_l02Length.l0]
    rw [if_neg (by omega)]
  | succ m ih =>
    intro d hd hlt n hn
    have h0 : d ≠ 0 := by intro h; subst h; rw [bl_zero] at hd; omega
    have hh := bl_half h0
    have e : Int.tdiv (d : Int) 2 = ((d / 2 : Nat) : Int) := by rw [Int.tdiv_eq_ediv_of_nonneg (by omega)]; rfl
    refine Ev.step (f := fun k => spec_l02Length.l0 k ((n + 1 : Nat) : Int) ((d / 2 : Nat) : Int)) (fun k => ?_) ?_
    · simp only [spec_l02Length.l0]
      rw [if_pos (by omega), e, wrapZ _ (by omega) (by omega), wrapZ _ (by omega) (by omega)]
      rfl
    · have := ih (d / 2) (by omega) (by omega) (n + 1) (by omega)
      rw [show n + bl d = n + 1 + bl (d / 2) by omega]
      exact this
theorem slength (s : Int) (n : Nat) (hb : bl n ≤ 1073741824) : Ev (fun k => spec_l02Length.f k s (L n)) ((bl n : Nat) : Int) := by
  unfold spec_l02Length.f
  have hl := L_len n
  by_cases h : n = 0
  · subst h
    exact ifp (by rw [L_zero]; rfl) (ev_of fun _ => rfl)
  · have hp := L_pos h
    obtain ⟨d, hd, h1, h2, h3⟩ := L_last h
    have e1 : wrap64 (((L n).length : Int) - 1) = (((L n).length - 1 : Nat) : Int) := by rw [wrapZ _ (by omega) (by omega)]; omega
    refine ifn (by omega) ?_
    rw [e1]
    refine ifp (by omega) (ifp (by omega) ?_)
    rw [rdN, hd, wrapZ _ (by omega) (by omega), h3]
    have := slength_loop (bl d) d rfl h2 (24 * ((L n).length - 1)) (by omega)
    rw [show ((24 * ((L n).length - 1) : Nat) : Int) = (((L n).length - 1 : Nat) : Int) * 24 by omega] at this
    exact this
end Go.Proofs.YtjggbalhpflbbaaGreat.Ps
end
section
namespace Go.Proofs.YtjggbalhpflbbaaGreat.PW
open Go.RowKit Go.Proofs.YtjggbalhpflbbaaGreatW.PrintWords Go.Proofs.YtjggbalhpflbbaaGreatW.PrintLast Go.Proofs.YtjggbalhpflbbaaGreatW.PrintMore
attribute [local go_sem] max2_int min2_int max_two min_two max_three min_three max_four min_four   -- for this text's walks alone
set_option linter.unusedVariables false
set_option linter.unusedSimpArgs false
def impl_isMode.f (a0 : Int) : Option (Bool) := if a0 ≥ 0 then (some (decide (a0 ≤ 4))) else (some false)
set_option maxHeartbeats 8000000 in
set_option maxRecDepth 100000 in
theorem impl_isMode.calls (a0 : Int) (r : Bool) (w : World) (h : impl_isMode.f a0 = some r) :
  Calls Tryz.prog 41 #[.int .i64 a0] w fun e w' => e = .returned (.bool r) ∧ Drawn0 w w' := by
 have H : (if a0 ≥ 0 then (some (decide (a0 ≤ 4))) else (some false)) = some r := h
 clear h
 by_cases c2 : a0 ≥ 0
 ·rw [if_pos c2] at H
  have c2b0 : decide (0 ≤ a0) = true := decide_eq_true c2
  clear c2
  obtain rfl := Option.some.inj H
  go_enter Tryz.func41, Tryz.ntmps41
  go_wp2
  go_ret
  exact ⟨by first | rfl | (simp; done) | (simp [*]; done), by repeat (first | exact Drawn0.refl _ | apply Drawn0.step)⟩
 ·rw [if_neg c2] at H
  have c2b0 : decide (0 ≤ a0) = false := decide_eq_false c2
  clear c2
  obtain rfl := Option.some.inj H
  go_enter Tryz.func41, Tryz.ntmps41
  go_wp2
  go_ret
  exact ⟨by first | rfl | (simp; done) | (simp [*]; done), by repeat (first | exact Drawn0.refl _ | apply Drawn0.step)⟩
end Go.Proofs.YtjggbalhpflbbaaGreat.PW
end
section
namespace Go.Proofs.YtjggbalhpflbbaaGreat.PW
open Go.RowKit Go.Proofs.YtjggbalhpflbbaaGreatW.PrintWords Go.Proofs.YtjggbalhpflbbaaGreatW.PrintLast Go.Proofs.YtjggbalhpflbbaaGreatW.PrintMore
attribute [local go_sem] max2_int min2_int max_two min_two max_three min_three max_four min_four   -- for this text's walks alone
set_option linter.unusedVariables false
set_option linter.unusedSimpArgs false
def spec_l03Mode.f (a0 : Int) : Option (Bool) := (spec_l01In.f a0 0 4).bind fun t113 => (some t113)
set_option maxHeartbeats 8000000 in
set_option maxRecDepth 100000 in
theorem spec_l03Mode.calls (a0 : Int) (r : Bool) (w : World) (h : spec_l03Mode.f a0 = some r) :
  Calls Tryz.prog 28 #[.int .i64 a0] w fun e w' => e = .returned (.bool r) ∧ Drawn0 w w' := by
 have H : ((spec_l01In.f a0 0 4).bind fun t113 => (some t113)) = some r := h
 clear h
 replace H := Option.bind_eq_some_iff.mp H
 obtain ⟨t113, A20, H⟩ := H
 replace H : (some t113) = some r := H
 have A2 := Azq.mk A20
 clear A20
 obtain rfl := Option.some.inj H
 go_enter Tryz.func28, Tryz.ntmps28
 go_wp2_with (first | ((with_reducible refine gate_callee (f := 54) rfl ?_); refine goesL_ (some 4) rfl rfl Tryz.func54 (by kernel_rfl) rfl #[.int .i64 a0, .int .i64 0, .int .i64 4] rfl (by (try simp only [List.map_toArray, List.map_cons, List.map_nil]); first | done | rfl | (simp only [List.length_drop, List.length_take]; rfl)) ?_; (with_reducible refine (spec_l01In.calls a0 0 4 t113 _ A2.out).mono ?_); rintro e w' ⟨rfl, ⟨nd, rfl⟩⟩; refine ⟨_, rfl, ?_⟩))
 go_ret
 exact ⟨by first | rfl | (simp; done) | (simp [*]; done), by repeat (first | exact Drawn0.refl _ | apply Drawn0.step)⟩
end Go.Proofs.YtjggbalhpflbbaaGreat.PW
end
section
namespace Go.Proofs.YtjggbalhpflbbaaGreat.PW
open Go.RowKit Go.Proofs.YtjggbalhpflbbaaGreatW.PrintWords Go.Proofs.YtjggbalhpflbbaaGreatW.PrintLast Go.Proofs.YtjggbalhpflbbaaGreatW.PrintMore
attribute [local go_sem] max2_int min2_int max_two min_two max_three min_three max_four min_four   -- for this text's walks alone
set_option linter.unusedVariables false
set_option linter.unusedSimpArgs false
def spec_l03Code.f (k : Nat) (a0_0 : Int) (l0_1 : List Int) (a0_2 : Int) (a1 : Int) : Option (Int) := (spec_l03Is.f k a0_0 l0_1 a0_2).bind fun t115 => (if t115 = true then ((spec_l03Mode.f a1).bind fun t116 => (if t116 = true then (some 0) else (some 2))) else (some 1))
theorem spec_l03Code.mono : ∀ a0 a1 a2 a3 k, LeO (spec_l03Code.f k a0 a1 a2 a3) (spec_l03Code.f (k + 1) a0 a1 a2 a3) := by
 intro a0 a1 a2 a3 k
 unfold spec_l03Code.f
 repeat' first
   | (with_reducible exact spec_l03Is.mono _ _ _ _)
   | (with_reducible exact LeO.refl _)
   | (with_reducible exact LeO.none _)
   | (with_reducible refine LeO.ite ?_ ?_)
   | (with_reducible refine LeO.bind ?_ (fun _ => ?_))
   | exact spec_l03Is.mono _ _ _ _
   | exact LeO.none _
   | refine LeO.ite ?_ ?_
   | refine LeO.bind ?_ (fun _ => ?_)
set_option maxHeartbeats 8000000 in
set_option maxRecDepth 100000 in
theorem spec_l03Code.calls (k : Nat) (a0_0 : Int) (A0_1 : Option Addr) (c0_1 : Nat) (l0_1 : List Int) (a0_2 : Int) (a1 : Int) (r : Int) (w : World) (hr0_1 : Kd.C (Kd.int .i64) w A0_1 l0_1.length l0_1) (hc0_1 : l0_1.length ≤ c0_1) (h : spec_l03Code.f k a0_0 l0_1 a0_2 a1 = some r) :
  Calls Tryz.prog 12 #[.agg #[.int .i64 a0_0, .slice A0_1 l0_1.length c0_1, .int .i64 a0_2], .int .i64 a1] w fun e w' => e = .returned (.int .i64 r) ∧ Below w.heap.size w w' := by
 have hu30 := Tryz.underlying30
 have HR0_1 := Azq.mk hr0_1
 have HC0_1 := Azq.mk hc0_1
 clear hr0_1 hc0_1
 have HB := Azq.mk (Below.refl w.heap.size w)
 have H : ((spec_l03Is.f k a0_0 l0_1 a0_2).bind fun t115 => (if t115 = true then ((spec_l03Mode.f a1).bind fun t116 => (if t116 = true then (some 0) else (some 2))) else (some 1))) = some r := h
 clear h
 replace H := Option.bind_eq_some_iff.mp H
 obtain ⟨t115, A30, H⟩ := H
 replace H : (if t115 = true then ((spec_l03Mode.f a1).bind fun t116 => (if t116 = true then (some 0) else (some 2))) else (some 1)) = some r := H
 have A3 := Azq.mk A30
 clear A30
 by_cases c4 : t115 = true
 ·subst c4
  have H1 : ((spec_l03Mode.f a1).bind fun t116 => (if t116 = true then (some 0) else (some 2))) = some r := by rw [if_pos rfl] at H; exact H
  clear H
  have H := H1
  clear H1
  replace H := Option.bind_eq_some_iff.mp H
  obtain ⟨t116, A50, H⟩ := H
  replace H : (if t116 = true then (some 0) else (some 2)) = some r := H
  have A5 := Azq.mk A50
  clear A50
  by_cases c6 : t116 = true
  ·subst c6
   have H1 : (some 0) = some r := by rw [if_pos rfl] at H; exact H
   clear H
   have H := H1
   clear H1
   obtain rfl := Option.some.inj H
   go_enter Tryz.func12, Tryz.ntmps12
   go_wp2_with (first | ((with_reducible refine gate_dst (N := 2) rfl ?_); refine box_event ?hg (N := 2) ?hd (cs := #[.int .i64 a0_0, .slice A0_1 l0_1.length c0_1, .int .i64 a0_2]) (t := 30) ?hr ?_; (case hd => rfl); (case hg => rfl); (case hr => first | (go_simp; done) | (go_simp; rfl)); intro gb114 hg w7 hbox hb; have n0_ := Azq.mk (wtq (by repeat (first | (with_reducible first | exact HB.out | apply waq | apply wdq | apply wrq) | exact HB.out)) hb); have n1_ := Azq.mk (hbox); have n2_ := Azq.mk ((by rw [hg]; exact (wzq (by repeat (first | (with_reducible first | exact HB.out | apply waq | apply wdq | apply wrq) | exact HB.out))) : w.heap.size ≤ gb114)); have n3_ := n2_; clear HB; have HB := n0_; have BK114 := n1_; have GW114 := n2_; have GE114 := n3_; clear n0_ n1_ n2_ n3_; clear hb hbox hg; have hcz8_0 : w7.cell? ⟨gb114, 0, none⟩ = some (.int .i64 a0_0) := (kcq BK114.out 0).trans rfl; have hcz8_1 : w7.cell? ⟨gb114, 1, none⟩ = some (.slice A0_1 l0_1.length c0_1) := (kcq BK114.out 1).trans rfl; have hcz8_2 : w7.cell? ⟨gb114, 2, none⟩ = some (.int .i64 a0_2) := (kcq BK114.out 2).trans rfl; have hfz8_0 := kfq BK114.out 0; have hfz8_1 := kfq BK114.out 1; have hfz8_2 := kfq BK114.out 2) | ((with_reducible refine gate_callee (f := 27) rfl ?_); refine goesL_ (some 6) rfl rfl Tryz.func27 (by kernel_rfl) rfl #[.agg #[.int .i64 a0_0, .slice A0_1 l0_1.length c0_1, .int .i64 a0_2]] rfl (by (try simp only [List.map_toArray, List.map_cons, List.map_nil]); first | done | rfl | (simp only [List.length_drop, List.length_take]; rfl)) ?_; (with_reducible refine (spec_l03Is.calls k a0_0 _ _ l0_1 a0_2 true _ ?side1 ?side2 A3.out).mono ?_); (case side1 => repeat (first | exact (Kd.C_below HR0_1.out HB.out) | (with_reducible refine Kd.C_alloc ?_ _) | (with_reducible refine Kd.C_drewN ?_ _) | (with_reducible refine Kd.C_drew ?_))); (case side2 => exact HC0_1.out); rintro e w9 ⟨rfl, hb⟩; refine ⟨_, rfl, ?_⟩; have n0_ := Azq.mk (kbq (g := gb114) (o := .cells #[.int .i64 a0_0, .slice A0_1 l0_1.length c0_1, .int .i64 a0_2] 30 (0, 0)) (by (with_reducible repeat (first | refine kdq ?_ _ | refine krq ?_ | refine kaq ?_ _)); exact BK114.out) hb); have n1_ := Azq.mk (wtq (by repeat (first | (with_reducible first | exact HB.out | apply waq | apply wdq | apply wrq | refine wsq ?_ GE114.out) | exact HB.out)) hb); clear BK114; clear HB; have BK114 := n0_; have HB := n1_; clear n0_ n1_; (try clear hb); (try clear hb2); (try clear hk); (try clear hi)) | ((with_reducible refine gate_callee (f := 28) rfl ?_); refine goesL_ (some 9) rfl rfl Tryz.func28 (by kernel_rfl) rfl #[.int .i64 a1] rfl (by (try simp only [List.map_toArray, List.map_cons, List.map_nil]); first | done | rfl | (simp only [List.length_drop, List.length_take]; rfl)) ?_; (with_reducible refine (spec_l03Mode.calls a1 true _ A5.out).mono ?_); rintro e w' ⟨rfl, ⟨nd, rfl⟩⟩; refine ⟨_, rfl, ?_⟩))
   go_ret
   exact ⟨by first | rfl | (simp [errW_none, errW_some] <;> rfl) | (simp [*, errW_none, errW_some] <;> rfl), by repeat (first | (with_reducible first | exact HB.out | apply waq | apply wdq | apply wrq | refine wsq ?_ GE114.out) | exact HB.out)⟩
  ·replace c6 := Bool.eq_false_iff.mpr c6
   subst c6
   have H1 : (some 2) = some r := by rw [if_neg (show ¬ (false = true) by decide)] at H; exact H
   clear H
   have H := H1
   clear H1
   obtain rfl := Option.some.inj H
   go_enter Tryz.func12, Tryz.ntmps12
   go_wp2_with (first | ((with_reducible refine gate_dst (N := 2) rfl ?_); refine box_event ?hg (N := 2) ?hd (cs := #[.int .i64 a0_0, .slice A0_1 l0_1.length c0_1, .int .i64 a0_2]) (t := 30) ?hr ?_; (case hd => rfl); (case hg => rfl); (case hr => first | (go_simp; done) | (go_simp; rfl)); intro gb114 hg w10 hbox hb; have n0_ := Azq.mk (wtq (by repeat (first | (with_reducible first | exact HB.out | apply waq | apply wdq | apply wrq) | exact HB.out)) hb); have n1_ := Azq.mk (hbox); have n2_ := Azq.mk ((by rw [hg]; exact (wzq (by repeat (first | (with_reducible first | exact HB.out | apply waq | apply wdq | apply wrq) | exact HB.out))) : w.heap.size ≤ gb114)); have n3_ := n2_; clear HB; have HB := n0_; have BK114 := n1_; have GW114 := n2_; have GE114 := n3_; clear n0_ n1_ n2_ n3_; clear hb hbox hg; have hcz11_0 : w10.cell? ⟨gb114, 0, none⟩ = some (.int .i64 a0_0) := (kcq BK114.out 0).trans rfl; have hcz11_1 : w10.cell? ⟨gb114, 1, none⟩ = some (.slice A0_1 l0_1.length c0_1) := (kcq BK114.out 1).trans rfl; have hcz11_2 : w10.cell? ⟨gb114, 2, none⟩ = some (.int .i64 a0_2) := (kcq BK114.out 2).trans rfl; have hfz11_0 := kfq BK114.out 0; have hfz11_1 := kfq BK114.out 1; have hfz11_2 := kfq BK114.out 2) | ((with_reducible refine gate_callee (f := 27) rfl ?_); refine goesL_ (some 6) rfl rfl Tryz.func27 (by kernel_rfl) rfl #[.agg #[.int .i64 a0_0, .slice A0_1 l0_1.length c0_1, .int .i64 a0_2]] rfl (by (try simp only [List.map_toArray, List.map_cons, List.map_nil]); first | done | rfl | (simp only [List.length_drop, List.length_take]; rfl)) ?_; (with_reducible refine (spec_l03Is.calls k a0_0 _ _ l0_1 a0_2 true _ ?side1 ?side2 A3.out).mono ?_); (case side1 => repeat (first | exact (Kd.C_below HR0_1.out HB.out) | (with_reducible refine Kd.C_alloc ?_ _) | (with_reducible refine Kd.C_drewN ?_ _) | (with_reducible refine Kd.C_drew ?_))); (case side2 => exact HC0_1.out); rintro e w12 ⟨rfl, hb⟩; refine ⟨_, rfl, ?_⟩; have n0_ := Azq.mk (kbq (g := gb114) (o := .cells #[.int .i64 a0_0, .slice A0_1 l0_1.length c0_1, .int .i64 a0_2] 30 (0, 0)) (by (with_reducible repeat (first | refine kdq ?_ _ | refine krq ?_ | refine kaq ?_ _)); exact BK114.out) hb); have n1_ := Azq.mk (wtq (by repeat (first | (with_reducible first | exact HB.out | apply waq | apply wdq | apply wrq | refine wsq ?_ GE114.out) | exact HB.out)) hb); clear BK114; clear HB; have BK114 := n0_; have HB := n1_; clear n0_ n1_; (try clear hb); (try clear hb2); (try clear hk); (try clear hi)) | ((with_reducible refine gate_callee (f := 28) rfl ?_); refine goesL_ (some 9) rfl rfl Tryz.func28 (by kernel_rfl) rfl #[.int .i64 a1] rfl (by (try simp only [List.map_toArray, List.map_cons, List.map_nil]); first | done | rfl | (simp only [List.length_drop, List.length_take]; rfl)) ?_; (with_reducible refine (spec_l03Mode.calls a1 false _ A5.out).mono ?_); rintro e w' ⟨rfl, ⟨nd, rfl⟩⟩; refine ⟨_, rfl, ?_⟩))
   go_ret
   exact ⟨by first | rfl | (simp [errW_none, errW_some] <;> rfl) | (simp [*, errW_none, errW_some] <;> rfl), by repeat (first | (with_reducible first | exact HB.out | apply waq | apply wdq | apply wrq | refine wsq ?_ GE114.out) | exact HB.out)⟩
 ·replace c4 := Bool.eq_false_iff.mpr c4
  subst c4
  have H1 : (some 1) = some r := by rw [if_neg (show ¬ (false = true) by decide)] at H; exact H
  clear H
  have H := H1
  clear H1
  obtain rfl := Option.some.inj H
  go_enter Tryz.func12, Tryz.ntmps12
  go_wp2_with (first | ((with_reducible refine gate_dst (N := 2) rfl ?_); refine box_event ?hg (N := 2) ?hd (cs := #[.int .i64 a0_0, .slice A0_1 l0_1.length c0_1, .int .i64 a0_2]) (t := 30) ?hr ?_; (case hd => rfl); (case hg => rfl); (case hr => first | (go_simp; done) | (go_simp; rfl)); intro gb114 hg w13 hbox hb; have n0_ := Azq.mk (wtq (by repeat (first | (with_reducible first | exact HB.out | apply waq | apply wdq | apply wrq) | exact HB.out)) hb); have n1_ := Azq.mk (hbox); have n2_ := Azq.mk ((by rw [hg]; exact (wzq (by repeat (first | (with_reducible first | exact HB.out | apply waq | apply wdq | apply wrq) | exact HB.out))) : w.heap.size ≤ gb114)); have n3_ := n2_; clear HB; have HB := n0_; have BK114 := n1_; have GW114 := n2_; have GE114 := n3_; clear n0_ n1_ n2_ n3_; clear hb hbox hg; have hcz14_0 : w13.cell? ⟨gb114, 0, none⟩ = some (.int .i64 a0_0) := (kcq BK114.out 0).trans rfl; have hcz14_1 : w13.cell? ⟨gb114, 1, none⟩ = some (.slice A0_1 l0_1.length c0_1) := (kcq BK114.out 1).trans rfl; have hcz14_2 : w13.cell? ⟨gb114, 2, none⟩ = some (.int .i64 a0_2) := (kcq BK114.out 2).trans rfl; have hfz14_0 := kfq BK114.out 0; have hfz14_1 := kfq BK114.out 1; have hfz14_2 := kfq BK114.out 2) | ((with_reducible refine gate_callee (f := 27) rfl ?_); refine goesL_ (some 6) rfl rfl Tryz.func27 (by kernel_rfl) rfl #[.agg #[.int .i64 a0_0, .slice A0_1 l0_1.length c0_1, .int .i64 a0_2]] rfl (by (try simp only [List.map_toArray, List.map_cons, List.map_nil]); first | done | rfl | (simp only [List.length_drop, List.length_take]; rfl)) ?_; (with_reducible refine (spec_l03Is.calls k a0_0 _ _ l0_1 a0_2 false _ ?side1 ?side2 A3.out).mono ?_); (case side1 => repeat (first | exact (Kd.C_below HR0_1.out HB.out) | (with_reducible refine Kd.C_alloc ?_ _) | (with_reducible refine Kd.C_drewN ?_ _) | (with_reducible refine Kd.C_drew ?_))); (case side2 => exact HC0_1.out); rintro e w15 ⟨rfl, hb⟩; refine ⟨_, rfl, ?_⟩; have n0_ := Azq.mk (kbq (g := gb114) (o := .cells #[.int .i64 a0_0, .slice A0_1 l0_1.length c0_1, .int .i64 a0_2] 30 (0, 0)) (by (with_reducible repeat (first | refine kdq ?_ _ | refine krq ?_ | refine kaq ?_ _)); exact BK114.out) hb); have n1_ := Azq.mk (wtq (by repeat (first | (with_reducible first | exact HB.out | apply waq | apply wdq | apply wrq | refine wsq ?_ GE114.out) | exact HB.out)) hb); clear BK114; clear HB; have BK114 := n0_; have HB := n1_; clear n0_ n1_; (try clear hb); (try clear hb2); (try clear hk); (try clear hi)))
  go_ret
  exact ⟨by first | rfl | (simp [errW_none, errW_some] <;> rfl) | (simp [*, errW_none, errW_some] <;> rfl), by repeat (first | (with_reducible first | exact HB.out | apply waq | apply wdq | apply wrq | refine wsq ?_ GE114.out) | exact HB.out)⟩
end Go.Proofs.YtjggbalhpflbbaaGreat.PW
end
section
namespace Go.Proofs.YtjggbalhpflbbaaGreat.Lk
open Go.RowKit Go.Proofs.YtjggbalhpflbbaaGreatW.PrintWords Go.Proofs.YtjggbalhpflbbaaGreat.PW Go.Proofs.YtjggbalhpflbbaaGreat.Pb Go.Proofs.YtjggbalhpflbbaaGreat.Pc Go.Proofs.YtjggbalhpflbbaaGreat.Px Dg
set_option linter.unusedVariables false
set_option linter.unusedSimpArgs false
theorem mark_loop (a : Int) (ha : 0 ≤ a) (hb : a ≤ 1099511627776) (n : Nat) (hn : n ≤ 1099511627776) (d : Nat) : ∀ (i : Nat) (ys : List Int), i + d = n → ys.length = n → ys.take i = mks a i → Ev (fun k => laws_markInt64S.l0 k ys (a + (i : Int)) (i : Int)) (a + (n : Int), mks a n) := by
  induction d with
  | zero =>
    intro i ys hi hy h
    obtain rfl : i = n := by omega
    rw [List.take_of_length_le (by omega)] at h
    subst h
    refine Ev.step (f := fun _ => some (a + (i : Int), mks a i)) (fun k => ?_) (ev_of fun _ => rfl)
    simp only [laws_markInt64S.l0]
    rw [if_neg (by omega)]
  | succ d ih =>
    intro i ys hi hy h
    refine Ev.step (f := fun k => laws_markInt64S.l0 k (ys.set i (a + (i : Int))) (a + ((i + 1 : Nat) : Int)) ((i + 1 : Nat) : Int)) (fun k => ?_) (ih (i + 1) _ (by omega) (by simpa using hy) ?_)
    · simp only [laws_markInt64S.l0]
      rw [if_pos (by omega), if_pos (by omega), wrapZ _ (by omega) (by omega), wrapZ _ (by omega) (by omega), Int.toNat_natCast]
      congr 1
      omega
    · rw [List.take_succ_eq_append_getElem (by simp; omega), Dg.take_set, h, mks_succ]
      simp
theorem marks (s : Int) (l : List Int) (a : Int) (ha : 0 ≤ a) (hb : a ≤ 1099511627776) (hl : l.length ≤ 1099511627776) : Ev (fun k => laws_markWhole.f k s l a) (a + (l.length : Int), mks a l.length) := by
  unfold laws_markWhole.f laws_markInt64S.f
  have := mark_loop a ha hb l.length hl l.length 0 l (by omega) rfl rfl
  rw [show a + ((0 : Nat) : Int) = a by omega] at this
  exact Ev.bind (f := fun k t => _) this (ev_of fun _ => rfl)
theorem marksD (s : Int) (l : List Int) (e a : Int) (ha : 0 ≤ a) (hb : a ≤ 1099511627776) (hl : l.length ≤ 1099511627776) : Ev (fun k => laws_markDyadic.f k s l e a) (a + (l.length : Int), mks a l.length) := by
  unfold laws_markDyadic.f
  exact Ev.bind (f := fun k t => _) (marks s l a ha hb hl) (ev_of fun _ => rfl)
end Go.Proofs.YtjggbalhpflbbaaGreat.Lk
end
