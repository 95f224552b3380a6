/- Lemmas of the claim: PWx122, PWx39, PWx61, Pn, Po, PWx4, PWx5, PWx32, Pb, Pw, PWx90, PWx91, PWx92, PWx117, PWx118, PWx6, PWx33, Px, Pt, Py, Pz, Ss, Pv, Pzs, St, Qa, Sm, Qb, Ps, PWx34, PWx7, PWx8. -/
import Derived.Test.YtjddhnjjeomfjaaQEFh
import Derived.Test.YtjddhnjjeomfjaaQEFj
import Derived.Laws.BitsLemmas
import Derived.Test.YtjddhnjjeomfjaaQEFa
import Derived.Test.YtjddhnjjeomfjaaQEFg
import Derived.Test.YtjddhnjjeomfjaaQEFi
section
namespace Go.Proofs.Ytjddhnjjeomfjaa.PW
open Go.RowKit Go.Proofs.YtjddhnjjeomfjaaW.PrintWords Go.Proofs.YtjddhnjjeomfjaaW.PrintLast Go.Proofs.YtjddhnjjeomfjaaW.PrintMore
attribute [local go_sem] max2_int min2_int max_two min_two max_three min_three max_four min_four   -- for this text's walks alone
set_option linter.unusedVariables false
set_option linter.unusedSimpArgs false
mutual
def impl_magMul.l0 : Nat → List Int → List Int → List Int → Int → Int → Option (List Int)
  | 0, _, _, _, _, _ => none
  | k + 1, x1, x5, x17, x18, x19 => if x19 < x18 then (if 0 ≤ x19 then (if x19 < (x17.length : Int) then (impl_magMul.l1 k x1 x5 x19 (rd x17 x19) 0 x17 x18 x19 x1 (x1.length : Int) 0) else (none)) else (none)) else ((impl_magTrim.f k x5).bind fun t473 => (some t473))
def impl_magMul.l1 : Nat → List Int → List Int → Int → Int → Int → List Int → Int → Int → List Int → Int → Int → Option (List Int)
  | 0, _, _, _, _, _, _, _, _, _, _, _ => none
  | k + 1, x1, x5, x6, x7, x8, x17, x18, x19, x24, x25, x26 => if x26 < x25 then (if 0 ≤ x26 then (if x26 < (x24.length : Int) then (if 0 ≤ (wrap64 (x6 + x26)) then (if (wrap64 (x6 + x26)) < (x5.length : Int) then (impl_magMul.l1 k x1 (x5.set ((wrap64 (x6 + x26)) : Int).toNat ((IntKind.u64.wrap (x8 + (IntKind.u64.wrap ((IntKind.u64.wrap ((IntKind.u64.wrap (x7)) * (IntKind.u64.wrap (rd x24 x26)))) + (IntKind.u64.wrap (rd x5 (wrap64 (x6 + x26)))))))) % 4294967296)) x6 x7 ((IntKind.u64.wrap (x8 + (IntKind.u64.wrap ((IntKind.u64.wrap ((IntKind.u64.wrap (x7)) * (IntKind.u64.wrap (rd x24 x26)))) + (IntKind.u64.wrap (rd x5 (wrap64 (x6 + x26)))))))) / 4294967296) x17 x18 x19 x24 x25 (wrap64 (x26 + 1))) else (none)) else (none)) else (none)) else (none)) else (if 0 ≤ (wrap64 (x6 + (x1.length : Int))) then (if (wrap64 (x6 + (x1.length : Int))) < (x5.length : Int) then (impl_magMul.l0 k x1 (x5.set ((wrap64 (x6 + (x1.length : Int))) : Int).toNat ((x8) % 4294967296)) x17 x18 (wrap64 (x19 + 1))) else (none)) else (none))
end
def impl_magMul.f (k : Nat) (l0 : List Int) (l1 : List Int) : Option (List Int) := if 0 ≤ (wrap64 ((l0.length : Int) + (l1.length : Int))) then (if (wrap64 ((l0.length : Int) + (l1.length : Int)) : Int).toNat ≤ 70368744177664 then (impl_magMul.l0 k l1 (List.replicate (wrap64 ((l0.length : Int) + (l1.length : Int)) : Int).toNat 0) l0 (l0.length : Int) 0) else (none)) else (none)
theorem impl_magMul.mono_l : ∀ k, (∀ y0 y1 y2 y3 y4, LeO (impl_magMul.l0 k y0 y1 y2 y3 y4) (impl_magMul.l0 (k + 1) y0 y1 y2 y3 y4)) ∧ (∀ y0 y1 y2 y3 y4 y5 y6 y7 y8 y9 y10, LeO (impl_magMul.l1 k y0 y1 y2 y3 y4 y5 y6 y7 y8 y9 y10) (impl_magMul.l1 (k + 1) y0 y1 y2 y3 y4 y5 y6 y7 y8 y9 y10))
  | 0 => ⟨fun _ _ _ _ _ r h => by simp [impl_magMul.l0] at h, fun _ _ _ _ _ _ _ _ _ _ _ r h => by simp [impl_magMul.l1] at h⟩
  | k + 1 => by
    obtain ⟨ih0, ih1⟩ := impl_magMul.mono_l k
    refine ⟨?_, ?_⟩
    · intro y0 y1 y2 y3 y4
      unfold impl_magMul.l0
      repeat' first
      | (with_reducible exact ih0 _ _ _ _ _)
      | (with_reducible exact ih1 _ _ _ _ _ _ _ _ _ _ _)
      | (with_reducible exact impl_magTrim.mono _ _)
      | (with_reducible exact LeO.refl _)
      | (with_reducible exact LeO.none _)
      | (with_reducible refine LeO.ite ?_ ?_)
      | (with_reducible refine LeO.bind ?_ (fun _ => ?_))
      | exact ih0 _ _ _ _ _
      | exact ih1 _ _ _ _ _ _ _ _ _ _ _
      | exact impl_magTrim.mono _ _
      | exact LeO.none _
      | refine LeO.ite ?_ ?_
      | refine LeO.bind ?_ (fun _ => ?_)
    · intro y0 y1 y2 y3 y4 y5 y6 y7 y8 y9 y10
      unfold impl_magMul.l1
      repeat' first
      | (with_reducible exact ih0 _ _ _ _ _)
      | (with_reducible exact ih1 _ _ _ _ _ _ _ _ _ _ _)
      | (with_reducible exact impl_magTrim.mono _ _)
      | (with_reducible exact LeO.refl _)
      | (with_reducible exact LeO.none _)
      | (with_reducible refine LeO.ite ?_ ?_)
      | (with_reducible refine LeO.bind ?_ (fun _ => ?_))
      | exact ih0 _ _ _ _ _
      | exact ih1 _ _ _ _ _ _ _ _ _ _ _
      | exact impl_magTrim.mono _ _
      | exact LeO.none _
      | refine LeO.ite ?_ ?_
      | refine LeO.bind ?_ (fun _ => ?_)
theorem impl_magMul.mono : ∀ a0 a1 k, LeO (impl_magMul.f k a0 a1) (impl_magMul.f (k + 1) a0 a1) := by
  intro a0 a1 k
  obtain ⟨ih0, ih1⟩ := impl_magMul.mono_l k
  unfold impl_magMul.f
  repeat' first
      | (with_reducible exact ih0 _ _ _ _ _)
      | (with_reducible exact ih1 _ _ _ _ _ _ _ _ _ _ _)
      | (with_reducible exact impl_magTrim.mono _ _)
      | (with_reducible exact LeO.refl _)
      | (with_reducible exact LeO.none _)
      | (with_reducible refine LeO.ite ?_ ?_)
      | (with_reducible refine LeO.bind ?_ (fun _ => ?_))
      | exact ih0 _ _ _ _ _
      | exact ih1 _ _ _ _ _ _ _ _ _ _ _
      | exact impl_magTrim.mono _ _
      | exact LeO.none _
      | refine LeO.ite ?_ ?_
      | refine LeO.bind ?_ (fun _ => ?_)
set_option maxHeartbeats 8000000 in
set_option maxRecDepth 100000 in
theorem impl_magMul.calls (k : Nat) (A0 : Option Addr) (c0 : Nat) (l0 : List Int) (A1 : Option Addr) (c1 : Nat) (l1 : List Int) (r : List Int) (w : World) (hr0 : Kd.C (Kd.int .u32) w A0 l0.length l0) (hc0 : l0.length ≤ c0) (hr1 : Kd.C (Kd.int .u32) w A1 l1.length l1) (hc1 : l1.length ≤ c1) (h : impl_magMul.f k l0 l1 = some r) :
    Calls Try.prog 141 #[.slice A0 l0.length c0, .slice A1 l1.length c1] w fun e w' => ∃ v0_ : Value, e = .returned (v0_) ∧ Kd.V (Kd.int .u32) 119 w' w.heap.size (fun k_ => (w.heap.size ≤ k_)) v0_ r ∧ Below w.heap.size w w' := by
  have HR0 := Aside0.mk hr0
  have HC0 := Aside0.mk hc0
  clear hr0 hc0
  have HR1 := Aside0.mk hr1
  have HC1 := Aside0.mk hc1
  clear hr1 hc1
  have HB := Aside0.mk (Below.refl w.heap.size w)
  have H : (if 0 ≤ (wrap64 ((l0.length : Int) + (l1.length : Int))) then (if (wrap64 ((l0.length : Int) + (l1.length : Int)) : Int).toNat ≤ 70368744177664 then (impl_magMul.l0 k l1 (List.replicate (wrap64 ((l0.length : Int) + (l1.length : Int)) : Int).toNat 0) l0 (l0.length : Int) 0) else (none)) else (none)) = some r := h
  clear h
  obtain ⟨ji3, hji3⟩ : ∃ j_ : Int, (wrap64 ((l0.length : Int) + (l1.length : Int))) = j_ := ⟨_, rfl⟩
  replace H : (if 0 ≤ (ji3) then (if (ji3 : Int).toNat ≤ 70368744177664 then (impl_magMul.l0 k l1 (List.replicate (ji3 : Int).toNat 0) l0 (l0.length : Int) 0) else (none)) else (none)) = some r := by first | (rw [hji3] at H; exact H) | (simp only [hji3] at H ⊢; exact H)
  have hji3w : (IntKind.i64.wrap ((l0.length : Int) + (l1.length : Int))) = ji3 := (i64_w _).trans hji3
  by_cases c4 : 0 ≤ (ji3)
  · rw [if_pos c4] at H
    have c4b0 := eq_true c4
    have c4b1 : decide (0 ≤ (ji3)) = true := decide_eq_true c4
    clear c4
    by_cases c5 : (ji3 : Int).toNat ≤ 70368744177664
    · rw [if_pos c5] at H
      have c5b0 := eq_true c5
      have c5b1 : decide ((ji3 : Int).toNat ≤ 70368744177664) = true := decide_eq_true c5
      clear c5
      obtain ⟨y470, hy470⟩ : ∃ y_ : List Int, y_ = (List.replicate (ji3 : Int).toNat 0) := ⟨_, rfl⟩
      replace H : (impl_magMul.l0 k l1 y470 l0 (l0.length : Int) 0) = some r := by first | (rw [hy470]; with_reducible exact H) | (have H2_ := (Option.bind_some _ _).symm.trans H; rw [hy470]; with_reducible exact H2_) | (have H2_ := (Option.bind_some _ _).symm.trans H; with_reducible exact H2_) | with_reducible exact H | (rw [hy470]; exact H) | exact H
      have Ny470 := Aside0.mk hy470
      clear hy470
      have H' := Aside0.mk H
      clear H
      go_enter Try.func141, Try.ntmps141
      go_wp2_with (first | ((with_reducible refine gate_dst (N := 16) rfl ?_); refine Kd.R_make (Kd.int .u32) _ 119 rfl (N := 16) rfl 87 _ _ rfl ji3 rfl rfl Try.underlying87 (.int .u32 0) 4 info119 rfl (by decide) (by omega) 0 (ok := fun _ => True) (okp := fun _ => True) rfl (fun _ hk => hk) trivial (of_decide_eq_true (by first | (with_reducible assumption) | assumption)) (Nat.le_trans (Nat.mul_le_mul_right _ (of_decide_eq_true (by first | (with_reducible assumption) | assumption) : ji3.toNat ≤ 70368744177664)) (by omega)) (Below.refl _ _) (Nat.le_refl _) ?_; intro v471 w6 ho7 hb hg_ hnew_; clear hg_ hnew_; (first | rw [← Ny470.out] at ho7 | (simp only [Int.reduceToNat] at ho7; rw [← Ny470.out] at ho7)); have n0_ := Aside0.mk (Kd.R_lower (Kd.R_newM (M := fun k_ => (w.heap.size ≤ k_)) ho7 (below_size (by repeat (first | (with_reducible first | exact HB.out | apply below_alloc | apply pw_below_drewN | apply below_drew1) | exact HB.out))) (fun k_ h_ => h_)) (below_size (by repeat (first | (with_reducible first | exact HB.out | apply below_alloc | apply pw_below_drewN | apply below_drew1) | exact HB.out)))); have n1_ := Aside0.mk (below_step (by repeat (first | (with_reducible first | exact HB.out | apply below_alloc | apply pw_below_drewN | apply below_drew1) | exact HB.out)) hb); clear HB; have HO472 := n0_; have HB := n1_; clear n0_ n1_; clear hb ho7))
      go_loopg [19] k (fun kq v19 w' => ∃ (x5_1 : List Int) (x19_1 : Int), v19 = .int .i64 x19_1 ∧ Aside0 (impl_magMul.l0 kq l1 x5_1 l0 (l0.length : Int) x19_1 = some r) ∧ Aside0 (kq ≤ k) ∧ Aside0 (Kd.R (Kd.int .u32) 119 w' w.heap.size (fun k_ => (w.heap.size ≤ k_)) v471 x5_1) ∧ Aside0 (Below w.heap.size w w'))
      case atStart => exact ⟨(y470), (0), (by first | rfl | (simp; done) | (simp [*]; done)), H', ⟨Nat.le_refl _⟩, ⟨by (with_reducible repeat (first | apply Kd.R_alloc | apply Kd.R_drewN | apply Kd.R_drew)); exact Kd.R_mono HO472.out (fun _ hk => hk.1)⟩, ⟨by repeat (first | (with_reducible first | exact HB.out | apply below_alloc | apply pw_below_drewN | apply below_drew1) | exact HB.out)⟩⟩
      case round =>
        clear H'
        try clear c1
        try clear p2
        try clear c4
        try clear c4b0
        try clear c4b1
        try clear c5
        try clear c5b0
        try clear c5b1
        try clear p6
        obtain ⟨x5_1, x19_1, rfl, HA, HK1, HO_5, HB⟩ := hrel
        cases gk with
        | zero => exact absurd HA.out (by simp [impl_magMul.l0])
        | succ k1 =>
          have H := HA.out
          clear HA
          simp only [impl_magMul.l0] at H
          by_cases c8 : x19_1 < (l0.length : Int)
          · rw [if_pos c8] at H
            have c8b0 : decide (x19_1 < (l0.length : Int)) = true := decide_eq_true c8
            clear c8
            by_cases c9 : 0 ≤ x19_1
            · rw [if_pos c9] at H
              have c9b0 : decide (0 ≤ x19_1) = true := decide_eq_true c9
              clear c9
              by_cases c10 : x19_1 < (l0.length : Int)
              · rw [if_pos c10] at H
                have c10b0 : decide (x19_1 < (l0.length : Int)) = true := decide_eq_true c10
                clear c10
                have H' := Aside0.mk H
                clear H
                have p476 : 0 ≤ (x19_1 : Int) := of_decide_eq_true (by first | (with_reducible assumption) | assumption)
                have q476 : x19_1 < (l0.length : Int) := of_decide_eq_true (by first | (with_reducible assumption) | assumption)
                obtain ⟨ad476, e476, hx476_0⟩ := Kd.at_int HR0.out x19_1 p476 q476
                cases e476
                replace hx476_0 := (HB.out.cell (World.block_lt_of_cell? w _ hx476_0)).trans hx476_0
                replace p476 := eq_true p476
                replace q476 := eq_true q476
                go_wp2
                go_loopg [8, 26] k1 (fun kq v8 v26 w' => ∃ (x5_2 : List Int) (x8_2 : Int) (x26_2 : Int), v8 = .int .u64 x8_2 ∧ v26 = .int .i64 x26_2 ∧ Aside0 (impl_magMul.l1 kq l1 x5_2 x19_1 (rd l0 x19_1) x8_2 l0 (l0.length : Int) x19_1 l1 (l1.length : Int) x26_2 = some r) ∧ Aside0 (kq ≤ k1) ∧ Aside0 (Kd.R (Kd.int .u32) 119 w' w.heap.size (fun k_ => (w.heap.size ≤ k_)) v471 x5_2) ∧ Aside0 (Below w.heap.size w w'))
                case atStart => exact ⟨(x5_1), (0), (0), (by first | rfl | (simp; done) | (simp [*]; done)), (by first | rfl | (simp; done) | (simp [*]; done)), H', ⟨Nat.le_refl _⟩, ⟨by (with_reducible repeat (first | apply Kd.R_alloc | apply Kd.R_drewN | apply Kd.R_drew)); exact HO_5.out⟩, ⟨by repeat (first | (with_reducible first | exact HB.out | apply below_alloc | apply pw_below_drewN | apply below_drew1) | exact HB.out)⟩⟩
                case round =>
                  clear H'
                  try clear c1
                  try clear p2
                  try clear c4
                  try clear c4b0
                  try clear c4b1
                  try clear p4
                  try clear q4
                  try clear hx4
                  try clear c5
                  try clear c5b0
                  try clear c5b1
                  try clear p6
                  try clear c8
                  try clear c8b0
                  try clear c9
                  try clear c9b0
                  try clear c10
                  try clear c10b0
                  try clear hx476_0
                  try clear p2
                  try clear p476
                  try clear p6
                  try clear q476
                  obtain ⟨x5_2, x8_2, x26_2, rfl, rfl, HA, HK2, HO_5, HB⟩ := hrel
                  cases gk with
                  | zero => exact absurd HA.out (by simp [impl_magMul.l1])
                  | succ k2 =>
                    have H := HA.out
                    clear HA
                    simp only [impl_magMul.l1] at H
                    by_cases c11 : x26_2 < (l1.length : Int)
                    · rw [if_pos c11] at H
                      have c11b0 : decide (x26_2 < (l1.length : Int)) = true := decide_eq_true c11
                      clear c11
                      by_cases c12 : 0 ≤ x26_2
                      · rw [if_pos c12] at H
                        have c12b0 : decide (0 ≤ x26_2) = true := decide_eq_true c12
                        clear c12
                        by_cases c13 : x26_2 < (l1.length : Int)
                        · rw [if_pos c13] at H
                          have c13b0 : decide (x26_2 < (l1.length : Int)) = true := decide_eq_true c13
                          clear c13
                          obtain ⟨ji14, hji14⟩ : ∃ j_ : Int, (wrap64 (x19_1 + x26_2)) = j_ := ⟨_, rfl⟩
                          replace H : (if 0 ≤ (ji14) then (if (ji14) < (x5_2.length : Int) then (impl_magMul.l1 k2 l1 (x5_2.set ((ji14) : Int).toNat ((IntKind.u64.wrap (x8_2 + (IntKind.u64.wrap ((IntKind.u64.wrap ((IntKind.u64.wrap ((rd l0 x19_1))) * (IntKind.u64.wrap (rd l1 x26_2)))) + (IntKind.u64.wrap (rd x5_2 (ji14))))))) % 4294967296)) x19_1 (rd l0 x19_1) ((IntKind.u64.wrap (x8_2 + (IntKind.u64.wrap ((IntKind.u64.wrap ((IntKind.u64.wrap ((rd l0 x19_1))) * (IntKind.u64.wrap (rd l1 x26_2)))) + (IntKind.u64.wrap (rd x5_2 (ji14))))))) / 4294967296) l0 (l0.length : Int) x19_1 l1 (l1.length : Int) (wrap64 (x26_2 + 1))) else (none)) else (none)) = some r := by first | (rw [hji14] at H; exact H) | (simp only [hji14] at H ⊢; exact H)
                          have hji14w : (IntKind.i64.wrap (x19_1 + x26_2)) = ji14 := (i64_w _).trans hji14
                          by_cases c15 : 0 ≤ (ji14)
                          · rw [if_pos c15] at H
                            have c15b0 : decide (0 ≤ (ji14)) = true := decide_eq_true c15
                            clear c15
                            by_cases c16 : (ji14) < (x5_2.length : Int)
                            · rw [if_pos c16] at H
                              have c16b0 : decide ((ji14) < (x5_2.length : Int)) = true := decide_eq_true c16
                              clear c16
                              obtain ⟨y479, hy479⟩ : ∃ y_ : List Int, y_ = (x5_2.set ((ji14) : Int).toNat ((IntKind.u64.wrap (x8_2 + (IntKind.u64.wrap ((IntKind.u64.wrap ((IntKind.u64.wrap ((rd l0 x19_1))) * (IntKind.u64.wrap (rd l1 x26_2)))) + (IntKind.u64.wrap (rd x5_2 (ji14))))))) % 4294967296)) := ⟨_, rfl⟩
                              replace H : (impl_magMul.l1 k2 l1 y479 x19_1 (rd l0 x19_1) ((IntKind.u64.wrap (x8_2 + (IntKind.u64.wrap ((IntKind.u64.wrap ((IntKind.u64.wrap ((rd l0 x19_1))) * (IntKind.u64.wrap (rd l1 x26_2)))) + (IntKind.u64.wrap (rd x5_2 (ji14))))))) / 4294967296) l0 (l0.length : Int) x19_1 l1 (l1.length : Int) (wrap64 (x26_2 + 1))) = some r := by first | (rw [hy479]; with_reducible exact H) | (have H2_ := (Option.bind_some _ _).symm.trans H; rw [hy479]; with_reducible exact H2_) | (have H2_ := (Option.bind_some _ _).symm.trans H; with_reducible exact H2_) | with_reducible exact H | (rw [hy479]; exact H) | exact H
                              have Ny479 := Aside0.mk hy479
                              clear hy479
                              have H' := Aside0.mk H
                              clear H
                              have p477 : 0 ≤ (x26_2 : Int) := of_decide_eq_true (by first | (with_reducible assumption) | assumption)
                              have q477 : x26_2 < (l1.length : Int) := of_decide_eq_true (by first | (with_reducible assumption) | assumption)
                              obtain ⟨ad477, e477, hx477_0⟩ := Kd.at_int HR1.out x26_2 p477 q477
                              cases e477
                              replace hx477_0 := (HB.out.cell (World.block_lt_of_cell? w _ hx477_0)).trans hx477_0
                              replace p477 := eq_true p477
                              replace q477 := eq_true q477
                              obtain ⟨Ao18, co18, eo18⟩ := Kd.R_slice HO_5.out
                              subst eo18
                              have p478 : 0 ≤ ((ji14) : Int) := of_decide_eq_true (by first | (with_reducible assumption) | assumption)
                              have q478 : (ji14) < (x5_2.length : Int) := of_decide_eq_true (by first | (with_reducible assumption) | assumption)
                              obtain ⟨ad478, e478, hx478_0⟩ := Kd.at_int (Kd.R_reads' HO_5.out).2.2 (ji14) p478 q478
                              cases e478
                              replace p478 := eq_true p478
                              replace q478 := eq_true q478
                              have p17 : 0 ≤ ((ji14) : Int) := of_decide_eq_true (by first | (with_reducible assumption) | assumption)
                              have q17 : ((ji14) : Int) < ((x5_2.length : Int) : Int) := of_decide_eq_true (by first | (with_reducible assumption) | assumption)
                              obtain ⟨go17, co17, eo17, gb17, gl17, cl17, HG17⟩ := Kd.R_form HO_5.out (by omega)
                              (first | cases eo17 | (injection eo17 with ea_ en_ ec_; (first | subst ea_ | (injection ea_ with ea_; subst ea_)); subst ec_; clear en_))
                              have GB17 := Aside0.mk gb17
                              have GG17 := Aside0.mk HG17
                              clear gb17 gl17 HG17
                              (first | simp only [add_plain] at hx478_0 | skip)
                              obtain ⟨hx17_0, hf17_0⟩ := Kd.R_celln 0 HO_5.out ((ji14) : Int) p17 q17
                              replace p17 := eq_true p17
                              replace q17 := eq_true q17
                              have HP19 := Kd.R_putg HO_5.out ((ji14) : Int) ((IntKind.u64.wrap (x8_2 + (IntKind.u64.wrap ((IntKind.u64.wrap ((IntKind.u64.wrap ((rd l0 x19_1))) * (IntKind.u64.wrap (rd l1 x26_2)))) + (IntKind.u64.wrap (rd x5_2 (ji14))))))) % 4294967296)
                              go_wp2_with (first | ((with_reducible refine gate_store (t := 119) (p := 52) rfl ?_); refine store_event (t := 119) (p := 52) (v := ?vo_w20) (w1 := (wr.setCell ⟨go17, ((ji14) : Int).toNat, none⟩ (.int .u32 ((IntKind.u64.wrap (x8_2 + (IntKind.u64.wrap ((IntKind.u64.wrap ((IntKind.u64.wrap ((rd l0 x19_1))) * (IntKind.u64.wrap (rd l1 x26_2)))) + (IntKind.u64.wrap (rd x5_2 (ji14))))))) % 4294967296)))) ?hg ?ho ?hn ?hr ?_; (case ho => rfl); (case hg => rfl); (case hn => rfl); (case hr => first | (go_simp; done) | (go_simp; rfl)); intro w20 hw; have hg : wr.grownBy w20 (some go17) := (by rw [hw]; exact HP19.2); have hp_ : Kd.R (Kd.int .u32) 119 w20 w.heap.size (fun k_ => (w.heap.size ≤ k_)) (.slice (some ⟨go17, 0, none⟩) x5_2.length co18) y479 := (by rw [hw, Ny479.out]; exact HP19.1); clear HP19; have n0_ := Aside0.mk (hp_); have n1_ := Aside0.mk ((by rw [hw]; exact below_set (HB.out) GB17.out : Below w.heap.size w w20)); clear HO_5; clear HB; have HO_5 := n0_; have HB := n1_; clear n0_ n1_; clear hg hw hp_))
                              go_roundg k2
                              case measure => have := HK1.out; have := HK2.out; omega
                              case rel => exact ⟨(y479), ((IntKind.u64.wrap (x8_2 + (IntKind.u64.wrap ((IntKind.u64.wrap ((IntKind.u64.wrap ((rd l0 x19_1))) * (IntKind.u64.wrap (rd l1 x26_2)))) + (IntKind.u64.wrap (rd x5_2 (ji14))))))) / 4294967296), (wrap64 (x26_2 + 1)), (by first | rfl | (simp; done) | (simp only [← hji14] <;> (first | rfl | simp)) | (simp [*]; done)), (by first | rfl | (simp; done) | (simp [*]; done)), H', ⟨by have := HK1.out; have := HK2.out; omega⟩, ⟨by (with_reducible repeat (first | apply Kd.R_alloc | apply Kd.R_drewN | apply Kd.R_drew)); exact HO_5.out⟩, ⟨by repeat (first | (with_reducible first | exact HB.out | apply below_alloc | apply pw_below_drewN | apply below_drew1) | exact HB.out)⟩⟩
                            · rw [if_neg c16] at H
                              exact absurd H (by simp)
                          · rw [if_neg c15] at H
                            exact absurd H (by simp)
                        · rw [if_neg c13] at H
                          exact absurd H (by simp)
                      · rw [if_neg c12] at H
                        exact absurd H (by simp)
                    · rw [if_neg c11] at H
                      have c11b0 : decide (x26_2 < (l1.length : Int)) = false := decide_eq_false c11
                      clear c11
                      obtain ⟨ji21, hji21⟩ : ∃ j_ : Int, (wrap64 (x19_1 + (l1.length : Int))) = j_ := ⟨_, rfl⟩
                      replace H : (if 0 ≤ (ji21) then (if (ji21) < (x5_2.length : Int) then (impl_magMul.l0 k2 l1 (x5_2.set ((ji21) : Int).toNat ((x8_2) % 4294967296)) l0 (l0.length : Int) (wrap64 (x19_1 + 1))) else (none)) else (none)) = some r := by first | (rw [hji21] at H; exact H) | (simp only [hji21] at H ⊢; exact H)
                      have hji21w : (IntKind.i64.wrap (x19_1 + (l1.length : Int))) = ji21 := (i64_w _).trans hji21
                      by_cases c22 : 0 ≤ (ji21)
                      · rw [if_pos c22] at H
                        have c22b0 : decide (0 ≤ (ji21)) = true := decide_eq_true c22
                        clear c22
                        by_cases c23 : (ji21) < (x5_2.length : Int)
                        · rw [if_pos c23] at H
                          have c23b0 : decide ((ji21) < (x5_2.length : Int)) = true := decide_eq_true c23
                          clear c23
                          obtain ⟨y480, hy480⟩ : ∃ y_ : List Int, y_ = (x5_2.set ((ji21) : Int).toNat ((x8_2) % 4294967296)) := ⟨_, rfl⟩
                          replace H : (impl_magMul.l0 k2 l1 y480 l0 (l0.length : Int) (wrap64 (x19_1 + 1))) = some r := by first | (rw [hy480]; with_reducible exact H) | (have H2_ := (Option.bind_some _ _).symm.trans H; rw [hy480]; with_reducible exact H2_) | (have H2_ := (Option.bind_some _ _).symm.trans H; with_reducible exact H2_) | with_reducible exact H | (rw [hy480]; exact H) | exact H
                          have Ny480 := Aside0.mk hy480
                          clear hy480
                          have H' := Aside0.mk H
                          clear H
                          have p24 : 0 ≤ ((ji21) : Int) := of_decide_eq_true (by first | (with_reducible assumption) | assumption)
                          have q24 : ((ji21) : Int) < ((x5_2.length : Int) : Int) := of_decide_eq_true (by first | (with_reducible assumption) | assumption)
                          obtain ⟨go24, co24, eo24, gb24, gl24, cl24, HG24⟩ := Kd.R_form HO_5.out (by omega)
                          (first | cases eo24 | (injection eo24 with ea_ en_ ec_; (first | subst ea_ | (injection ea_ with ea_; subst ea_)); subst ec_; clear en_))
                          have GB24 := Aside0.mk gb24
                          have GG24 := Aside0.mk HG24
                          clear gb24 gl24 HG24
                          obtain ⟨hx24_0, hf24_0⟩ := Kd.R_celln 0 HO_5.out ((ji21) : Int) p24 q24
                          replace p24 := eq_true p24
                          replace q24 := eq_true q24
                          have HP25 := Kd.R_putg HO_5.out ((ji21) : Int) ((x8_2) % 4294967296)
                          go_wp2_with (first | ((with_reducible refine gate_store (t := 119) (p := 63) rfl ?_); refine store_event (t := 119) (p := 63) (v := ?vo_w26) (w1 := (wr.setCell ⟨go24, ((ji21) : Int).toNat, none⟩ (.int .u32 ((x8_2) % 4294967296)))) ?hg ?ho ?hn ?hr ?_; (case ho => rfl); (case hg => rfl); (case hn => rfl); (case hr => first | (go_simp; done) | (go_simp; rfl)); intro w26 hw; have hg : wr.grownBy w26 (some go24) := (by rw [hw]; exact HP25.2); have hp_ : Kd.R (Kd.int .u32) 119 w26 w.heap.size (fun k_ => (w.heap.size ≤ k_)) (.slice (some ⟨go24, 0, none⟩) x5_2.length co24) y480 := (by rw [hw, Ny480.out]; exact HP25.1); clear HP25; have n0_ := Aside0.mk (hp_); have n1_ := Aside0.mk ((by rw [hw]; exact below_set (HB.out) GB24.out : Below w.heap.size w w26)); clear HO_5; clear HB; have HO_5 := n0_; have HB := n1_; clear n0_ n1_; clear hg hw hp_))
                          go_roundg k2
                          case measure => have := HK1.out; have := HK2.out; omega
                          case rel => exact ⟨(y480), (wrap64 (x19_1 + 1)), (by first | rfl | (simp; done) | (simp [*]; done)), H', ⟨by have := HK1.out; have := HK2.out; omega⟩, ⟨by (with_reducible repeat (first | apply Kd.R_alloc | apply Kd.R_drewN | apply Kd.R_drew)); exact HO_5.out⟩, ⟨by repeat (first | (with_reducible first | exact HB.out | apply below_alloc | apply pw_below_drewN | apply below_drew1) | exact HB.out)⟩⟩
                        · rw [if_neg c23] at H
                          exact absurd H (by simp)
                      · rw [if_neg c22] at H
                        exact absurd H (by simp)
              · rw [if_neg c10] at H
                exact absurd H (by simp)
            · rw [if_neg c9] at H
              exact absurd H (by simp)
          · rw [if_neg c8] at H
            have c8b0 : decide (x19_1 < (l0.length : Int)) = false := decide_eq_false c8
            clear c8
            replace H := Option.bind_eq_some_iff.mp H
            obtain ⟨t473, A270, H⟩ := H
            replace H : (some t473) = some r := H
            have A27 := Aside0.mk A270
            clear A270
            obtain rfl := Option.some.inj H
            obtain ⟨Ao28, co28, eo28⟩ := Kd.R_slice HO_5.out
            subst eo28
            go_wp2_with (first | ((with_reducible refine gate_callee (f := 137) rfl ?_); refine goesL_ (some 66) rfl rfl Try.func137 (by kernel_rfl) rfl #[.slice Ao28 x5_1.length co28] rfl (by (try simp only [List.map_toArray, List.map_cons, List.map_nil]); first | done | rfl | (simp only [List.length_drop, List.length_take]; rfl)) ?_; (with_reducible refine (impl_magTrim.calls k1 (fun k_ => some k_ = (.slice Ao28 x5_1.length co28 : Value).ownBlock) _ _ x5_1 t473 _ ?side1 A27.out).mono ?_); (case side1 => exact Kd.R_V (Kd.R_tight rfl (HO_5.out))); rintro e w29 ⟨v474, rfl, ho0, hb⟩; refine ⟨_, rfl, ?_⟩; have n0_ := Aside0.mk (Kd.R_below (by (with_reducible repeat (first | apply Kd.R_alloc | apply Kd.R_drewN | apply Kd.R_drew)); exact HO_5.out) hb); have n1_ := Aside0.mk (Kd.V_lower (Kd.V_mono (ok' := fun k_ => (w.heap.size ≤ k_)) ho0 (fun k_ hk_ => Or.elim hk_ (fun hs_ => ((HO_5.out).1 k_ hs_.symm)) (fun hn_ => (Nat.le_trans (below_size (by repeat (first | (with_reducible first | exact HB.out | apply below_alloc | apply pw_below_drewN | apply below_drew1) | exact HB.out))) hn_)))) (below_size (by repeat (first | (with_reducible first | exact HB.out | apply below_alloc | apply pw_below_drewN | apply below_drew1) | exact HB.out)))); have n2_ := Aside0.mk (below_step (by repeat (first | (with_reducible first | exact HB.out | apply below_alloc | apply pw_below_drewN | apply below_drew1) | exact HB.out)) hb); clear HO_5; clear HB; have HO_5 := n0_; have HO475 := n1_; have HB := n2_; clear n0_ n1_ n2_; (try clear hb); (try clear hb2); (try clear hk); (try clear hi); (try clear ho0)))
            go_ret
            exact ⟨_, by first | rfl | (simp [errW_none, errW_some] <;> rfl) | (simp only [← hji3]; first | rfl | (simp [errW_none, errW_some] <;> rfl)) | (simp [*, errW_none, errW_some] <;> rfl), by (with_reducible repeat (first | apply Kd.V_alloc | apply Kd.V_drewN | apply Kd.V_drew)); exact HO475.out, by repeat (first | (with_reducible first | exact HB.out | apply below_alloc | apply pw_below_drewN | apply below_drew1) | exact HB.out)⟩
    · rw [if_neg c5] at H
      exact absurd H (by simp)
  · rw [if_neg c4] at H
    exact absurd H (by simp)
end Go.Proofs.Ytjddhnjjeomfjaa.PW
end
section
namespace Go.Proofs.Ytjddhnjjeomfjaa.PW
open Go.RowKit Go.Proofs.YtjddhnjjeomfjaaW.PrintWords Go.Proofs.YtjddhnjjeomfjaaW.PrintLast Go.Proofs.YtjddhnjjeomfjaaW.PrintMore
attribute [local go_sem] max2_int min2_int max_two min_two max_three min_three max_four min_four   -- for this text's walks alone
set_option linter.unusedVariables false
set_option linter.unusedSimpArgs false
def impl_magLeft.l0 : Nat → Int → List Int → List Int → Int → Int → Option (List Int)
  | 0, _, _, _, _, _ => none
  | k + 1, x1, x5, x20, x21, x22 => if x22 < x21 then (if 0 ≤ x22 then (if x22 < (x20.length : Int) then (if 0 ≤ (Int.tmod x1 32) then (if 0 ≤ (wrap64 ((wrap64 (IntKind.u64.wrap (Int.tdiv x1 32))) + x22)) then (if (wrap64 ((wrap64 (IntKind.u64.wrap (Int.tdiv x1 32))) + x22)) < (x5.length : Int) then (if 0 ≤ (wrap64 ((wrap64 ((wrap64 (IntKind.u64.wrap (Int.tdiv x1 32))) + x22)) + 1)) then (if (wrap64 ((wrap64 ((wrap64 (IntKind.u64.wrap (Int.tdiv x1 32))) + x22)) + 1)) < (x5.length : Int) then (impl_magLeft.l0 k x1 ((x5.set ((wrap64 ((wrap64 (IntKind.u64.wrap (Int.tdiv x1 32))) + x22)) : Int).toNat (Go.bits .or .u32 (rd x5 (wrap64 ((wrap64 (IntKind.u64.wrap (Int.tdiv x1 32))) + x22))) ((shl .u64 (IntKind.u64.wrap (rd x20 x22)) (Int.tmod x1 32)) % 4294967296))).set ((wrap64 ((wrap64 ((wrap64 (IntKind.u64.wrap (Int.tdiv x1 32))) + x22)) + 1)) : Int).toNat (((shl .u64 (IntKind.u64.wrap (rd x20 x22)) (Int.tmod x1 32)) / 4294967296) % 4294967296)) x20 x21 (wrap64 (x22 + 1))) else (none)) else (none)) else (none)) else (none)) else (none)) else (none)) else (none)) else ((impl_magTrim.f k x5).bind fun t327 => (some t327))
def impl_magLeft.f (k : Nat) (l0 : List Int) (a1 : Int) : Option (List Int) := if (l0.length : Int) = 0 then (some ([] : List Int)) else (if 0 ≤ (wrap64 ((wrap64 ((wrap64 (IntKind.u64.wrap (Int.tdiv a1 32))) + (l0.length : Int))) + 1)) then (if (wrap64 ((wrap64 ((wrap64 (IntKind.u64.wrap (Int.tdiv a1 32))) + (l0.length : Int))) + 1) : Int).toNat ≤ 70368744177664 then (impl_magLeft.l0 k a1 (List.replicate (wrap64 ((wrap64 ((wrap64 (IntKind.u64.wrap (Int.tdiv a1 32))) + (l0.length : Int))) + 1) : Int).toNat 0) l0 (l0.length : Int) 0) else (none)) else (none))
theorem impl_magLeft.mono_l : ∀ k, (∀ y0 y1 y2 y3 y4, LeO (impl_magLeft.l0 k y0 y1 y2 y3 y4) (impl_magLeft.l0 (k + 1) y0 y1 y2 y3 y4))
  | 0 => fun _ _ _ _ _ r h => by simp [impl_magLeft.l0] at h
  | k + 1 => by
    have ih0 := impl_magLeft.mono_l k
    · intro y0 y1 y2 y3 y4
      unfold impl_magLeft.l0
      repeat' first
      | (with_reducible exact ih0 _ _ _ _ _)
      | (with_reducible exact impl_magTrim.mono _ _)
      | (with_reducible exact LeO.refl _)
      | (with_reducible exact LeO.none _)
      | (with_reducible refine LeO.ite ?_ ?_)
      | (with_reducible refine LeO.bind ?_ (fun _ => ?_))
      | exact ih0 _ _ _ _ _
      | exact impl_magTrim.mono _ _
      | exact LeO.none _
      | refine LeO.ite ?_ ?_
      | refine LeO.bind ?_ (fun _ => ?_)
theorem impl_magLeft.mono : ∀ a0 a1 k, LeO (impl_magLeft.f k a0 a1) (impl_magLeft.f (k + 1) a0 a1) := by
  intro a0 a1 k
  have ih0 := impl_magLeft.mono_l k
  unfold impl_magLeft.f
  repeat' first
      | (with_reducible exact ih0 _ _ _ _ _)
      | (with_reducible exact impl_magTrim.mono _ _)
      | (with_reducible exact LeO.refl _)
      | (with_reducible exact LeO.none _)
      | (with_reducible refine LeO.ite ?_ ?_)
      | (with_reducible refine LeO.bind ?_ (fun _ => ?_))
      | exact ih0 _ _ _ _ _
      | exact impl_magTrim.mono _ _
      | exact LeO.none _
      | refine LeO.ite ?_ ?_
      | refine LeO.bind ?_ (fun _ => ?_)
set_option maxHeartbeats 8000000 in
set_option maxRecDepth 100000 in
theorem impl_magLeft.calls (k : Nat) (A0 : Option Addr) (c0 : Nat) (l0 : List Int) (a1 : Int) (r : List Int) (w : World) (hr0 : Kd.C (Kd.int .u32) w A0 l0.length l0) (hc0 : l0.length ≤ c0) (h : impl_magLeft.f k l0 a1 = some r) :
    Calls Try.prog 115 #[.slice A0 l0.length c0, .int .u64 a1] w fun e w' => ∃ v0_ : Value, e = .returned (v0_) ∧ Kd.V (Kd.int .u32) 119 w' w.heap.size (fun k_ => (w.heap.size ≤ k_)) v0_ r ∧ Below w.heap.size w w' := by
  have HR0 := Aside0.mk hr0
  have HC0 := Aside0.mk hc0
  clear hr0 hc0
  have HB := Aside0.mk (Below.refl w.heap.size w)
  have H : (if (l0.length : Int) = 0 then (some ([] : List Int)) else (if 0 ≤ (wrap64 ((wrap64 ((wrap64 (IntKind.u64.wrap (Int.tdiv a1 32))) + (l0.length : Int))) + 1)) then (if (wrap64 ((wrap64 ((wrap64 (IntKind.u64.wrap (Int.tdiv a1 32))) + (l0.length : Int))) + 1) : Int).toNat ≤ 70368744177664 then (impl_magLeft.l0 k a1 (List.replicate (wrap64 ((wrap64 ((wrap64 (IntKind.u64.wrap (Int.tdiv a1 32))) + (l0.length : Int))) + 1) : Int).toNat 0) l0 (l0.length : Int) 0) else (none)) else (none))) = some r := h
  clear h
  by_cases c3 : (l0.length : Int) = 0
  · rw [if_pos c3] at H
    have c3b0 : ((l0.length : Int) == 0) = true := beq_iff_eq.mpr c3
    have c3b1 : ((l0.length : Int) != 0) = false := bne_eq_false_iff_eq.mpr c3
    clear c3
    obtain rfl := Option.some.inj H
    go_enter Try.func115, Try.ntmps115
    go_wp2
    go_ret
    exact ⟨.slice none 0 0, by first | rfl | (simp [errW_none, errW_some] <;> rfl) | (simp [*, errW_none, errW_some] <;> rfl), Kd.V_nil _ _ _ _ _, by repeat (first | (with_reducible first | exact HB.out | apply below_alloc | apply pw_below_drewN | apply below_drew1) | exact HB.out)⟩
  · rw [if_neg c3] at H
    have c3b0 : ((l0.length : Int) == 0) = false := beq_eq_false_iff_ne.mpr c3
    have c3b1 : ((l0.length : Int) != 0) = true := bne_iff_ne.mpr c3
    have c3b2 : ¬ (l0 = []) := fun h_ => c3 (by rw [h_]; rfl)
    obtain ⟨ji4, hji4⟩ : ∃ j_ : Int, (wrap64 ((wrap64 ((wrap64 (IntKind.u64.wrap (Int.tdiv a1 32))) + (l0.length : Int))) + 1)) = j_ := ⟨_, rfl⟩
    replace H : (if 0 ≤ (ji4) then (if (ji4 : Int).toNat ≤ 70368744177664 then (impl_magLeft.l0 k a1 (List.replicate (ji4 : Int).toNat 0) l0 (l0.length : Int) 0) else (none)) else (none)) = some r := by first | (rw [hji4] at H; exact H) | (simp only [hji4] at H ⊢; exact H)
    have hji4w : (IntKind.i64.wrap ((wrap64 ((wrap64 (IntKind.u64.wrap (Int.tdiv a1 32))) + (l0.length : Int))) + 1)) = ji4 := (i64_w _).trans hji4
    by_cases c5 : 0 ≤ (ji4)
    · rw [if_pos c5] at H
      have c5b0 := eq_true c5
      have c5b1 : decide (0 ≤ (ji4)) = true := decide_eq_true c5
      clear c5
      by_cases c6 : (ji4 : Int).toNat ≤ 70368744177664
      · rw [if_pos c6] at H
        have c6b0 := eq_true c6
        have c6b1 : decide ((ji4 : Int).toNat ≤ 70368744177664) = true := decide_eq_true c6
        clear c6
        obtain ⟨y320, hy320⟩ : ∃ y_ : List Int, y_ = (List.replicate (ji4 : Int).toNat 0) := ⟨_, rfl⟩
        replace H : (impl_magLeft.l0 k a1 y320 l0 (l0.length : Int) 0) = some r := by first | (rw [hy320]; with_reducible exact H) | (have H2_ := (Option.bind_some _ _).symm.trans H; rw [hy320]; with_reducible exact H2_) | (have H2_ := (Option.bind_some _ _).symm.trans H; with_reducible exact H2_) | with_reducible exact H | (rw [hy320]; exact H) | exact H
        have Ny320 := Aside0.mk hy320
        clear hy320
        have H' := Aside0.mk H
        clear H
        go_enter Try.func115, Try.ntmps115
        go_wp2_with (first | ((with_reducible refine gate_dst (N := 19) rfl ?_); refine Kd.R_make (Kd.int .u32) _ 119 rfl (N := 19) rfl 87 _ _ rfl ji4 rfl rfl Try.underlying87 (.int .u32 0) 4 info119 rfl (by decide) (by omega) 0 (ok := fun _ => True) (okp := fun _ => True) rfl (fun _ hk => hk) trivial (of_decide_eq_true (by first | (with_reducible assumption) | assumption)) (Nat.le_trans (Nat.mul_le_mul_right _ (of_decide_eq_true (by first | (with_reducible assumption) | assumption) : ji4.toNat ≤ 70368744177664)) (by omega)) (Below.refl _ _) (Nat.le_refl _) ?_; intro v321 w7 ho8 hb hg_ hnew_; clear hg_ hnew_; (first | rw [← Ny320.out] at ho8 | (simp only [Int.reduceToNat] at ho8; rw [← Ny320.out] at ho8)); have n0_ := Aside0.mk (Kd.R_lower (Kd.R_newM (M := fun k_ => (w.heap.size ≤ k_)) ho8 (below_size (by repeat (first | (with_reducible first | exact HB.out | apply below_alloc | apply pw_below_drewN | apply below_drew1) | exact HB.out))) (fun k_ h_ => h_)) (below_size (by repeat (first | (with_reducible first | exact HB.out | apply below_alloc | apply pw_below_drewN | apply below_drew1) | exact HB.out)))); have n1_ := Aside0.mk (below_step (by repeat (first | (with_reducible first | exact HB.out | apply below_alloc | apply pw_below_drewN | apply below_drew1) | exact HB.out)) hb); clear HB; have HO322 := n0_; have HB := n1_; clear n0_ n1_; clear hb ho8))
        go_loopg [22] k (fun kq v22 w' => ∃ (x5_1 : List Int) (x22_1 : Int), v22 = .int .i64 x22_1 ∧ Aside0 (impl_magLeft.l0 kq a1 x5_1 l0 (l0.length : Int) x22_1 = some r) ∧ Aside0 (kq ≤ k) ∧ Aside0 (Kd.R (Kd.int .u32) 119 w' w.heap.size (fun k_ => (w.heap.size ≤ k_)) v321 x5_1) ∧ Aside0 (Below w.heap.size w w'))
        case atStart => exact ⟨(y320), (0), (by first | rfl | (simp; done) | (simp [*]; done)), H', ⟨Nat.le_refl _⟩, ⟨by (with_reducible repeat (first | apply Kd.R_alloc | apply Kd.R_drewN | apply Kd.R_drew)); exact Kd.R_mono HO322.out (fun _ hk => hk.1)⟩, ⟨by repeat (first | (with_reducible first | exact HB.out | apply below_alloc | apply pw_below_drewN | apply below_drew1) | exact HB.out)⟩⟩
        case round =>
          clear H'
          try clear c1
          try clear p2
          try clear c3
          try clear c3b0
          try clear c3b1
          try clear c3b2
          try clear c5
          try clear c5b0
          try clear c5b1
          try clear c6
          try clear c6b0
          try clear c6b1
          try clear p6
          obtain ⟨x5_1, x22_1, rfl, HA, HK1, HO_5, HB⟩ := hrel
          cases gk with
          | zero => exact absurd HA.out (by simp [impl_magLeft.l0])
          | succ k1 =>
            have H := HA.out
            clear HA
            simp only [impl_magLeft.l0] at H
            by_cases c9 : x22_1 < (l0.length : Int)
            · rw [if_pos c9] at H
              have c9b0 : decide (x22_1 < (l0.length : Int)) = true := decide_eq_true c9
              clear c9
              by_cases c10 : 0 ≤ x22_1
              · rw [if_pos c10] at H
                have c10b0 : decide (0 ≤ x22_1) = true := decide_eq_true c10
                clear c10
                by_cases c11 : x22_1 < (l0.length : Int)
                · rw [if_pos c11] at H
                  have c11b0 : decide (x22_1 < (l0.length : Int)) = true := decide_eq_true c11
                  clear c11
                  obtain ⟨ji12, hji12⟩ : ∃ j_ : Int, (Int.tmod a1 32) = j_ := ⟨_, rfl⟩
                  replace H : (if 0 ≤ (ji12) then (if 0 ≤ (wrap64 ((wrap64 (IntKind.u64.wrap (Int.tdiv a1 32))) + x22_1)) then (if (wrap64 ((wrap64 (IntKind.u64.wrap (Int.tdiv a1 32))) + x22_1)) < (x5_1.length : Int) then (if 0 ≤ (wrap64 ((wrap64 ((wrap64 (IntKind.u64.wrap (Int.tdiv a1 32))) + x22_1)) + 1)) then (if (wrap64 ((wrap64 ((wrap64 (IntKind.u64.wrap (Int.tdiv a1 32))) + x22_1)) + 1)) < (x5_1.length : Int) then (impl_magLeft.l0 k1 a1 ((x5_1.set ((wrap64 ((wrap64 (IntKind.u64.wrap (Int.tdiv a1 32))) + x22_1)) : Int).toNat (Go.bits .or .u32 (rd x5_1 (wrap64 ((wrap64 (IntKind.u64.wrap (Int.tdiv a1 32))) + x22_1))) ((shl .u64 (IntKind.u64.wrap (rd l0 x22_1)) (ji12)) % 4294967296))).set ((wrap64 ((wrap64 ((wrap64 (IntKind.u64.wrap (Int.tdiv a1 32))) + x22_1)) + 1)) : Int).toNat (((shl .u64 (IntKind.u64.wrap (rd l0 x22_1)) (ji12)) / 4294967296) % 4294967296)) l0 (l0.length : Int) (wrap64 (x22_1 + 1))) else (none)) else (none)) else (none)) else (none)) else (none)) = some r := by first | (rw [hji12] at H; exact H) | (simp only [hji12] at H ⊢; exact H)
                  by_cases c13 : 0 ≤ (ji12)
                  · rw [if_pos c13] at H
                    have c13b0 := eq_true c13
                    have c13b1 : decide (0 ≤ (ji12)) = true := decide_eq_true c13
                    clear c13
                    obtain ⟨ji14, hji14⟩ : ∃ j_ : Int, (shl .u64 (IntKind.u64.wrap (rd l0 x22_1)) (ji12)) = j_ := ⟨_, rfl⟩
                    replace H : (if 0 ≤ (wrap64 ((wrap64 (IntKind.u64.wrap (Int.tdiv a1 32))) + x22_1)) then (if (wrap64 ((wrap64 (IntKind.u64.wrap (Int.tdiv a1 32))) + x22_1)) < (x5_1.length : Int) then (if 0 ≤ (wrap64 ((wrap64 ((wrap64 (IntKind.u64.wrap (Int.tdiv a1 32))) + x22_1)) + 1)) then (if (wrap64 ((wrap64 ((wrap64 (IntKind.u64.wrap (Int.tdiv a1 32))) + x22_1)) + 1)) < (x5_1.length : Int) then (impl_magLeft.l0 k1 a1 ((x5_1.set ((wrap64 ((wrap64 (IntKind.u64.wrap (Int.tdiv a1 32))) + x22_1)) : Int).toNat (Go.bits .or .u32 (rd x5_1 (wrap64 ((wrap64 (IntKind.u64.wrap (Int.tdiv a1 32))) + x22_1))) ((ji14) % 4294967296))).set ((wrap64 ((wrap64 ((wrap64 (IntKind.u64.wrap (Int.tdiv a1 32))) + x22_1)) + 1)) : Int).toNat (((ji14) / 4294967296) % 4294967296)) l0 (l0.length : Int) (wrap64 (x22_1 + 1))) else (none)) else (none)) else (none)) else (none)) = some r := by first | (rw [hji14] at H; exact H) | (simp only [hji14] at H ⊢; exact H)
                    have hji14_ : (IntKind.u64.wrap ((IntKind.u64.wrap (rd l0 x22_1)) * 2 ^ min (ji12).toNat 64)) = ji14 := hji14
                    have hji14z : (ji12) ≤ 64 → (IntKind.u64.wrap ((IntKind.u64.wrap (rd l0 x22_1)) * 2 ^ (ji12).toNat)) = ji14 := shl_small hji14
                    obtain ⟨ji15, hji15⟩ : ∃ j_ : Int, (wrap64 ((wrap64 (IntKind.u64.wrap (Int.tdiv a1 32))) + x22_1)) = j_ := ⟨_, rfl⟩
                    replace H : (if 0 ≤ (ji15) then (if (ji15) < (x5_1.length : Int) then (if 0 ≤ (wrap64 ((ji15) + 1)) then (if (wrap64 ((ji15) + 1)) < (x5_1.length : Int) then (impl_magLeft.l0 k1 a1 ((x5_1.set ((ji15) : Int).toNat (Go.bits .or .u32 (rd x5_1 (ji15)) ((ji14) % 4294967296))).set ((wrap64 ((ji15) + 1)) : Int).toNat (((ji14) / 4294967296) % 4294967296)) l0 (l0.length : Int) (wrap64 (x22_1 + 1))) else (none)) else (none)) else (none)) else (none)) = some r := by first | (rw [hji15] at H; exact H) | (simp only [hji15] at H ⊢; exact H)
                    have hji15w : (IntKind.i64.wrap ((wrap64 (IntKind.u64.wrap (Int.tdiv a1 32))) + x22_1)) = ji15 := (i64_w _).trans hji15
                    by_cases c16 : 0 ≤ (ji15)
                    · rw [if_pos c16] at H
                      have c16b0 : decide (0 ≤ (ji15)) = true := decide_eq_true c16
                      clear c16
                      by_cases c17 : (ji15) < (x5_1.length : Int)
                      · rw [if_pos c17] at H
                        have c17b0 : decide ((ji15) < (x5_1.length : Int)) = true := decide_eq_true c17
                        clear c17
                        obtain ⟨y325, hy325⟩ : ∃ y_ : List Int, y_ = (x5_1.set ((ji15) : Int).toNat (Go.bits .or .u32 (rd x5_1 (ji15)) ((ji14) % 4294967296))) := ⟨_, rfl⟩
                        replace H : (if 0 ≤ (wrap64 ((ji15) + 1)) then (if (wrap64 ((ji15) + 1)) < (x5_1.length : Int) then (impl_magLeft.l0 k1 a1 (y325.set ((wrap64 ((ji15) + 1)) : Int).toNat (((ji14) / 4294967296) % 4294967296)) l0 (l0.length : Int) (wrap64 (x22_1 + 1))) else (none)) else (none)) = some r := by first | (rw [hy325]; with_reducible exact H) | (have H2_ := (Option.bind_some _ _).symm.trans H; rw [hy325]; with_reducible exact H2_) | (have H2_ := (Option.bind_some _ _).symm.trans H; with_reducible exact H2_) | with_reducible exact H | (rw [hy325]; exact H) | exact H
                        have Ny325 := Aside0.mk hy325
                        clear hy325
                        obtain ⟨ji19, hji19⟩ : ∃ j_ : Int, (wrap64 ((ji15) + 1)) = j_ := ⟨_, rfl⟩
                        replace H : (if 0 ≤ (ji19) then (if (ji19) < (x5_1.length : Int) then (impl_magLeft.l0 k1 a1 (y325.set ((ji19) : Int).toNat (((ji14) / 4294967296) % 4294967296)) l0 (l0.length : Int) (wrap64 (x22_1 + 1))) else (none)) else (none)) = some r := by first | (rw [hji19] at H; exact H) | (simp only [hji19] at H ⊢; exact H)
                        have hji19w : (IntKind.i64.wrap ((ji15) + 1)) = ji19 := (i64_w _).trans hji19
                        by_cases c20 : 0 ≤ (ji19)
                        · rw [if_pos c20] at H
                          have c20b0 : decide (0 ≤ (ji19)) = true := decide_eq_true c20
                          clear c20
                          by_cases c21 : (ji19) < (x5_1.length : Int)
                          · rw [if_pos c21] at H
                            have c21b0 : decide ((ji19) < (x5_1.length : Int)) = true := decide_eq_true c21
                            clear c21
                            obtain ⟨y326, hy326⟩ : ∃ y_ : List Int, y_ = (y325.set ((ji19) : Int).toNat (((ji14) / 4294967296) % 4294967296)) := ⟨_, rfl⟩
                            replace H : (impl_magLeft.l0 k1 a1 y326 l0 (l0.length : Int) (wrap64 (x22_1 + 1))) = some r := by first | (rw [hy326]; with_reducible exact H) | (have H2_ := (Option.bind_some _ _).symm.trans H; rw [hy326]; with_reducible exact H2_) | (have H2_ := (Option.bind_some _ _).symm.trans H; with_reducible exact H2_) | with_reducible exact H | (rw [hy326]; exact H) | exact H
                            have Ny326 := Aside0.mk hy326
                            clear hy326
                            have H' := Aside0.mk H
                            clear H
                            have p323 : 0 ≤ (x22_1 : Int) := of_decide_eq_true (by first | (with_reducible assumption) | assumption)
                            have q323 : x22_1 < (l0.length : Int) := of_decide_eq_true (by first | (with_reducible assumption) | assumption)
                            obtain ⟨ad323, e323, hx323_0⟩ := Kd.at_int HR0.out x22_1 p323 q323
                            cases e323
                            replace hx323_0 := (HB.out.cell (World.block_lt_of_cell? w _ hx323_0)).trans hx323_0
                            replace p323 := eq_true p323
                            replace q323 := eq_true q323
                            obtain ⟨Ao23, co23, eo23⟩ := Kd.R_slice HO_5.out
                            subst eo23
                            have p324 : 0 ≤ ((ji15) : Int) := of_decide_eq_true (by first | (with_reducible assumption) | assumption)
                            have q324 : (ji15) < (x5_1.length : Int) := of_decide_eq_true (by first | (with_reducible assumption) | assumption)
                            obtain ⟨ad324, e324, hx324_0⟩ := Kd.at_int (Kd.R_reads' HO_5.out).2.2 (ji15) p324 q324
                            cases e324
                            replace p324 := eq_true p324
                            replace q324 := eq_true q324
                            have p18 : 0 ≤ ((ji15) : Int) := of_decide_eq_true (by first | (with_reducible assumption) | assumption)
                            have q18 : ((ji15) : Int) < ((x5_1.length : Int) : Int) := of_decide_eq_true (by first | (with_reducible assumption) | assumption)
                            obtain ⟨go18, co18, eo18, gb18, gl18, cl18, HG18⟩ := Kd.R_form HO_5.out (by omega)
                            (first | cases eo18 | (injection eo18 with ea_ en_ ec_; (first | subst ea_ | (injection ea_ with ea_; subst ea_)); subst ec_; clear en_))
                            have GB18 := Aside0.mk gb18
                            have GG18 := Aside0.mk HG18
                            clear gb18 gl18 HG18
                            (first | simp only [add_plain] at hx324_0 | skip)
                            obtain ⟨hx18_0, hf18_0⟩ := Kd.R_celln 0 HO_5.out ((ji15) : Int) p18 q18
                            replace p18 := eq_true p18
                            replace q18 := eq_true q18
                            have HP24 := Kd.R_putg HO_5.out ((ji15) : Int) (Go.bits .or .u32 (rd x5_1 (ji15)) ((ji14) % 4294967296))
                            go_wp2_with (first | ((with_reducible refine gate_store (t := 119) (p := 43) rfl ?_); refine store_event (t := 119) (p := 43) (v := ?vo_w25) (w1 := (wr.setCell ⟨go18, ((ji15) : Int).toNat, none⟩ (.int .u32 (Go.bits .or .u32 (rd x5_1 (ji15)) ((ji14) % 4294967296))))) ?hg ?ho ?hn ?hr ?_; (case ho => rfl); (case hg => rfl); (case hn => rfl); (case hr => first | (go_simp; done) | (go_simp; rfl)); intro w25 hw; have hg : wr.grownBy w25 (some go18) := (by rw [hw]; exact HP24.2); have hp_ : Kd.R (Kd.int .u32) 119 w25 w.heap.size (fun k_ => (w.heap.size ≤ k_)) (.slice (some ⟨go18, 0, none⟩) x5_1.length co23) y325 := (by rw [hw, Ny325.out]; exact HP24.1); clear HP24; have n0_ := Aside0.mk (hp_); have n1_ := Aside0.mk ((by rw [hw]; exact below_set (HB.out) GB18.out : Below w.heap.size w w25)); clear HO_5; clear HB; have HO_5 := n0_; have HB := n1_; clear n0_ n1_; clear hg hw hp_; have p22 : 0 ≤ ((ji19) : Int) := of_decide_eq_true (by first | (with_reducible assumption) | assumption); have q22 : ((ji19) : Int) < ((x5_1.length : Int) : Int) := of_decide_eq_true (by first | (with_reducible assumption) | assumption); obtain ⟨hx22_0, hf22_0⟩ := Kd.R_celln 0 HO_5.out ((ji19) : Int) p22 q22; replace p22 := eq_true p22; replace q22 := eq_true q22; obtain ⟨hy26_, hz26_⟩ := Kd.R_celln 0 HO_5.out ((ji19) : Int) (of_decide_eq_true (by first | (with_reducible assumption) | assumption)) (of_decide_eq_true (by first | (with_reducible assumption) | assumption)); have HP26 := Kd.R_putg HO_5.out ((ji19) : Int) (((ji14) / 4294967296) % 4294967296)) | ((with_reducible refine gate_store (t := 119) (p := 54) rfl ?_); refine store_event (t := 119) (p := 54) (v := ?vo_w27) (w1 := (w25.setCell ⟨go18, ((ji19) : Int).toNat, none⟩ (.int .u32 (((ji14) / 4294967296) % 4294967296)))) ?hg ?ho ?hn ?hr ?_; (case ho => rfl); (case hg => rfl); (case hn => rfl); (case hr => first | (go_simp; done) | (go_simp; rfl)); intro w27 hw; have hg : w25.grownBy w27 (some go18) := (by rw [hw]; exact HP26.2); have hp_ : Kd.R (Kd.int .u32) 119 w27 w.heap.size (fun k_ => (w.heap.size ≤ k_)) (.slice (some ⟨go18, 0, none⟩) x5_1.length co23) y326 := (by rw [hw, Ny326.out]; exact HP26.1); clear HP26; have n0_ := Aside0.mk (hp_); have n1_ := Aside0.mk ((by rw [hw]; exact below_set (HB.out) GB18.out : Below w.heap.size w w27)); clear HO_5; clear HB; have HO_5 := n0_; have HB := n1_; clear n0_ n1_; clear hg hw hp_))
                            go_roundg k1
                            case measure => have := HK1.out; omega
                            case rel => exact ⟨(y326), (wrap64 (x22_1 + 1)), (by first | rfl | (simp; done) | (simp [*]; done)), H', ⟨by have := HK1.out; omega⟩, ⟨by (with_reducible repeat (first | apply Kd.R_alloc | apply Kd.R_drewN | apply Kd.R_drew)); exact HO_5.out⟩, ⟨by repeat (first | (with_reducible first | exact HB.out | apply below_alloc | apply pw_below_drewN | apply below_drew1) | exact HB.out)⟩⟩
                          · rw [if_neg c21] at H
                            exact absurd H (by simp)
                        · rw [if_neg c20] at H
                          exact absurd H (by simp)
                      · rw [if_neg c17] at H
                        exact absurd H (by simp)
                    · rw [if_neg c16] at H
                      exact absurd H (by simp)
                  · rw [if_neg c13] at H
                    exact absurd H (by simp)
                · rw [if_neg c11] at H
                  exact absurd H (by simp)
              · rw [if_neg c10] at H
                exact absurd H (by simp)
            · rw [if_neg c9] at H
              have c9b0 : decide (x22_1 < (l0.length : Int)) = false := decide_eq_false c9
              clear c9
              replace H := Option.bind_eq_some_iff.mp H
              obtain ⟨t327, A280, H⟩ := H
              replace H : (some t327) = some r := H
              have A28 := Aside0.mk A280
              clear A280
              obtain rfl := Option.some.inj H
              obtain ⟨Ao29, co29, eo29⟩ := Kd.R_slice HO_5.out
              subst eo29
              go_wp2_with (first | ((with_reducible refine gate_callee (f := 137) rfl ?_); refine goesL_ (some 57) rfl rfl Try.func137 (by kernel_rfl) rfl #[.slice Ao29 x5_1.length co29] rfl (by (try simp only [List.map_toArray, List.map_cons, List.map_nil]); first | done | rfl | (simp only [List.length_drop, List.length_take]; rfl)) ?_; (with_reducible refine (impl_magTrim.calls k1 (fun k_ => some k_ = (.slice Ao29 x5_1.length co29 : Value).ownBlock) _ _ x5_1 t327 _ ?side1 A28.out).mono ?_); (case side1 => exact Kd.R_V (Kd.R_tight rfl (HO_5.out))); rintro e w30 ⟨v328, rfl, ho0, hb⟩; refine ⟨_, rfl, ?_⟩; have n0_ := Aside0.mk (Kd.R_below (by (with_reducible repeat (first | apply Kd.R_alloc | apply Kd.R_drewN | apply Kd.R_drew)); exact HO_5.out) hb); have n1_ := Aside0.mk (Kd.V_lower (Kd.V_mono (ok' := fun k_ => (w.heap.size ≤ k_)) ho0 (fun k_ hk_ => Or.elim hk_ (fun hs_ => ((HO_5.out).1 k_ hs_.symm)) (fun hn_ => (Nat.le_trans (below_size (by repeat (first | (with_reducible first | exact HB.out | apply below_alloc | apply pw_below_drewN | apply below_drew1) | exact HB.out))) hn_)))) (below_size (by repeat (first | (with_reducible first | exact HB.out | apply below_alloc | apply pw_below_drewN | apply below_drew1) | exact HB.out)))); have n2_ := Aside0.mk (below_step (by repeat (first | (with_reducible first | exact HB.out | apply below_alloc | apply pw_below_drewN | apply below_drew1) | exact HB.out)) hb); clear HO_5; clear HB; have HO_5 := n0_; have HO329 := n1_; have HB := n2_; clear n0_ n1_ n2_; (try clear hb); (try clear hb2); (try clear hk); (try clear hi); (try clear ho0)))
              go_ret
              exact ⟨_, by first | rfl | (simp [errW_none, errW_some] <;> rfl) | (simp only [← hji4]; first | rfl | (simp [errW_none, errW_some] <;> rfl)) | (simp [*, errW_none, errW_some] <;> rfl), by (with_reducible repeat (first | apply Kd.V_alloc | apply Kd.V_drewN | apply Kd.V_drew)); exact HO329.out, by repeat (first | (with_reducible first | exact HB.out | apply below_alloc | apply pw_below_drewN | apply below_drew1) | exact HB.out)⟩
      · rw [if_neg c6] at H
        exact absurd H (by simp)
    · rw [if_neg c5] at H
      exact absurd H (by simp)
end Go.Proofs.Ytjddhnjjeomfjaa.PW
end
section
namespace Go.Proofs.Ytjddhnjjeomfjaa.PW
open Go.RowKit Go.Proofs.YtjddhnjjeomfjaaW.PrintWords Go.Proofs.YtjddhnjjeomfjaaW.PrintLast Go.Proofs.YtjddhnjjeomfjaaW.PrintMore
attribute [local go_sem] max2_int min2_int max_two min_two max_three min_three max_four min_four   -- for this text's walks alone
set_option linter.unusedVariables false
set_option linter.unusedSimpArgs false
def impl_magRight.l0 : Nat → List Int → Int → List Int → List Int → Int → Int → Option (List Int)
  | 0, _, _, _, _, _, _ => none
  | k + 1, x0, x1, x5, x22, x23, x24 => if x24 < x23 then (if 0 ≤ x24 then (if x24 < (x22.length : Int) then (if (wrap64 (x24 + 1)) < (x0.length : Int) then (if 0 ≤ (wrap64 (x24 + 1)) then (if 0 ≤ (Int.tmod x1 32) then (if x24 < (x5.length : Int) then (impl_magRight.l0 k x0 x1 (x5.set (x24 : Int).toNat ((shr .u64 (Go.bits .or .u64 (IntKind.u64.wrap (rd x22 x24)) (IntKind.u64.wrap ((IntKind.u64.wrap (rd x0 (wrap64 (x24 + 1)))) * 4294967296))) (Int.tmod x1 32)) % 4294967296)) x22 x23 (wrap64 (x24 + 1))) else (none)) else (none)) else (none)) else (if 0 ≤ (Int.tmod x1 32) then (if x24 < (x5.length : Int) then (impl_magRight.l0 k x0 x1 (x5.set (x24 : Int).toNat ((shr .u64 (IntKind.u64.wrap (rd x22 x24)) (Int.tmod x1 32)) % 4294967296)) x22 x23 (wrap64 (x24 + 1))) else (none)) else (none))) else (none)) else (none)) else ((impl_magTrim.f k x5).bind fun t342 => (some t342))
def impl_magRight.f (k : Nat) (l0 : List Int) (a1 : Int) : Option (List Int) := if (IntKind.u64.wrap ((l0.length : Int))) ≤ (IntKind.u64.wrap (Int.tdiv a1 32)) then (some ([] : List Int)) else (if 0 ≤ (IntKind.u64.wrap (Int.tdiv a1 32)) then (if (IntKind.u64.wrap (Int.tdiv a1 32)) ≤ (l0.length : Int) then (if 0 ≤ ((l0.drop ((IntKind.u64.wrap (Int.tdiv a1 32)) : Int).toNat).length : Int) then (if (((l0.drop ((IntKind.u64.wrap (Int.tdiv a1 32)) : Int).toNat).length : Int) : Int).toNat ≤ 70368744177664 then (impl_magRight.l0 k (l0.drop ((IntKind.u64.wrap (Int.tdiv a1 32)) : Int).toNat) a1 (List.replicate (((l0.drop ((IntKind.u64.wrap (Int.tdiv a1 32)) : Int).toNat).length : Int) : Int).toNat 0) (l0.drop ((IntKind.u64.wrap (Int.tdiv a1 32)) : Int).toNat) ((l0.drop ((IntKind.u64.wrap (Int.tdiv a1 32)) : Int).toNat).length : Int) 0) else (none)) else (none)) else (none)) else (none))
theorem impl_magRight.mono_l : ∀ k, (∀ y0 y1 y2 y3 y4 y5, LeO (impl_magRight.l0 k y0 y1 y2 y3 y4 y5) (impl_magRight.l0 (k + 1) y0 y1 y2 y3 y4 y5))
  | 0 => fun _ _ _ _ _ _ r h => by simp [impl_magRight.l0] at h
  | k + 1 => by
    have ih0 := impl_magRight.mono_l k
    · intro y0 y1 y2 y3 y4 y5
      unfold impl_magRight.l0
      repeat' first
      | (with_reducible exact ih0 _ _ _ _ _ _)
      | (with_reducible exact impl_magTrim.mono _ _)
      | (with_reducible exact LeO.refl _)
      | (with_reducible exact LeO.none _)
      | (with_reducible refine LeO.ite ?_ ?_)
      | (with_reducible refine LeO.bind ?_ (fun _ => ?_))
      | exact ih0 _ _ _ _ _ _
      | exact impl_magTrim.mono _ _
      | exact LeO.none _
      | refine LeO.ite ?_ ?_
      | refine LeO.bind ?_ (fun _ => ?_)
theorem impl_magRight.mono : ∀ a0 a1 k, LeO (impl_magRight.f k a0 a1) (impl_magRight.f (k + 1) a0 a1) := by
  intro a0 a1 k
  have ih0 := impl_magRight.mono_l k
  unfold impl_magRight.f
  repeat' first
      | (with_reducible exact ih0 _ _ _ _ _ _)
      | (with_reducible exact impl_magTrim.mono _ _)
      | (with_reducible exact LeO.refl _)
      | (with_reducible exact LeO.none _)
      | (with_reducible refine LeO.ite ?_ ?_)
      | (with_reducible refine LeO.bind ?_ (fun _ => ?_))
      | exact ih0 _ _ _ _ _ _
      | exact impl_magTrim.mono _ _
      | exact LeO.none _
      | refine LeO.ite ?_ ?_
      | refine LeO.bind ?_ (fun _ => ?_)
set_option maxHeartbeats 8000000 in
set_option maxRecDepth 100000 in
theorem impl_magRight.calls (k : Nat) (A0 : Option Addr) (c0 : Nat) (l0 : List Int) (a1 : Int) (r : List Int) (w : World) (hr0 : Kd.C (Kd.int .u32) w A0 l0.length l0) (hc0 : l0.length ≤ c0) (h : impl_magRight.f k l0 a1 = some r) :
    Calls Try.prog 116 #[.slice A0 l0.length c0, .int .u64 a1] w fun e w' => ∃ v0_ : Value, e = .returned (v0_) ∧ Kd.V (Kd.int .u32) 119 w' w.heap.size (fun k_ => (w.heap.size ≤ k_)) v0_ r ∧ Below w.heap.size w w' := by
  have HR0 := Aside0.mk hr0
  have HC0 := Aside0.mk hc0
  clear hr0 hc0
  have HB := Aside0.mk (Below.refl w.heap.size w)
  have H : (if (IntKind.u64.wrap ((l0.length : Int))) ≤ (IntKind.u64.wrap (Int.tdiv a1 32)) then (some ([] : List Int)) else (if 0 ≤ (IntKind.u64.wrap (Int.tdiv a1 32)) then (if (IntKind.u64.wrap (Int.tdiv a1 32)) ≤ (l0.length : Int) then (if 0 ≤ ((l0.drop ((IntKind.u64.wrap (Int.tdiv a1 32)) : Int).toNat).length : Int) then (if (((l0.drop ((IntKind.u64.wrap (Int.tdiv a1 32)) : Int).toNat).length : Int) : Int).toNat ≤ 70368744177664 then (impl_magRight.l0 k (l0.drop ((IntKind.u64.wrap (Int.tdiv a1 32)) : Int).toNat) a1 (List.replicate (((l0.drop ((IntKind.u64.wrap (Int.tdiv a1 32)) : Int).toNat).length : Int) : Int).toNat 0) (l0.drop ((IntKind.u64.wrap (Int.tdiv a1 32)) : Int).toNat) ((l0.drop ((IntKind.u64.wrap (Int.tdiv a1 32)) : Int).toNat).length : Int) 0) else (none)) else (none)) else (none)) else (none))) = some r := h
  clear h
  by_cases c3 : (IntKind.u64.wrap ((l0.length : Int))) ≤ (IntKind.u64.wrap (Int.tdiv a1 32))
  · rw [if_pos c3] at H
    have c3b0 : decide ((IntKind.u64.wrap ((l0.length : Int))) ≤ (IntKind.u64.wrap (Int.tdiv a1 32))) = true := decide_eq_true c3
    clear c3
    obtain rfl := Option.some.inj H
    go_enter Try.func116, Try.ntmps116
    go_wp2
    go_ret
    exact ⟨.slice none 0 0, by first | rfl | (simp [errW_none, errW_some] <;> rfl) | (simp [*, errW_none, errW_some] <;> rfl), Kd.V_nil _ _ _ _ _, by repeat (first | (with_reducible first | exact HB.out | apply below_alloc | apply pw_below_drewN | apply below_drew1) | exact HB.out)⟩
  · rw [if_neg c3] at H
    have c3b0 : decide ((IntKind.u64.wrap ((l0.length : Int))) ≤ (IntKind.u64.wrap (Int.tdiv a1 32))) = false := decide_eq_false c3
    clear c3
    obtain ⟨ji4, hji4⟩ : ∃ j_ : Int, (IntKind.u64.wrap (Int.tdiv a1 32)) = j_ := ⟨_, rfl⟩
    replace H : (if 0 ≤ (ji4) then (if (ji4) ≤ (l0.length : Int) then (if 0 ≤ ((l0.drop ((ji4) : Int).toNat).length : Int) then (if (((l0.drop ((ji4) : Int).toNat).length : Int) : Int).toNat ≤ 70368744177664 then (impl_magRight.l0 k (l0.drop ((ji4) : Int).toNat) a1 (List.replicate (((l0.drop ((ji4) : Int).toNat).length : Int) : Int).toNat 0) (l0.drop ((ji4) : Int).toNat) ((l0.drop ((ji4) : Int).toNat).length : Int) 0) else (none)) else (none)) else (none)) else (none)) = some r := by first | (rw [hji4] at H; exact H) | (simp only [hji4] at H ⊢; exact H)
    (try rw [hji4] at c3b0)
    by_cases c5 : 0 ≤ (ji4)
    · rw [if_pos c5] at H
      have c5b0 := eq_true c5
      have c5b1 : decide (0 ≤ (ji4)) = true := decide_eq_true c5
      clear c5
      by_cases c6 : (ji4) ≤ (l0.length : Int)
      · rw [if_pos c6] at H
        have c6b0 := eq_true c6
        have c6b1 : decide ((ji4) ≤ (l0.length : Int)) = true := decide_eq_true c6
        clear c6
        by_cases c7 : 0 ≤ ((l0.drop ((ji4) : Int).toNat).length : Int)
        · rw [if_pos c7] at H
          have c7b0 := eq_true c7
          have c7b1 : decide (0 ≤ ((l0.drop ((ji4) : Int).toNat).length : Int)) = true := decide_eq_true c7
          clear c7
          by_cases c8 : (((l0.drop ((ji4) : Int).toNat).length : Int) : Int).toNat ≤ 70368744177664
          · rw [if_pos c8] at H
            have c8b0 := eq_true c8
            have c8b1 : decide ((((l0.drop ((ji4) : Int).toNat).length : Int) : Int).toNat ≤ 70368744177664) = true := decide_eq_true c8
            clear c8
            obtain ⟨y335, hy335⟩ : ∃ y_ : List Int, y_ = (List.replicate (((l0.drop ((ji4) : Int).toNat).length : Int) : Int).toNat 0) := ⟨_, rfl⟩
            replace H : (impl_magRight.l0 k (l0.drop ((ji4) : Int).toNat) a1 y335 (l0.drop ((ji4) : Int).toNat) ((l0.drop ((ji4) : Int).toNat).length : Int) 0) = some r := by first | (rw [hy335]; with_reducible exact H) | (have H2_ := (Option.bind_some _ _).symm.trans H; rw [hy335]; with_reducible exact H2_) | (have H2_ := (Option.bind_some _ _).symm.trans H; with_reducible exact H2_) | with_reducible exact H | (rw [hy335]; exact H) | exact H
            have Ny335 := Aside0.mk hy335
            clear hy335
            have H' := Aside0.mk H
            clear H
            obtain ⟨i09, hi09, _, hsz9, _⟩ := info_parts info119
            obtain ⟨A9, hcut9, hA9, hC9⟩ := print_drop_of (P := Try.prog) (Value.int .u32) 0 87 119 .u64 Try.underlying87 hi09 hsz9 A0 c0 l0 (ji4) (of_decide_eq_true (by first | (with_reducible assumption) | assumption)) (of_decide_eq_true (by first | (with_reducible assumption) | assumption)) HC0.out
            have HR334 := Aside0.mk (Kd.C_of_reads (h1 := fun _ => rfl) (hA9 _ (Kd.reads_of_C HR0.out)))
            have HC334 := Aside0.mk hC9
            clear hA9 hC9 hi09 hsz9
            generalize hm0_ : l0.drop ((ji4) : Int).toNat = m0_ at *
            have Hm0_ := Aside0.mk hm0_
            clear hm0_
            go_enter Try.func116, Try.ntmps116
            go_wp2_with (first | ((with_reducible refine gate_dst (N := 21) rfl ?_); refine Kd.R_make (Kd.int .u32) _ 119 rfl (N := 21) rfl 87 _ _ rfl (m0_.length : Int) rfl rfl Try.underlying87 (.int .u32 0) 4 info119 rfl (by decide) (by omega) 0 (ok := fun _ => True) (okp := fun _ => True) rfl (fun _ hk => hk) trivial (of_decide_eq_true (by first | (with_reducible assumption) | assumption)) (Nat.le_trans (Nat.mul_le_mul_right _ (of_decide_eq_true (by first | (with_reducible assumption) | assumption) : (m0_.length : Int).toNat ≤ 70368744177664)) (by omega)) (Below.refl _ _) (Nat.le_refl _) ?_; intro v336 w10 ho11 hb hg_ hnew_; clear hg_ hnew_; (first | rw [← Ny335.out] at ho11 | (simp only [Int.reduceToNat] at ho11; rw [← Ny335.out] at ho11)); have n0_ := Aside0.mk (Kd.R_lower (Kd.R_newM (M := fun k_ => (w.heap.size ≤ k_)) ho11 (below_size (by repeat (first | (with_reducible first | exact HB.out | apply below_alloc | apply pw_below_drewN | apply below_drew1) | exact HB.out))) (fun k_ h_ => h_)) (below_size (by repeat (first | (with_reducible first | exact HB.out | apply below_alloc | apply pw_below_drewN | apply below_drew1) | exact HB.out)))); have n1_ := Aside0.mk (below_step (by repeat (first | (with_reducible first | exact HB.out | apply below_alloc | apply pw_below_drewN | apply below_drew1) | exact HB.out)) hb); clear HB; have HO337 := n0_; have HB := n1_; clear n0_ n1_; clear hb ho11))
            go_loopg [24] k (fun kq v24 w' => ∃ (x5_1 : List Int) (x24_1 : Int), v24 = .int .i64 x24_1 ∧ Aside0 (impl_magRight.l0 kq m0_ a1 x5_1 m0_ (m0_.length : Int) x24_1 = some r) ∧ Aside0 (kq ≤ k) ∧ Aside0 (Kd.R (Kd.int .u32) 119 w' w.heap.size (fun k_ => (w.heap.size ≤ k_)) v336 x5_1) ∧ Aside0 (Below w.heap.size w w'))
            case atStart => exact ⟨(y335), (0), (by first | rfl | (simp; done) | (simp [*]; done)), H', ⟨Nat.le_refl _⟩, ⟨by (with_reducible repeat (first | apply Kd.R_alloc | apply Kd.R_drewN | apply Kd.R_drew)); exact Kd.R_mono HO337.out (fun _ hk => hk.1)⟩, ⟨by repeat (first | (with_reducible first | exact HB.out | apply below_alloc | apply pw_below_drewN | apply below_drew1) | exact HB.out)⟩⟩
            case round =>
              clear H'
              try clear c1
              try clear p2
              try clear c3
              try clear c3b0
              try clear c5
              try clear c5b0
              try clear c5b1
              try clear c6
              try clear c6b0
              try clear c6b1
              try clear c7
              try clear c7b0
              try clear c7b1
              try clear c8
              try clear c8b0
              try clear c8b1
              try clear c11
              obtain ⟨x5_1, x24_1, rfl, HA, HK1, HO_5, HB⟩ := hrel
              cases gk with
              | zero => exact absurd HA.out (by simp [impl_magRight.l0])
              | succ k1 =>
                have H := HA.out
                clear HA
                simp only [impl_magRight.l0] at H
                by_cases c12 : x24_1 < (m0_.length : Int)
                · rw [if_pos c12] at H
                  have c12b0 : decide (x24_1 < (m0_.length : Int)) = true := decide_eq_true c12
                  clear c12
                  by_cases c13 : 0 ≤ x24_1
                  · rw [if_pos c13] at H
                    have c13b0 : decide (0 ≤ x24_1) = true := decide_eq_true c13
                    clear c13
                    by_cases c14 : x24_1 < (m0_.length : Int)
                    · rw [if_pos c14] at H
                      have c14b0 : decide (x24_1 < (m0_.length : Int)) = true := decide_eq_true c14
                      clear c14
                      by_cases c15 : (wrap64 (x24_1 + 1)) < (m0_.length : Int)
                      · rw [if_pos c15] at H
                        have c15b0 : decide ((wrap64 (x24_1 + 1)) < (m0_.length : Int)) = true := decide_eq_true c15
                        clear c15
                        obtain ⟨ji16, hji16⟩ : ∃ j_ : Int, (wrap64 (x24_1 + 1)) = j_ := ⟨_, rfl⟩
                        replace H : (if 0 ≤ (ji16) then (if 0 ≤ (Int.tmod a1 32) then (if x24_1 < (x5_1.length : Int) then (impl_magRight.l0 k1 m0_ a1 (x5_1.set (x24_1 : Int).toNat ((shr .u64 (Go.bits .or .u64 (IntKind.u64.wrap (rd m0_ x24_1)) (IntKind.u64.wrap ((IntKind.u64.wrap (rd m0_ (ji16))) * 4294967296))) (Int.tmod a1 32)) % 4294967296)) m0_ (m0_.length : Int) ji16) else (none)) else (none)) else (none)) = some r := by first | (rw [hji16] at H; exact H) | (simp only [hji16] at H ⊢; exact H)
                        (try rw [hji16] at c15b0)
                        have hji16w : (IntKind.i64.wrap (x24_1 + 1)) = ji16 := (i64_w _).trans hji16
                        by_cases c17 : 0 ≤ (ji16)
                        · rw [if_pos c17] at H
                          have c17b0 : decide (0 ≤ (ji16)) = true := decide_eq_true c17
                          clear c17
                          obtain ⟨ji18, hji18⟩ : ∃ j_ : Int, (Int.tmod a1 32) = j_ := ⟨_, rfl⟩
                          replace H : (if 0 ≤ (ji18) then (if x24_1 < (x5_1.length : Int) then (impl_magRight.l0 k1 m0_ a1 (x5_1.set (x24_1 : Int).toNat ((shr .u64 (Go.bits .or .u64 (IntKind.u64.wrap (rd m0_ x24_1)) (IntKind.u64.wrap ((IntKind.u64.wrap (rd m0_ (ji16))) * 4294967296))) (ji18)) % 4294967296)) m0_ (m0_.length : Int) ji16) else (none)) else (none)) = some r := by first | (rw [hji18] at H; exact H) | (simp only [hji18] at H ⊢; exact H)
                          by_cases c19 : 0 ≤ (ji18)
                          · rw [if_pos c19] at H
                            have c19b0 := eq_true c19
                            have c19b1 : decide (0 ≤ (ji18)) = true := decide_eq_true c19
                            clear c19
                            obtain ⟨ji20, hji20⟩ : ∃ j_ : Int, (shr .u64 (Go.bits .or .u64 (IntKind.u64.wrap (rd m0_ x24_1)) (IntKind.u64.wrap ((IntKind.u64.wrap (rd m0_ (ji16))) * 4294967296))) (ji18)) = j_ := ⟨_, rfl⟩
                            replace H : (if x24_1 < (x5_1.length : Int) then (impl_magRight.l0 k1 m0_ a1 (x5_1.set (x24_1 : Int).toNat ((ji20) % 4294967296)) m0_ (m0_.length : Int) ji16) else (none)) = some r := by first | (rw [hji20] at H; exact H) | (simp only [hji20] at H ⊢; exact H)
                            have hji20_ : ((Go.bits .or .u64 (IntKind.u64.wrap (rd m0_ x24_1)) (IntKind.u64.wrap ((IntKind.u64.wrap (rd m0_ (ji16))) * 4294967296))) / 2 ^ min (ji18).toNat 64) = ji20 := hji20
                            have hji20z : (ji18) ≤ 64 → ((Go.bits .or .u64 (IntKind.u64.wrap (rd m0_ x24_1)) (IntKind.u64.wrap ((IntKind.u64.wrap (rd m0_ (ji16))) * 4294967296))) / 2 ^ (ji18).toNat) = ji20 := shr_small hji20
                            by_cases c21 : x24_1 < (x5_1.length : Int)
                            · rw [if_pos c21] at H
                              have c21b0 : decide (x24_1 < (x5_1.length : Int)) = true := decide_eq_true c21
                              clear c21
                              obtain ⟨y340, hy340⟩ : ∃ y_ : List Int, y_ = (x5_1.set (x24_1 : Int).toNat ((ji20) % 4294967296)) := ⟨_, rfl⟩
                              replace H : (impl_magRight.l0 k1 m0_ a1 y340 m0_ (m0_.length : Int) ji16) = some r := by first | (rw [hy340]; with_reducible exact H) | (have H2_ := (Option.bind_some _ _).symm.trans H; rw [hy340]; with_reducible exact H2_) | (have H2_ := (Option.bind_some _ _).symm.trans H; with_reducible exact H2_) | with_reducible exact H | (rw [hy340]; exact H) | exact H
                              have Ny340 := Aside0.mk hy340
                              clear hy340
                              have H' := Aside0.mk H
                              clear H
                              have p338 : 0 ≤ (x24_1 : Int) := of_decide_eq_true (by first | (with_reducible assumption) | assumption)
                              have q338 : x24_1 < (m0_.length : Int) := of_decide_eq_true (by first | (with_reducible assumption) | assumption)
                              obtain ⟨ad338, e338, hx338_0⟩ := Kd.at_int HR334.out x24_1 p338 q338
                              cases e338
                              replace hx338_0 := (HB.out.cell (World.block_lt_of_cell? w _ hx338_0)).trans hx338_0
                              replace p338 := eq_true p338
                              replace q338 := eq_true q338
                              have p339 : 0 ≤ ((ji16) : Int) := of_decide_eq_true (by first | (with_reducible assumption) | assumption)
                              have q339 : (ji16) < (m0_.length : Int) := of_decide_eq_true (by first | (with_reducible assumption) | assumption)
                              obtain ⟨ad339, e339, hx339_0⟩ := Kd.at_int HR334.out (ji16) p339 q339
                              obtain rfl : ad338 = ad339 := (by injection e339)
                              replace hx339_0 := (HB.out.cell (World.block_lt_of_cell? w _ hx339_0)).trans hx339_0
                              replace p339 := eq_true p339
                              replace q339 := eq_true q339
                              have p22 : 0 ≤ (x24_1 : Int) := of_decide_eq_true (by first | (with_reducible assumption) | assumption)
                              have q22 : (x24_1 : Int) < ((x5_1.length : Int) : Int) := of_decide_eq_true (by first | (with_reducible assumption) | assumption)
                              obtain ⟨go22, co22, eo22, gb22, gl22, cl22, HG22⟩ := Kd.R_form HO_5.out (by omega)
                              (first | cases eo22 | (injection eo22 with ea_ en_ ec_; (first | subst ea_ | (injection ea_ with ea_; subst ea_)); subst ec_; clear en_))
                              have GB22 := Aside0.mk gb22
                              have GG22 := Aside0.mk HG22
                              clear gb22 gl22 HG22
                              obtain ⟨hx22_0, hf22_0⟩ := Kd.R_celln 0 HO_5.out (x24_1 : Int) p22 q22
                              replace p22 := eq_true p22
                              replace q22 := eq_true q22
                              have HP23 := Kd.R_putg HO_5.out (x24_1 : Int) ((ji20) % 4294967296)
                              go_wp2_with (first | ((with_reducible refine gate_store (t := 119) (p := 52) rfl ?_); refine store_event (t := 119) (p := 52) (v := ?vo_w24) (w1 := (wr.setCell ⟨go22, (x24_1 : Int).toNat, none⟩ (.int .u32 ((ji20) % 4294967296)))) ?hg ?ho ?hn ?hr ?_; (case ho => rfl); (case hg => rfl); (case hn => rfl); (case hr => first | (go_simp; done) | (go_simp; rfl)); intro w24 hw; have hg : wr.grownBy w24 (some go22) := (by rw [hw]; exact HP23.2); have hp_ : Kd.R (Kd.int .u32) 119 w24 w.heap.size (fun k_ => (w.heap.size ≤ k_)) (.slice (some ⟨go22, 0, none⟩) x5_1.length co22) y340 := (by rw [hw, Ny340.out]; exact HP23.1); clear HP23; have n0_ := Aside0.mk (hp_); have n1_ := Aside0.mk ((by rw [hw]; exact below_set (HB.out) GB22.out : Below w.heap.size w w24)); clear HO_5; clear HB; have HO_5 := n0_; have HB := n1_; clear n0_ n1_; clear hg hw hp_))
                              go_roundg k1
                              case measure => have := HK1.out; omega
                              case rel => exact ⟨(y340), (ji16), (by first | rfl | (simp; done) | (simp only [← hji16] <;> (first | rfl | simp)) | (simp [*]; done)), H', ⟨by have := HK1.out; omega⟩, ⟨by (with_reducible repeat (first | apply Kd.R_alloc | apply Kd.R_drewN | apply Kd.R_drew)); exact HO_5.out⟩, ⟨by repeat (first | (with_reducible first | exact HB.out | apply below_alloc | apply pw_below_drewN | apply below_drew1) | exact HB.out)⟩⟩
                            · rw [if_neg c21] at H
                              exact absurd H (by simp)
                          · rw [if_neg c19] at H
                            exact absurd H (by simp)
                        · rw [if_neg c17] at H
                          exact absurd H (by simp)
                      · rw [if_neg c15] at H
                        have c15b0 : decide ((wrap64 (x24_1 + 1)) < (m0_.length : Int)) = false := decide_eq_false c15
                        clear c15
                        obtain ⟨ji25, hji25⟩ : ∃ j_ : Int, (Int.tmod a1 32) = j_ := ⟨_, rfl⟩
                        replace H : (if 0 ≤ (ji25) then (if x24_1 < (x5_1.length : Int) then (impl_magRight.l0 k1 m0_ a1 (x5_1.set (x24_1 : Int).toNat ((shr .u64 (IntKind.u64.wrap (rd m0_ x24_1)) (ji25)) % 4294967296)) m0_ (m0_.length : Int) (wrap64 (x24_1 + 1))) else (none)) else (none)) = some r := by first | (rw [hji25] at H; exact H) | (simp only [hji25] at H ⊢; exact H)
                        by_cases c26 : 0 ≤ (ji25)
                        · rw [if_pos c26] at H
                          have c26b0 := eq_true c26
                          have c26b1 : decide (0 ≤ (ji25)) = true := decide_eq_true c26
                          clear c26
                          obtain ⟨ji27, hji27⟩ : ∃ j_ : Int, (shr .u64 (IntKind.u64.wrap (rd m0_ x24_1)) (ji25)) = j_ := ⟨_, rfl⟩
                          replace H : (if x24_1 < (x5_1.length : Int) then (impl_magRight.l0 k1 m0_ a1 (x5_1.set (x24_1 : Int).toNat ((ji27) % 4294967296)) m0_ (m0_.length : Int) (wrap64 (x24_1 + 1))) else (none)) = some r := by first | (rw [hji27] at H; exact H) | (simp only [hji27] at H ⊢; exact H)
                          have hji27_ : ((IntKind.u64.wrap (rd m0_ x24_1)) / 2 ^ min (ji25).toNat 64) = ji27 := hji27
                          have hji27z : (ji25) ≤ 64 → ((IntKind.u64.wrap (rd m0_ x24_1)) / 2 ^ (ji25).toNat) = ji27 := shr_small hji27
                          by_cases c28 : x24_1 < (x5_1.length : Int)
                          · rw [if_pos c28] at H
                            have c28b0 : decide (x24_1 < (x5_1.length : Int)) = true := decide_eq_true c28
                            clear c28
                            obtain ⟨y341, hy341⟩ : ∃ y_ : List Int, y_ = (x5_1.set (x24_1 : Int).toNat ((ji27) % 4294967296)) := ⟨_, rfl⟩
                            replace H : (impl_magRight.l0 k1 m0_ a1 y341 m0_ (m0_.length : Int) (wrap64 (x24_1 + 1))) = some r := by first | (rw [hy341]; with_reducible exact H) | (have H2_ := (Option.bind_some _ _).symm.trans H; rw [hy341]; with_reducible exact H2_) | (have H2_ := (Option.bind_some _ _).symm.trans H; with_reducible exact H2_) | with_reducible exact H | (rw [hy341]; exact H) | exact H
                            have Ny341 := Aside0.mk hy341
                            clear hy341
                            have H' := Aside0.mk H
                            clear H
                            have p338 : 0 ≤ (x24_1 : Int) := of_decide_eq_true (by first | (with_reducible assumption) | assumption)
                            have q338 : x24_1 < (m0_.length : Int) := of_decide_eq_true (by first | (with_reducible assumption) | assumption)
                            obtain ⟨ad338, e338, hx338_0⟩ := Kd.at_int HR334.out x24_1 p338 q338
                            cases e338
                            replace hx338_0 := (HB.out.cell (World.block_lt_of_cell? w _ hx338_0)).trans hx338_0
                            replace p338 := eq_true p338
                            replace q338 := eq_true q338
                            have p29 : 0 ≤ (x24_1 : Int) := of_decide_eq_true (by first | (with_reducible assumption) | assumption)
                            have q29 : (x24_1 : Int) < ((x5_1.length : Int) : Int) := of_decide_eq_true (by first | (with_reducible assumption) | assumption)
                            obtain ⟨go29, co29, eo29, gb29, gl29, cl29, HG29⟩ := Kd.R_form HO_5.out (by omega)
                            (first | cases eo29 | (injection eo29 with ea_ en_ ec_; (first | subst ea_ | (injection ea_ with ea_; subst ea_)); subst ec_; clear en_))
                            have GB29 := Aside0.mk gb29
                            have GG29 := Aside0.mk HG29
                            clear gb29 gl29 HG29
                            obtain ⟨hx29_0, hf29_0⟩ := Kd.R_celln 0 HO_5.out (x24_1 : Int) p29 q29
                            replace p29 := eq_true p29
                            replace q29 := eq_true q29
                            have HP30 := Kd.R_putg HO_5.out (x24_1 : Int) ((ji27) % 4294967296)
                            go_wp2_with (first | ((with_reducible refine gate_store (t := 119) (p := 52) rfl ?_); refine store_event (t := 119) (p := 52) (v := ?vo_w31) (w1 := (wr.setCell ⟨go29, (x24_1 : Int).toNat, none⟩ (.int .u32 ((ji27) % 4294967296)))) ?hg ?ho ?hn ?hr ?_; (case ho => rfl); (case hg => rfl); (case hn => rfl); (case hr => first | (go_simp; done) | (go_simp; rfl)); intro w31 hw; have hg : wr.grownBy w31 (some go29) := (by rw [hw]; exact HP30.2); have hp_ : Kd.R (Kd.int .u32) 119 w31 w.heap.size (fun k_ => (w.heap.size ≤ k_)) (.slice (some ⟨go29, 0, none⟩) x5_1.length co29) y341 := (by rw [hw, Ny341.out]; exact HP30.1); clear HP30; have n0_ := Aside0.mk (hp_); have n1_ := Aside0.mk ((by rw [hw]; exact below_set (HB.out) GB29.out : Below w.heap.size w w31)); clear HO_5; clear HB; have HO_5 := n0_; have HB := n1_; clear n0_ n1_; clear hg hw hp_))
                            go_roundg k1
                            case measure => have := HK1.out; omega
                            case rel => exact ⟨(y341), (wrap64 (x24_1 + 1)), (by first | rfl | (simp; done) | (simp [*]; done)), H', ⟨by have := HK1.out; omega⟩, ⟨by (with_reducible repeat (first | apply Kd.R_alloc | apply Kd.R_drewN | apply Kd.R_drew)); exact HO_5.out⟩, ⟨by repeat (first | (with_reducible first | exact HB.out | apply below_alloc | apply pw_below_drewN | apply below_drew1) | exact HB.out)⟩⟩
                          · rw [if_neg c28] at H
                            exact absurd H (by simp)
                        · rw [if_neg c26] at H
                          exact absurd H (by simp)
                    · rw [if_neg c14] at H
                      exact absurd H (by simp)
                  · rw [if_neg c13] at H
                    exact absurd H (by simp)
                · rw [if_neg c12] at H
                  have c12b0 : decide (x24_1 < (m0_.length : Int)) = false := decide_eq_false c12
                  clear c12
                  replace H := Option.bind_eq_some_iff.mp H
                  obtain ⟨t342, A320, H⟩ := H
                  replace H : (some t342) = some r := H
                  have A32 := Aside0.mk A320
                  clear A320
                  obtain rfl := Option.some.inj H
                  obtain ⟨Ao33, co33, eo33⟩ := Kd.R_slice HO_5.out
                  subst eo33
                  go_wp2_with (first | ((with_reducible refine gate_callee (f := 137) rfl ?_); refine goesL_ (some 55) rfl rfl Try.func137 (by kernel_rfl) rfl #[.slice Ao33 x5_1.length co33] rfl (by (try simp only [List.map_toArray, List.map_cons, List.map_nil]); first | done | rfl | (simp only [List.length_drop, List.length_take]; rfl)) ?_; (with_reducible refine (impl_magTrim.calls k1 (fun k_ => some k_ = (.slice Ao33 x5_1.length co33 : Value).ownBlock) _ _ x5_1 t342 _ ?side1 A32.out).mono ?_); (case side1 => exact Kd.R_V (Kd.R_tight rfl (HO_5.out))); rintro e w34 ⟨v343, rfl, ho0, hb⟩; refine ⟨_, rfl, ?_⟩; have n0_ := Aside0.mk (Kd.R_below (by (with_reducible repeat (first | apply Kd.R_alloc | apply Kd.R_drewN | apply Kd.R_drew)); exact HO_5.out) hb); have n1_ := Aside0.mk (Kd.V_lower (Kd.V_mono (ok' := fun k_ => (w.heap.size ≤ k_)) ho0 (fun k_ hk_ => Or.elim hk_ (fun hs_ => ((HO_5.out).1 k_ hs_.symm)) (fun hn_ => (Nat.le_trans (below_size (by repeat (first | (with_reducible first | exact HB.out | apply below_alloc | apply pw_below_drewN | apply below_drew1) | exact HB.out))) hn_)))) (below_size (by repeat (first | (with_reducible first | exact HB.out | apply below_alloc | apply pw_below_drewN | apply below_drew1) | exact HB.out)))); have n2_ := Aside0.mk (below_step (by repeat (first | (with_reducible first | exact HB.out | apply below_alloc | apply pw_below_drewN | apply below_drew1) | exact HB.out)) hb); clear HO_5; clear HB; have HO_5 := n0_; have HO344 := n1_; have HB := n2_; clear n0_ n1_ n2_; (try clear hb); (try clear hb2); (try clear hk); (try clear hi); (try clear ho0)))
                  go_ret
                  exact ⟨_, by first | rfl | (simp [errW_none, errW_some] <;> rfl) | (simp only [← hji4]; first | rfl | (simp [errW_none, errW_some] <;> rfl)) | (simp [*, errW_none, errW_some] <;> rfl), by (with_reducible repeat (first | apply Kd.V_alloc | apply Kd.V_drewN | apply Kd.V_drew)); exact HO344.out, by repeat (first | (with_reducible first | exact HB.out | apply below_alloc | apply pw_below_drewN | apply below_drew1) | exact HB.out)⟩
          · rw [if_neg c8] at H
            exact absurd H (by simp)
        · rw [if_neg c7] at H
          exact absurd H (by simp)
      · rw [if_neg c6] at H
        exact absurd H (by simp)
    · rw [if_neg c5] at H
      exact absurd H (by simp)
end Go.Proofs.Ytjddhnjjeomfjaa.PW
end
section
namespace Go.Proofs.Ytjddhnjjeomfjaa.Pn
open Go.RowKit Go.Proofs.YtjddhnjjeomfjaaW.PrintWords Go.Proofs.YtjddhnjjeomfjaaW.PrintMore Go.Proofs.Ytjddhnjjeomfjaa.PW Go.Proofs.Ytjddhnjjeomfjaa.Pc Dg
set_option linter.unusedVariables false
set_option linter.unusedSimpArgs false
theorem u64_id {n : Int} (h0 : 0 ≤ n) (h1 : n < 18446744073709551616) : IntKind.u64.wrap n = n := by rw [IntKind.wrap_u64]; omega
theorem trimD {ys : List Int} {n : Nat} (hd : Dig 4294967296 ys) (hl : ys.length ≤ 1099511627776) (hv : val 4294967296 ys = n) : Ev (fun k => (impl_magTrim.f k ys).bind fun t => some t) (D n) := by
  have := Pm.trim _ ys rfl hd hl
  rw [hv, Int.toNat_natCast] at this
  exact Ev.bind (f := fun _ t => some t) this (ev_of fun _ => rfl)
theorem add_loop (a b : List Int) (ha : Dig 4294967296 a) (hb : Dig 4294967296 b) (hab : b.length ≤ a.length) (hm : a.length ≤ 1073741824) (s : Nat) (hs : val 4294967296 a + val 4294967296 b = s) (d : Nat) :
    ∀ (i : Nat) (ys : List Int) (c : Int), i + d = a.length → ys.length = a.length + 1 → Dig 4294967296 ys → 0 ≤ c → c ≤ 1 →
      val 4294967296 (ys.take i) + 4294967296 ^ i * c = val 4294967296 (a.take i) + val 4294967296 (b.take i) →
      Ev (fun k => impl_magAdd.l0 k a b ys c a (a.length : Int) (i : Int)) (D s) := by
  induction d with
  | zero =>
    intro i ys c hd hy hdy hc0 hc1 hinv
    have hi : i = a.length := by omega
    subst hi
    have hdig : Dig 4294967296 (ys.set a.length c) := hdy.set _ hc0 (by omega)
    have hval : val 4294967296 (ys.set a.length c) = s := by
      have h1 := val_set_take (B := 4294967296) (l := ys) (i := a.length) (by omega) c
      rw [List.take_of_length_le (by simp <;> omega)] at h1
      rw [h1]
      rw [List.take_length, val_take_ge hab, hs] at hinv
      exact hinv
    refine Ev.step (f := fun k => (impl_magTrim.f k (ys.set a.length c)).bind fun t => some t) (fun k => ?_) (trimD hdig (by simp <;> omega) hval)
    simp only [impl_magAdd.l0]
    rw [if_neg (by omega), if_pos (by omega), if_pos (by omega), Int.toNat_natCast, show c % 4294967296 = c by omega]
  | succ d ih =>
    intro i ys c hd hy hdy hc0 hc1 hinv
    have hai := ha.all0 (by decide) i
    have hbi := hb.all0 (by decide) i
    obtain ⟨x, hx⟩ : ∃ x, x = a.getD i 0 + b.getD i 0 + c := ⟨_, rfl⟩
    have hx0 : 0 ≤ x := by omega
    have hx1 : x ≤ 8589934591 := by omega
    have hstep := Ev.step (g := fun k => impl_magAdd.l0 k a b ys c a (a.length : Int) (i : Int)) (f := fun k => impl_magAdd.l0 k a b (ys.set i (x % 4294967296)) (x / 4294967296) a (a.length : Int) ((i + 1 : Nat) : Int)) (fun k => ?_)
      (ih (i + 1) _ (x / 4294967296) (by omega) (by simpa using hy) (hdy.set _ (by omega) (by omega)) (by omega) (by omega) ?_)
    · exact hstep
    · simp only [impl_magAdd.l0]
      rw [if_pos (by omega), if_pos (by omega), if_pos (by omega), rdN, rdN, wrapZ _ (by omega) (by omega)]
      by_cases hib : i < b.length
      · rw [if_pos (by omega), if_pos (by omega), u64_id (n := a.getD i 0) (by omega) (by omega), u64_id (n := c + _) (by omega) (by omega), u64_id (n := b.getD i 0) (by omega) (by omega), u64_id (by omega) (by omega)]
        rw [show c + a.getD i 0 + b.getD i 0 = x by omega]
        rfl
      · have hb0 : b.getD i 0 = 0 := getD_ge (by omega)
        rw [if_neg (by omega), if_pos (by omega), u64_id (n := a.getD i 0) (by omega) (by omega), u64_id (n := c + _) (by omega) (by omega)]
        rw [show c + a.getD i 0 = x by omega]
        rfl
    · rw [val_set_take (by omega), val_take_succ' a i, val_take_succ' b i]
      have := add_step (a := a.getD i 0) (b := b.getD i 0) (c := c) (x := x % 4294967296) (c' := x / 4294967296) (p := 4294967296) hinv (by omega)
      rw [Int.pow_succ]
      exact this
theorem add (a b : Nat) (hlen : (D b).length ≤ (D a).length) (ha : bl a ≤ 1073741823) : Ev (fun k => impl_magAdd.f k (D a) (D b)) (D (a + b)) := by
  have h1 := D_len a
  unfold impl_magAdd.f
  rw [wrapZ _ (by omega) (by omega)]
  refine ifp (by omega) (ifp (by omega) ?_)
  have := add_loop (D a) (D b) (D_dig a) (D_dig b) hlen (by omega) (a + b) (by rw [D_val, D_val]; omega) (D a).length 0 (List.replicate (((D a).length : Int) + 1).toNat 0) 0 (by omega) (by simp <;> omega) (dig_replicate (by decide) _) (by omega) (by omega) (by simp [val])
  exact this
theorem sub_loop (a b : List Int) (ha : Dig 4294967296 a) (hb : Dig 4294967296 b) (hab : b.length ≤ a.length) (hm : a.length ≤ 1073741824) (s : Nat) (hs : val 4294967296 a - val 4294967296 b = s) (d : Nat) :
    ∀ (i : Nat) (ys : List Int) (c : Int), i + d = a.length → ys.length = a.length → Dig 4294967296 ys → 0 ≤ c → c ≤ 1 →
      val 4294967296 (ys.take i) - 4294967296 ^ i * c = val 4294967296 (a.take i) - val 4294967296 (b.take i) →
      Ev (fun k => impl_magSub.l0 k b ys c a (a.length : Int) (i : Int)) (D s) := by
  induction d with
  | zero =>
    intro i ys c hd hy hdy hc0 hc1 hinv
    have hi : i = a.length := by omega
    subst hi
    rw [List.take_length, val_take_ge hab, val_take_ge (by omega), hs] at hinv
    have hlt := val_lt (by decide) hdy
    rw [hy] at hlt
    have hval : val 4294967296 ys = s := by
      have hc : c = 0 ∨ c = 1 := by omega
      rcases hc with rfl | rfl
      · omega
      · exfalso
        rw [Int.mul_one] at hinv
        have : ((4294967296 : Nat) : Int) ^ a.length = (4294967296 : Int) ^ a.length := rfl
        omega
    refine Ev.step (f := fun k => (impl_magTrim.f k ys).bind fun t => some t) (fun k => ?_) (trimD hdy (by omega) hval)
    simp only [impl_magSub.l0]
    rw [if_neg (by omega)]
  | succ d ih =>
    intro i ys c hd hy hdy hc0 hc1 hinv
    have hai := ha.all0 (by decide) i
    have hbi := hb.all0 (by decide) i
    obtain ⟨x, hx⟩ : ∃ x, x = IntKind.u64.wrap (a.getD i 0 - (b.getD i 0 + c)) := ⟨_, rfl⟩
    have hx' := hx
    rw [IntKind.wrap_u64] at hx'
    have hstep := Ev.step (g := fun k => impl_magSub.l0 k b ys c a (a.length : Int) (i : Int)) (f := fun k => impl_magSub.l0 k b (ys.set i (x % 4294967296)) (x / 9223372036854775808) a (a.length : Int) ((i + 1 : Nat) : Int)) (fun k => ?_)
      (ih (i + 1) _ (x / 9223372036854775808) (by omega) (by simpa using hy) (hdy.set _ (by omega) (by omega)) (by omega) (by omega) ?_)
    · exact hstep
    · simp only [impl_magSub.l0]
      rw [if_pos (by omega), if_pos (by omega), if_pos (by omega), rdN, rdN, wrapZ _ (by omega) (by omega)]
      by_cases hib : i < b.length
      · rw [if_pos (by omega), if_pos (by omega), u64_id (n := a.getD i 0) (by omega) (by omega), u64_id (n := b.getD i 0) (by omega) (by omega), u64_id (n := c + _) (by omega) (by omega)]
        rw [show c + b.getD i 0 = b.getD i 0 + c by omega, ← hx]
        rfl
      · have hb0 : b.getD i 0 = 0 := getD_ge (by omega)
        rw [if_neg (by omega), if_pos (by omega), u64_id (n := a.getD i 0) (by omega) (by omega)]
        rw [hb0, Int.zero_add] at hx
        rw [← hx]
        rfl
    · rw [val_set_take (by omega), val_take_succ' a i, val_take_succ' b i]
      have := sub_step (a := a.getD i 0) (b := b.getD i 0) (c := c) (x := x % 4294967296) (c' := x / 9223372036854775808) (p := 4294967296) hinv (by omega)
      rw [Int.pow_succ]
      exact this
theorem D_len_mono {a b : Nat} (h : b ≤ a) : (D b).length ≤ (D a).length := by
  rcases Nat.lt_or_ge (D a).length (D b).length with h1 | h1
  · have := val_lt_of_length (by decide) (D_dig a) (D_dig b) (D_top b) h1
    rw [D_val, D_val] at this
    omega
  · exact h1
theorem sub (a b : Nat) (hab : b ≤ a) (ha : bl a ≤ 1073741823) : Ev (fun k => impl_magSub.f k (D a) (D b)) (D (a - b)) := by
  have h1 := D_len a
  unfold impl_magSub.f
  refine ifp (by omega) (ifp (by omega) ?_)
  have := sub_loop (D a) (D b) (D_dig a) (D_dig b) (D_len_mono hab) (by omega) (a - b) (by rw [D_val, D_val]; omega) (D a).length 0 (List.replicate ((D a).length : Int).toNat 0) 0 (by omega) (by simp) (dig_replicate (by decide) _) (by omega) (by omega) (by simp [val])
  exact this
theorem mul_inner (a b : List Int) (ha : Dig 4294967296 a) (hb : Dig 4294967296 b) (hm : a.length + b.length ≤ 1073741824) (i : Nat) (hi : i < a.length) (R : List Int) (V0 : Int)
    (next : ∀ ys : List Int, ys.length = a.length + b.length → Dig 4294967296 ys → (∀ j, i + 1 + b.length ≤ j → ys.getD j 0 = 0) → val 4294967296 ys = V0 + 4294967296 ^ i * (a.getD i 0 * val 4294967296 b) →
      Ev (fun k => impl_magMul.l0 k b ys a (a.length : Int) ((i + 1 : Nat) : Int)) R) (d : Nat) :
    ∀ (k : Nat) (ys : List Int) (c : Int), k + d = b.length → ys.length = a.length + b.length → Dig 4294967296 ys → 0 ≤ c → c < 4294967296 → (∀ j, i + b.length ≤ j → ys.getD j 0 = 0) →
      val 4294967296 ys + 4294967296 ^ (i + k) * c = V0 + 4294967296 ^ i * (a.getD i 0 * val 4294967296 (b.take k)) →
      Ev (fun n => impl_magMul.l1 n b ys (i : Int) (a.getD i 0) c a (a.length : Int) (i : Int) b (b.length : Int) (k : Int)) R := by
  induction d with
  | zero =>
    intro k ys c hd hy hdy hc0 hc1 hz hinv
    have hk : k = b.length := by omega
    subst hk
    have hz1 := hz (i + b.length) (by omega)
    refine Ev.step (f := fun n => impl_magMul.l0 n b (ys.set (i + b.length) c) a (a.length : Int) ((i + 1 : Nat) : Int)) (fun n => ?_) (next _ (by simpa using hy) (hdy.set _ hc0 (by omega)) (fun j hj => ?_) ?_)
    · simp only [impl_magMul.l1]
      rw [if_neg (by omega), wrapZ _ (by omega) (by omega), if_pos (by omega), if_pos (by omega), wrapZ _ (by omega) (by omega), show c % 4294967296 = c by omega, show ((i : Int) + (b.length : Int)).toNat = i + b.length by omega]
      rfl
    · rw [Dg.getD_set_ne (by omega)]; exact hz j (by omega)
    · rw [val_set (by omega), hz1, Int.sub_zero]
      rw [List.take_length] at hinv
      exact hinv
  | succ d ih =>
    intro k ys c hd hy hdy hc0 hc1 hz hinv
    have hai := ha.all0 (by decide) i
    have hbk := hb.all0 (by decide) k
    have hyk := hdy.all0 (by decide) (i + k)
    have hp0 : 0 ≤ a.getD i 0 * b.getD k 0 := Int.mul_nonneg hai.1 hbk.1
    have hp1 : a.getD i 0 * b.getD k 0 ≤ 4294967295 * 4294967295 := Int.mul_le_mul (by omega) (by omega) hbk.1 (by omega)
    obtain ⟨x, hx⟩ : ∃ x, x = c + (a.getD i 0 * b.getD k 0 + ys.getD (i + k) 0) := ⟨_, rfl⟩
    refine Ev.step (f := fun n => impl_magMul.l1 n b (ys.set (i + k) (x % 4294967296)) (i : Int) (a.getD i 0) (x / 4294967296) a (a.length : Int) (i : Int) b (b.length : Int) ((k + 1 : Nat) : Int)) (fun n => ?_)
      (ih (k + 1) _ _ (by omega) (by simpa using hy) (hdy.set _ (by omega) (by omega)) (by omega) (by omega) (fun j hj => ?_) ?_)
    · simp only [impl_magMul.l1]
      rw [if_pos (by omega), if_pos (by omega), if_pos (by omega), wrapZ _ (by omega) (by omega), if_pos (by omega), if_pos (by omega), rdN, show (i : Int) + (k : Int) = ((i + k : Nat) : Int) by omega, rdN,
        u64_id (n := a.getD i 0) (by omega) (by omega), u64_id (n := b.getD k 0) (by omega) (by omega), u64_id (n := a.getD i 0 * b.getD k 0) (by omega) (by omega), u64_id (n := ys.getD (i + k) 0) (by omega) (by omega), u64_id (n := _ + ys.getD (i + k) 0) (by omega) (by omega), u64_id (n := c + _) (by omega) (by omega), ← hx, wrapZ _ (by omega) (by omega), Int.toNat_natCast]
      rfl
    · rw [Dg.getD_set_ne (by omega)]; exact hz j hj
    · rw [val_set (by omega), val_take_succ' b k, show i + (k + 1) = (i + k) + 1 by omega, Int.pow_succ]
      rw [Int.pow_add] at hinv
      have h1 : x = x % 4294967296 + 4294967296 * (x / 4294967296) := by omega
      have e : ((4294967296 : Nat) : Int) = 4294967296 := rfl
      rw [e, Int.pow_add]
      generalize (4294967296 : Int) ^ i = P at *
      generalize (4294967296 : Int) ^ k = Q at *
      generalize x % 4294967296 = lo at *
      generalize x / 4294967296 = hi' at *
      generalize ys.getD (i + k) 0 = yk at *
      generalize a.getD i 0 = ai at *
      generalize b.getD k 0 = bk at *
      generalize val 4294967296 ys = Vy at *
      generalize val 4294967296 (b.take k) = Vb at *
      clear ih next hp1 hp0
      grind
theorem mul_loop (a b : List Int) (ha : Dig 4294967296 a) (hb : Dig 4294967296 b) (hm : a.length + b.length ≤ 1073741824) (s : Nat) (hs : val 4294967296 a * val 4294967296 b = s) (d : Nat) :
    ∀ (i : Nat) (ys : List Int), i + d = a.length → ys.length = a.length + b.length → Dig 4294967296 ys → (∀ j, i + b.length ≤ j → ys.getD j 0 = 0) →
      val 4294967296 ys = val 4294967296 (a.take i) * val 4294967296 b →
      Ev (fun k => impl_magMul.l0 k b ys a (a.length : Int) (i : Int)) (D s) := by
  induction d with
  | zero =>
    intro i ys hd hy hdy hz hinv
    have hi : i = a.length := by omega
    subst hi
    rw [List.take_length, hs] at hinv
    refine Ev.step (f := fun k => (impl_magTrim.f k ys).bind fun t => some t) (fun k => ?_) (trimD hdy (by omega) hinv)
    simp only [impl_magMul.l0]
    rw [if_neg (by omega)]
  | succ d ih =>
    intro i ys hd hy hdy hz hinv
    have h1 := mul_inner a b ha hb hm i (by omega) (D s) (val 4294967296 (a.take i) * val 4294967296 b) (fun ys' h1 h2 h3 h4 => ih (i + 1) ys' (by omega) h1 h2 h3 (by
      rw [h4, val_take_succ' a i]
      have e : ((4294967296 : Nat) : Int) = 4294967296 := rfl
      rw [e]
      generalize (4294967296 : Int) ^ i = P
      grind)) b.length 0 ys 0 (by omega) hy hdy (by omega) (by omega) hz (by rw [hinv, List.take_zero, val_nil]; simp)
    refine Ev.step (f := fun n => impl_magMul.l1 n b ys (i : Int) (a.getD i 0) 0 a (a.length : Int) (i : Int) b (b.length : Int) 0) (fun n => ?_) h1
    simp only [impl_magMul.l0]
    rw [if_pos (by omega), if_pos (by omega), if_pos (by omega), rdN]
theorem mul (a b : Nat) (h : bl a + bl b ≤ 1073741823) : Ev (fun k => impl_magMul.f k (D a) (D b)) (D (a * b)) := by
  have h1 := D_len a
  have h2 := D_len b
  unfold impl_magMul.f
  rw [wrapZ _ (by omega) (by omega)]
  refine ifp (by omega) (ifp (by omega) ?_)
  have := mul_loop (D a) (D b) (D_dig a) (D_dig b) (by omega) (a * b) (by rw [D_val, D_val]; exact (Int.natCast_mul a b).symm) (D a).length 0 (List.replicate (((D a).length : Int) + ((D b).length : Int)).toNat 0) (by omega) (by simp <;> omega) (dig_replicate (by decide) _) (fun j _ => by simp [List.getD, List.getElem?_replicate]; split <;> rfl) (by simp [val, val_zeros])
  exact this
end Go.Proofs.Ytjddhnjjeomfjaa.Pn
end
section
namespace Go.Proofs.Ytjddhnjjeomfjaa.Po
open Go.RowKit Go.Proofs.YtjddhnjjeomfjaaW.PrintWords Go.Proofs.YtjddhnjjeomfjaaW.PrintMore Go.Proofs.Ytjddhnjjeomfjaa.PW Go.Proofs.Ytjddhnjjeomfjaa.Pc Go.Proofs.Ytjddhnjjeomfjaa.Pn Dg
set_option linter.unusedVariables false
set_option linter.unusedSimpArgs false
theorem tdiv32 (n : Nat) (h : n ≤ 1073741824) : IntKind.u64.wrap (Int.tdiv (n : Int) 32) = ((n / 32 : Nat) : Int) := by
  rw [Int.tdiv_eq_ediv_of_nonneg (by omega), u64_id (by omega) (by omega)]; rfl
theorem tmod32 (n : Nat) : Int.tmod (n : Int) 32 = ((n % 32 : Nat) : Int) := by
  rw [Int.tmod_eq_emod_of_nonneg (by omega)]; rfl
theorem pow_le32 {r : Nat} (h : r < 32) : 1 ≤ (2 : Int) ^ r ∧ (2 : Int) ^ r ≤ 2147483648 := by
  have h1 := Nat.pow_le_pow_right (n := 2) (by decide) (show r ≤ 31 by omega)
  have h2 := Nat.two_pow_pos r
  have e : ((2 : Int) ^ r) = ((2 ^ r : Nat) : Int) := by simp
  rw [e]; omega
theorem shl_id {x : Int} {r : Nat} (h0 : 0 ≤ x) (h1 : x < 4294967296) (hr : r < 32) : shl .u64 x (r : Int) = x * 2 ^ r ∧ 0 ≤ x * 2 ^ r ∧ x * 2 ^ r ≤ 4294967295 * 2147483648 := by
  have hp := pow_le32 hr
  have h2 : x * 2 ^ r ≤ 4294967295 * 2147483648 := Int.mul_le_mul (by omega) hp.2 (by omega) (by omega)
  have h3 : 0 ≤ x * 2 ^ r := Int.mul_nonneg h0 (by omega)
  refine ⟨?_, h3, h2⟩
  unfold shl
  rw [Int.toNat_natCast, Nat.min_eq_left (by show r ≤ 64; omega), u64_id h3 (by omega)]
theorem wraps_u32 (n : Int) (h₀ : 0 ≤ n) (h₁ : n < 2 ^ 32) : IntKind.u32.wrap n = n := by rw [IntKind.wrap_u32]; omega
theorem wraps_u64 (n : Int) (h₀ : 0 ≤ n) (h₁ : n < 2 ^ 64) : IntKind.u64.wrap n = n := by rw [IntKind.wrap_u64]; omega
theorem or_low {x y : Int} {r : Nat} (hr : r < 32) (hx0 : 0 ≤ x) (hx1 : x < 2 ^ r) (hy0 : 0 ≤ y) (hy1 : y < 4294967296) (hy : y % 2 ^ r = 0) : bits .or .u32 x y = x + y := by
  have hp := pow_le32 hr
  have hc : bits .or .u32 x y = bits .or .u32 y x := by
    obtain ⟨a, rfl⟩ := Int.eq_ofNat_of_zero_le hx0
    obtain ⟨b, rfl⟩ := Int.eq_ofNat_of_zero_le hy0
    have ha : a < 2 ^ 32 := by omega
    have hb : b < 2 ^ 32 := by omega
    rw [(bits_nat .u32 32 (by decide) wraps_u32 a b ha hb).2, (bits_nat .u32 32 (by decide) wraps_u32 b a hb ha).2, Nat.or_comm]
  rw [hc, bits_join .u32 32 (by decide) wraps_u32 r y x hy0 hy (by omega) hx0 hx1 (by omega)]
  omega
theorem low_mult {x : Int} {r : Nat} (hr : r < 32) : (x * 2 ^ r) % 4294967296 % 2 ^ r = 0 := by
  have e : (4294967296 : Int) = 2 ^ (32 - r) * 2 ^ r := by
    rw [← Int.pow_add, show 32 - r + r = 32 by omega]; rfl
  rw [e, Int.emod_emod_of_dvd _ (Int.dvd_mul_left _ _), Int.mul_emod_left]
theorem high_lt {x : Int} {r : Nat} (h0 : 0 ≤ x) (h1 : x < 4294967296) (hr : r < 32) : (x * 2 ^ r) / 4294967296 < 2 ^ r := by
  have hp := pow_le32 hr
  apply Int.ediv_lt_of_lt_mul (by decide)
  rw [Int.mul_comm]
  exact Int.mul_lt_mul_of_pos_left h1 (by omega)
theorem left_loop (a : List Int) (ha : Dig 4294967296 a) (n : Nat) (hm : a.length ≤ 536870912) (hn : n ≤ 536870912) (s : Nat) (hs : val 4294967296 a * 2 ^ (n % 32) * 4294967296 ^ (n / 32) = s) (d : Nat) :
    ∀ (i : Nat) (ys : List Int), i + d = a.length → ys.length = n / 32 + a.length + 1 → Dig 4294967296 ys → (∀ j, n / 32 + i < j → ys.getD j 0 = 0) → ys.getD (n / 32 + i) 0 < 2 ^ (n % 32) →
      val 4294967296 ys = val 4294967296 (a.take i) * 2 ^ (n % 32) * 4294967296 ^ (n / 32) →
      Ev (fun k => impl_magLeft.l0 k (n : Int) ys a (a.length : Int) (i : Int)) (D s) := by
  have hr : n % 32 < 32 := by omega
  have hq : n / 32 ≤ 536870912 := by omega
  have eq := tdiv32 n (by omega)
  have er := tmod32 n
  generalize n % 32 = r at *
  generalize n / 32 = q at *
  induction d with
  | zero =>
    intro i ys hd hy hdy hz hlt hinv
    have hi : i = a.length := by omega
    subst hi
    rw [List.take_length, hs] at hinv
    refine Ev.step (f := fun k => (impl_magTrim.f k ys).bind fun t => some t) (fun k => ?_) (trimD hdy (by omega) hinv)
    simp only [impl_magLeft.l0]
    rw [if_neg (by omega)]
  | succ d ih =>
    intro i ys hd hy hdy hz hlt hinv
    have hai := ha.all0 (by decide) i
    have hyi := hdy.all0 (by decide) (q + i)
    have hz1 := hz (q + i + 1) (by omega)
    obtain ⟨hs1, hs2, hs3⟩ := shl_id hai.1 hai.2 hr
    have hlow := low_mult (x := a.getD i 0) hr
    have hhigh := high_lt hai.1 hai.2 hr
    generalize hw : a.getD i 0 * 2 ^ r = w at *
    have hor := or_low hr hyi.1 hlt (y := w % 4294967296) (by omega) (by omega) hlow
    have hp := pow_le32 hr
    have hsum : ys.getD (q + i) 0 + w % 4294967296 < 4294967296 := by
      -- both below the base, one a multiple of the power
      have h1 : w % 4294967296 ≤ 4294967296 - 2 ^ r := by
        have e : (4294967296 : Int) % 2 ^ r = 0 := by
          have : (4294967296 : Int) = 2 ^ (32 - r) * 2 ^ r := by rw [← Int.pow_add, show 32 - r + r = 32 by omega]; rfl
          rw [this]; simp
        have h2 : (4294967296 - w % 4294967296) % 2 ^ r = 0 := by
          rw [Int.sub_emod, e, hlow]; simp
        have h3 : 0 < 4294967296 - w % 4294967296 := by omega
        have h4 := Int.emod_add_mul_ediv (4294967296 - w % 4294967296) (2 ^ r)
        rw [h2, Int.zero_add] at h4
        have h5 : 0 < (4294967296 - w % 4294967296) / 2 ^ r := by
          rcases Int.lt_or_le 0 ((4294967296 - w % 4294967296) / 2 ^ r) with h | h
          · exact h
          · have := Int.mul_nonneg (show (0 : Int) ≤ 2 ^ r by omega) (show 0 ≤ -((4294967296 - w % 4294967296) / 2 ^ r) by omega)
            rw [Int.mul_neg] at this
            omega
        have h6 : (2 : Int) ^ r * 1 ≤ 2 ^ r * ((4294967296 - w % 4294967296) / 2 ^ r) := Int.mul_le_mul_of_nonneg_left (by omega) (by omega)
        omega
      omega
    refine Ev.step (f := fun k => impl_magLeft.l0 k (n : Int) ((ys.set (q + i) (ys.getD (q + i) 0 + w % 4294967296)).set (q + i + 1) (w / 4294967296)) a (a.length : Int) ((i + 1 : Nat) : Int)) (fun k => ?_)
      (ih (i + 1) _ (by omega) (by simpa using hy) ((hdy.set _ (by omega) (by omega)).set _ (by omega) (by omega)) (fun j hj => ?_) ?_ ?_)
    · simp only [impl_magLeft.l0]
      rw [if_pos (by omega), if_pos (by omega), if_pos (by omega), er, eq, wrapZ (q : Int) (by omega) (by omega), wrapZ ((q : Int) + (i : Int)) (by omega) (by omega), wrapZ ((q : Int) + (i : Int) + 1) (by omega) (by omega),
        if_pos (by omega), if_pos (by omega), if_pos (by omega), if_pos (by omega), if_pos (by omega), rdN, show (q : Int) + (i : Int) = ((q + i : Nat) : Int) by omega, rdN, u64_id (n := a.getD i 0) (by omega) (by omega), hs1, hor,
        show (w / 4294967296) % 4294967296 = w / 4294967296 by omega, Int.toNat_natCast, show (((q + i : Nat) : Int) + 1).toNat = q + i + 1 by omega, wrapZ _ (by omega) (by omega)]
      rfl
    · rw [Dg.getD_set_ne (by omega), Dg.getD_set_ne (by omega)]; exact hz j (by omega)
    · rw [show q + (i + 1) = q + i + 1 by omega, Dg.getD_set_eq (by simp <;> omega)]; exact hhigh
    · rw [val_set (by simp <;> omega), val_set (by omega), Dg.getD_set_ne (by omega), hz1, val_take_succ' a i, hinv, Int.pow_succ]
      have h1 : w = w % 4294967296 + 4294967296 * (w / 4294967296) := by omega
      have e : ((4294967296 : Nat) : Int) = 4294967296 := rfl
      rw [e, Int.pow_add]
      generalize (4294967296 : Int) ^ i = P at *
      generalize (4294967296 : Int) ^ q = Q at *
      generalize w % 4294967296 = lo at *
      generalize w / 4294967296 = hi at *
      generalize a.getD i 0 = ai at *
      generalize (2 : Int) ^ r = R at *
      generalize val 4294967296 (List.take i a) = Va at *
      generalize ys.getD (q + i) 0 = y0 at *
      clear ih hlow hhigh hsum hor
      grind
theorem pow_split (n : Nat) : (2 : Int) ^ (n % 32) * 4294967296 ^ (n / 32) = 2 ^ n := by
  rw [show (4294967296 : Int) = 2 ^ 32 from rfl, ← Int.pow_mul, ← Int.pow_add]
  congr 1
  omega
theorem left (a n : Nat) (ha : bl a ≤ 536870912) (hn : n ≤ 536870912) : Ev (fun k => impl_magLeft.f k (D a) (n : Int)) (D (a * 2 ^ n)) := by
  have h1 := D_len a
  unfold impl_magLeft.f
  by_cases h0 : a = 0
  · subst h0
    rw [Nat.zero_mul, D_zero]
    exact ifp rfl (ev_of fun _ => rfl)
  · have hp := D_pos h0
    refine ifn (by omega) ?_
    rw [tdiv32 n (by omega), wrapZ ((n / 32 : Nat) : Int) (by omega) (by omega), wrapZ (((n / 32 : Nat) : Int) + ((D a).length : Int)) (by omega) (by omega), wrapZ _ (by omega) (by omega)]
    refine ifp (by omega) (ifp (by omega) ?_)
    have := left_loop (D a) (D_dig a) n (by omega) hn (a * 2 ^ n) (by
      rw [D_val, Int.mul_assoc, pow_split]; simp) (D a).length 0 (List.replicate (((n / 32 : Nat) : Int) + ((D a).length : Int) + 1).toNat 0) (by omega) (by simp <;> omega) (dig_replicate (by decide) _)
      (fun j _ => by simp [List.getD, List.getElem?_replicate]; split <;> rfl) (by
        have : (List.replicate (((n / 32 : Nat) : Int) + ((D a).length : Int) + 1).toNat (0 : Int)).getD (n / 32 + 0) 0 = 0 := by simp [List.getD, List.getElem?_replicate]; split <;> rfl
        rw [this]
        have := (pow_le32 (show n % 32 < 32 by omega)).1
        omega) (by rw [List.take_zero, val_nil, val_zeros]; simp)
    exact this
theorem or_high {x y : Int} (hx0 : 0 ≤ x) (hx1 : x < 4294967296) (hy0 : 0 ≤ y) (hy1 : y < 4294967296) : bits .or .u64 x (y * 4294967296) = x + 4294967296 * y := by
  have hc : bits .or .u64 x (y * 4294967296) = bits .or .u64 (y * 4294967296) x := by
    obtain ⟨a, rfl⟩ := Int.eq_ofNat_of_zero_le hx0
    obtain ⟨b, rfl⟩ := Int.eq_ofNat_of_zero_le hy0
    have e : (b : Int) * 4294967296 = ((b * 4294967296 : Nat) : Int) := by simp
    have ha : a < 2 ^ 64 := by omega
    have hb : b * 4294967296 < 2 ^ 64 := by omega
    rw [e, (bits_nat .u64 64 (by decide) wraps_u64 a _ ha hb).2, (bits_nat .u64 64 (by decide) wraps_u64 _ a hb ha).2, Nat.or_comm]
  rw [hc, bits_join .u64 64 (by decide) wraps_u64 32 (y * 4294967296) x (by omega) (by omega) (by omega) hx0 (by omega) (by omega)]
  omega
theorem right_digit (X r : Nat) (hr : r < 32) : (X % 4294967296 + 4294967296 * (X / 4294967296 % 4294967296)) / 2 ^ r % 4294967296 = X / 2 ^ r % 4294967296 := by
  have h1 := Nat.mod_mul (a := 4294967296) (b := 4294967296) (x := X)
  rw [← h1]
  have e : (4294967296 * 4294967296 : Nat) = 2 ^ r * 2 ^ (64 - r) := by
    rw [← Nat.pow_add, show r + (64 - r) = 64 by omega]
  rw [e, Nat.mod_mul_right_div_self, Nat.mod_mod_of_dvd]
  rw [show (4294967296 : Nat) = 2 ^ 32 from rfl]
  exact Nat.pow_dvd_pow 2 (by omega)
theorem shr_id {x : Int} {r : Nat} (hr : r < 32) : shr .u64 x (r : Int) = x / 2 ^ r := by
  unfold shr
  rw [Int.toNat_natCast, Nat.min_eq_left (by show r ≤ 64; omega)]
theorem right_loop (m : List Int) (M n : Nat) (hm : m.length ≤ 1073741824) (hM : ∀ j, m.getD j 0 = ((M / 4294967296 ^ j % 4294967296 : Nat) : Int)) (hl : M < 4294967296 ^ m.length) (d : Nat) :
    ∀ (i : Nat) (ys : List Int), i + d = m.length → ys.length = m.length → Dig 4294967296 ys → (∀ j, j < i → ys.getD j 0 = ((M / 2 ^ (n % 32) / 4294967296 ^ j % 4294967296 : Nat) : Int)) →
      Ev (fun k => impl_magRight.l0 k m (n : Int) ys m (m.length : Int) (i : Int)) (D (M / 2 ^ (n % 32))) := by
  have hr : n % 32 < 32 := by omega
  have er := tmod32 n
  generalize n % 32 = r at *
  induction d with
  | zero =>
    intro i ys hd hy hdy hdig
    have hi : i = m.length := by omega
    subst hi
    have hv := val_digits (by decide) ys (M / 2 ^ r) (fun j hj => hdig j (by omega))
    have hlt : M / 2 ^ r < 4294967296 ^ ys.length := by rw [hy]; exact Nat.lt_of_le_of_lt (Nat.div_le_self _ _) hl
    rw [Nat.mod_eq_of_lt hlt] at hv
    refine Ev.step (f := fun k => (impl_magTrim.f k ys).bind fun t => some t) (fun k => ?_) (trimD hdy (by omega) hv)
    simp only [impl_magRight.l0]
    rw [if_neg (by omega)]
  | succ d ih =>
    intro i ys hd hy hdy hdig
    have hmi := hM i
    have hmj := hM (i + 1)
    obtain ⟨X, hX⟩ : ∃ X, X = M / 4294967296 ^ i := ⟨_, rfl⟩
    have hX2 : M / 4294967296 ^ (i + 1) = X / 4294967296 := by rw [hX, Nat.pow_succ, Nat.div_div_eq_div_mul]
    rw [← hX] at hmi
    rw [hX2] at hmj
    have hd0 := right_digit X r hr
    have hX3 : M / 2 ^ r / 4294967296 ^ i = X / 2 ^ r := by rw [hX, Nat.div_div_eq_div_mul, Nat.div_div_eq_div_mul, Nat.mul_comm]
    have hpw : ((2 : Int) ^ r) = ((2 ^ r : Nat) : Int) := by simp
    obtain ⟨v, hv⟩ : ∃ v : Nat, v = X / 2 ^ r % 4294967296 := ⟨_, rfl⟩
    refine Ev.step (f := fun k => impl_magRight.l0 k m (n : Int) (ys.set i (v : Int)) m (m.length : Int) ((i + 1 : Nat) : Int)) (fun k => ?_)
      (ih (i + 1) _ (by omega) (by simpa using hy) (hdy.set _ (by omega) (by omega)) (fun j hj => ?_))
    · simp only [impl_magRight.l0]
      rw [if_pos (by omega), if_pos (by omega), if_pos (by omega), er, rdN, wrapZ _ (by omega) (by omega), hmi]
      by_cases hj : i + 1 < m.length
      · rw [if_pos (by omega), if_pos (by omega), if_pos (by omega), if_pos (by omega), show (i : Int) + 1 = ((i + 1 : Nat) : Int) by omega, rdN, hmj, u64_id (n := ((X % 4294967296 : Nat) : Int)) (by omega) (by omega),
          u64_id (n := ((X / 4294967296 % 4294967296 : Nat) : Int)) (by omega) (by omega), u64_id (n := _ * 4294967296) (by omega) (by omega), or_high (by omega) (by omega) (by omega) (by omega), shr_id hr, hpw, Int.toNat_natCast]
        rw [hv, ← hd0]
        rfl
      · have h0 : m.getD (i + 1) 0 = 0 := getD_ge (by omega)
        rw [hmj] at h0
        have h1 : X / 4294967296 % 4294967296 = 0 := by omega
        rw [h1, Nat.mul_zero, Nat.add_zero] at hd0
        rw [if_neg (by omega), if_pos (by omega), if_pos (by omega), u64_id (n := ((X % 4294967296 : Nat) : Int)) (by omega) (by omega), shr_id hr, hpw, Int.toNat_natCast]
        rw [hv, ← hd0]
        rfl
    · by_cases hji : j = i
      · subst hji
        rw [Dg.getD_set_eq (by omega), hX3, hv]
      · rw [Dg.getD_set_ne (by omega)]
        exact hdig j (by omega)
theorem right (a n : Nat) (ha : bl a ≤ 536870912) (hn : n ≤ 536870912) : Ev (fun k => impl_magRight.f k (D a) (n : Int)) (D (a / 2 ^ n)) := by
  have h1 := D_len a
  have hpow : (2 : Nat) ^ n = 4294967296 ^ (n / 32) * 2 ^ (n % 32) := by
    rw [show (4294967296 : Nat) = 2 ^ 32 from rfl, ← Nat.pow_mul, ← Nat.pow_add]
    congr 1
    omega
  unfold impl_magRight.f
  rw [tdiv32 n (by omega), u64_id (n := ((D a).length : Int)) (by omega) (by omega)]
  by_cases hq : (D a).length ≤ n / 32
  · have hlt : a < 4294967296 ^ (D a).length := lt_of_dg_length _
    have h2 := Nat.pow_le_pow_right (n := 4294967296) (by decide) hq
    have h3 : a / 2 ^ n = 0 := by
      rw [hpow, ← Nat.div_div_eq_div_mul, Nat.div_eq_of_lt (Nat.lt_of_lt_of_le hlt h2), Nat.zero_div]
    rw [h3, D_zero]
    exact ifp (by omega) (ev_of fun _ => rfl)
  · refine ifn (by omega) (ifp (by omega) (ifp (by omega) (ifp (by omega) ?_)))
    simp only [Int.toNat_natCast]
    have hlen : ((D a).drop (n / 32)).length = (D a).length - n / 32 := List.length_drop
    refine ifp (by omega) ?_
    obtain ⟨M, hM⟩ : ∃ M, M = a / 4294967296 ^ (n / 32) := ⟨_, rfl⟩
    have hfin : a / 2 ^ n = M / 2 ^ (n % 32) := by rw [hpow, hM, Nat.div_div_eq_div_mul]
    rw [hfin]
    have hlt : a < 4294967296 ^ (D a).length := lt_of_dg_length _
    exact right_loop ((D a).drop (n / 32)) M n (by omega) (fun j => by
      have e : ((D a).drop (n / 32)).getD j 0 = (D a).getD (n / 32 + j) 0 := by simp [List.getD, List.getElem?_drop]
      rw [e, D_getD, hM, Nat.div_div_eq_div_mul, ← Nat.pow_add]) (by
      rw [hlen, hM]
      apply Nat.div_lt_of_lt_mul
      rw [← Nat.pow_add, show n / 32 + ((D a).length - n / 32) = (D a).length by omega]
      exact hlt) ((D a).drop (n / 32)).length 0 _ (by omega) (by simp) (dig_replicate (by decide) _) (fun j hj => by omega)
end Go.Proofs.Ytjddhnjjeomfjaa.Po
end
section
namespace Go.Proofs.Ytjddhnjjeomfjaa.PW
open Go.RowKit Go.Proofs.YtjddhnjjeomfjaaW.PrintWords Go.Proofs.YtjddhnjjeomfjaaW.PrintLast Go.Proofs.YtjddhnjjeomfjaaW.PrintMore
attribute [local go_sem] max2_int min2_int max_two min_two max_three min_three max_four min_four   -- for this text's walks alone
set_option linter.unusedVariables false
set_option linter.unusedSimpArgs false
def spec_l01In.f (a0 : Int) (a1 : Int) (a2 : Int) : Option (Bool) := if a0 ≥ a1 then (some (decide (a0 ≤ a2))) else (some false)
set_option maxHeartbeats 8000000 in
set_option maxRecDepth 100000 in
theorem spec_l01In.calls (a0 : Int) (a1 : Int) (a2 : Int) (r : Bool) (w : World) (h : spec_l01In.f a0 a1 a2 = some r) :
    Calls Try.prog 79 #[.int .i64 a0, .int .i64 a1, .int .i64 a2] w fun e w' => e = .returned (.bool r) ∧ Drawn0 w w' := by
  have H : (if a0 ≥ a1 then (some (decide (a0 ≤ a2))) else (some false)) = some r := h
  clear h
  by_cases c4 : a0 ≥ a1
  · rw [if_pos c4] at H
    have c4b0 : decide (a1 ≤ a0) = true := decide_eq_true c4
    clear c4
    obtain rfl := Option.some.inj H
    go_enter Try.func79, Try.ntmps79
    go_wp2
    go_ret
    exact ⟨by first | rfl | (simp; done) | (simp [*]; done), by repeat (first | exact Drawn0.refl _ | apply Drawn0.step)⟩
  · rw [if_neg c4] at H
    have c4b0 : decide (a1 ≤ a0) = false := decide_eq_false c4
    clear c4
    obtain rfl := Option.some.inj H
    go_enter Try.func79, Try.ntmps79
    go_wp2
    go_ret
    exact ⟨by first | rfl | (simp; done) | (simp [*]; done), by repeat (first | exact Drawn0.refl _ | apply Drawn0.step)⟩
end Go.Proofs.Ytjddhnjjeomfjaa.PW
end
section
namespace Go.Proofs.Ytjddhnjjeomfjaa.PW
open Go.RowKit Go.Proofs.YtjddhnjjeomfjaaW.PrintWords Go.Proofs.YtjddhnjjeomfjaaW.PrintLast Go.Proofs.YtjddhnjjeomfjaaW.PrintMore
attribute [local go_sem] max2_int min2_int max_two min_two max_three min_three max_four min_four   -- for this text's walks alone
set_option linter.unusedVariables false
set_option linter.unusedSimpArgs false
def spec_l02Is.l0 : Nat → Int → Int → Int → List Int → Option (Bool)
  | 0, _, _, _, _ => none
  | k + 1, x3, x4, x106000, x106001 => if x4 < x3 then (if 0 ≤ x4 then (if x4 < (x106001.length : Int) then ((spec_l01In.f (rd x106001 x4) 0 16777215).bind fun t107 => (if t107 = true then (spec_l02Is.l0 k x3 (wrap64 (x4 + 1)) x106000 x106001) else (some false))) else (none)) else (none)) else (if x3 = 0 then (some (x106000 == 0)) else (if x3 ≤ 100 then (if 0 ≤ (wrap64 (x3 - 1)) then (if (wrap64 (x3 - 1)) < (x106001.length : Int) then (if (rd x106001 (wrap64 (x3 - 1))) = 0 then (some false) else (if x106000 = 1 then (some true) else (some (x106000 == (-1))))) else (none)) else (none)) else (some false)))
def spec_l02Is.f (k : Nat) (a0_0 : Int) (l0_1 : List Int) : Option (Bool) := spec_l02Is.l0 k (l0_1.length : Int) 0 a0_0 l0_1
theorem spec_l02Is.mono_l : ∀ k, (∀ y0 y1 y2 y3, LeO (spec_l02Is.l0 k y0 y1 y2 y3) (spec_l02Is.l0 (k + 1) y0 y1 y2 y3))
  | 0 => fun _ _ _ _ r h => by simp [spec_l02Is.l0] at h
  | k + 1 => by
    have ih0 := spec_l02Is.mono_l k
    · intro y0 y1 y2 y3
      unfold spec_l02Is.l0
      repeat' first
      | (with_reducible exact ih0 _ _ _ _)
      | (with_reducible exact LeO.refl _)
      | (with_reducible exact LeO.none _)
      | (with_reducible refine LeO.ite ?_ ?_)
      | (with_reducible refine LeO.bind ?_ (fun _ => ?_))
      | exact ih0 _ _ _ _
      | exact LeO.none _
      | refine LeO.ite ?_ ?_
      | refine LeO.bind ?_ (fun _ => ?_)
theorem spec_l02Is.mono : ∀ a0 a1 k, LeO (spec_l02Is.f k a0 a1) (spec_l02Is.f (k + 1) a0 a1) := by
  intro a0 a1 k
  have ih0 := spec_l02Is.mono_l k
  unfold spec_l02Is.f
  repeat' first
      | (with_reducible exact ih0 _ _ _ _)
      | (with_reducible exact LeO.refl _)
      | (with_reducible exact LeO.none _)
      | (with_reducible refine LeO.ite ?_ ?_)
      | (with_reducible refine LeO.bind ?_ (fun _ => ?_))
      | exact ih0 _ _ _ _
      | exact LeO.none _
      | refine LeO.ite ?_ ?_
      | refine LeO.bind ?_ (fun _ => ?_)
set_option maxHeartbeats 8000000 in
set_option maxRecDepth 100000 in
theorem spec_l02Is.calls (k : Nat) (a0_0 : Int) (A0_1 : Option Addr) (c0_1 : Nat) (l0_1 : List Int) (r : Bool) (w : World) (hr0_1 : Kd.C (Kd.int .i64) w A0_1 l0_1.length l0_1) (hc0_1 : l0_1.length ≤ c0_1) (h : spec_l02Is.f k a0_0 l0_1 = some r) :
    Calls Try.prog 78 #[.agg #[.int .i64 a0_0, .slice A0_1 l0_1.length c0_1]] w fun e w' => e = .returned (.bool r) ∧ Below w.heap.size w w' := by
  have hu31 := Try.underlying31
  have HR0_1 := Aside0.mk hr0_1
  have HC0_1 := Aside0.mk hc0_1
  clear hr0_1 hc0_1
  have HB := Aside0.mk (Below.refl w.heap.size w)
  have H : (spec_l02Is.l0 k (l0_1.length : Int) 0 a0_0 l0_1) = some r := h
  clear h
  have H' := Aside0.mk H
  clear H
  go_enter Try.func78, Try.ntmps78
  go_wp2_with (first | ((with_reducible refine gate_dst (N := 1) rfl ?_); refine box_event ?hg (N := 1) ?hd (cs := #[.int .i64 a0_0, .slice A0_1 l0_1.length c0_1]) (t := 31) ?hr ?_; (case hd => rfl); (case hg => rfl); (case hr => first | (go_simp; done) | (go_simp; rfl)); intro gb105 hg w2 hbox hb; have n0_ := Aside0.mk (below_step (by repeat (first | (with_reducible first | exact HB.out | apply below_alloc | apply pw_below_drewN | apply below_drew1) | exact HB.out)) hb); have n1_ := Aside0.mk (hbox); have n2_ := Aside0.mk ((by rw [hg]; exact (below_size (by repeat (first | (with_reducible first | exact HB.out | apply below_alloc | apply pw_below_drewN | apply below_drew1) | exact HB.out))) : w.heap.size ≤ gb105)); have n3_ := Aside0.mk ((by rw [hg]; exact (below_size (by repeat (first | (with_reducible first | exact HB.out | apply below_alloc | apply pw_below_drewN | apply below_drew1) | exact HB.out))) : w.heap.size ≤ gb105)); clear HB; have HB := n0_; have BK105 := n1_; have GW105 := n2_; have GE105 := n3_; clear n0_ n1_ n2_ n3_; clear hb hbox hg; have hcz3_0 : w2.cell? ⟨gb105, 0, none⟩ = some (.int .i64 a0_0) := (blk_cell BK105.out 0).trans rfl; have hcz3_1 : w2.cell? ⟨gb105, 1, none⟩ = some (.slice A0_1 l0_1.length c0_1) := (blk_cell BK105.out 1).trans rfl; have hfz3_0 := blk_frozen BK105.out 0; have hfz3_1 := blk_frozen BK105.out 1))
  go_loopg [4] k (fun kq v4 w' => ∃ (x4_1 : Int), v4 = .int .i64 x4_1 ∧ Aside0 (spec_l02Is.l0 kq (l0_1.length : Int) x4_1 a0_0 l0_1 = some r) ∧ Aside0 (kq ≤ k) ∧ Aside0 (w'.heap[gb105]? = some (.cells #[.int .i64 a0_0, (.slice A0_1 l0_1.length c0_1)] 31 (0, 0))) ∧ Aside0 (Below w.heap.size w w'))
  case atStart => exact ⟨(0), (by first | rfl | (simp; done) | (simp [*]; done)), H', ⟨Nat.le_refl _⟩, ⟨by (with_reducible repeat (first | refine blk_drewN ?_ _ | refine blk_drew ?_ | refine blk_alloc ?_ _)); exact BK105.out⟩, ⟨by repeat (first | (with_reducible first | exact HB.out | apply below_alloc | apply pw_below_drewN | apply below_drew1 | refine below_set ?_ GE105.out) | exact HB.out)⟩⟩
  case round =>
    clear H'
    try clear p2
    try clear hcz3_0
    try clear hcz3_1
    try clear hfz3_0
    try clear hfz3_1
    obtain ⟨x4_1, rfl, HA, HK1, BK105, HB⟩ := hrel
    cases gk with
    | zero => exact absurd HA.out (by simp [spec_l02Is.l0])
    | succ k1 =>
      have H := HA.out
      clear HA
      simp only [spec_l02Is.l0] at H
      by_cases c4 : x4_1 < (l0_1.length : Int)
      · rw [if_pos c4] at H
        have c4b0 : decide (x4_1 < (l0_1.length : Int)) = true := decide_eq_true c4
        clear c4
        by_cases c5 : 0 ≤ x4_1
        · rw [if_pos c5] at H
          have c5b0 : decide (0 ≤ x4_1) = true := decide_eq_true c5
          clear c5
          by_cases c6 : x4_1 < (l0_1.length : Int)
          · rw [if_pos c6] at H
            have c6b0 : decide (x4_1 < (l0_1.length : Int)) = true := decide_eq_true c6
            clear c6
            replace H := Option.bind_eq_some_iff.mp H
            obtain ⟨t107, A70, H⟩ := H
            replace H : (if t107 = true then (spec_l02Is.l0 k1 (l0_1.length : Int) (wrap64 (x4_1 + 1)) a0_0 l0_1) else (some false)) = some r := H
            have A7 := Aside0.mk A70
            clear A70
            by_cases c8 : t107 = true
            · subst c8
              have H1 : (spec_l02Is.l0 k1 (l0_1.length : Int) (wrap64 (x4_1 + 1)) a0_0 l0_1) = some r := by rw [if_pos rfl] at H; exact H
              clear H
              have H := H1
              clear H1
              have H' := Aside0.mk H
              clear H
              have hcz9_0 : wr.cell? ⟨gb105, 0, none⟩ = some (.int .i64 a0_0) := (blk_cell BK105.out 0).trans rfl
              have hcz9_1 : wr.cell? ⟨gb105, 1, none⟩ = some (.slice A0_1 l0_1.length c0_1) := (blk_cell BK105.out 1).trans rfl
              have hfz9_0 := blk_frozen BK105.out 0
              have hfz9_1 := blk_frozen BK105.out 1
              have p106 : 0 ≤ (x4_1 : Int) := of_decide_eq_true (by first | (with_reducible assumption) | assumption)
              have q106 : x4_1 < (l0_1.length : Int) := of_decide_eq_true (by first | (with_reducible assumption) | assumption)
              obtain ⟨ad106, e106, hx106_0⟩ := Kd.at_int HR0_1.out x4_1 p106 q106
              cases e106
              replace hx106_0 := (HB.out.cell (World.block_lt_of_cell? w _ hx106_0)).trans hx106_0
              replace p106 := eq_true p106
              replace q106 := eq_true q106
              go_wp2_with (first | ((with_reducible refine gate_callee (f := 79) rfl ?_); refine goesL_ (some 18) rfl rfl Try.func79 (by kernel_rfl) rfl #[.int .i64 (rd l0_1 x4_1), .int .i64 0, .int .i64 16777215] rfl (by (try simp only [List.map_toArray, List.map_cons, List.map_nil]); first | done | rfl | (simp only [List.length_drop, List.length_take]; rfl)) ?_; (with_reducible refine (spec_l01In.calls (rd l0_1 x4_1) 0 16777215 true _ A7.out).mono ?_); rintro e w' ⟨rfl, ⟨nd, rfl⟩⟩; refine ⟨_, rfl, ?_⟩))
              go_roundg k1
              case measure => have := HK1.out; omega
              case rel => exact ⟨(wrap64 (x4_1 + 1)), (by first | rfl | (simp; done) | (simp [*]; done)), H', ⟨by have := HK1.out; omega⟩, ⟨by (with_reducible repeat (first | refine blk_drewN ?_ _ | refine blk_drew ?_ | refine blk_alloc ?_ _)); exact BK105.out⟩, ⟨by repeat (first | (with_reducible first | exact HB.out | apply below_alloc | apply pw_below_drewN | apply below_drew1 | refine below_set ?_ GE105.out) | exact HB.out)⟩⟩
            · replace c8 := Bool.eq_false_iff.mpr c8
              subst c8
              have H1 : (some false) = some r := by rw [if_neg (show ¬ (false = true) by decide)] at H; exact H
              clear H
              have H := H1
              clear H1
              obtain rfl := Option.some.inj H
              have hcz10_0 : wr.cell? ⟨gb105, 0, none⟩ = some (.int .i64 a0_0) := (blk_cell BK105.out 0).trans rfl
              have hcz10_1 : wr.cell? ⟨gb105, 1, none⟩ = some (.slice A0_1 l0_1.length c0_1) := (blk_cell BK105.out 1).trans rfl
              have hfz10_0 := blk_frozen BK105.out 0
              have hfz10_1 := blk_frozen BK105.out 1
              have p106 : 0 ≤ (x4_1 : Int) := of_decide_eq_true (by first | (with_reducible assumption) | assumption)
              have q106 : x4_1 < (l0_1.length : Int) := of_decide_eq_true (by first | (with_reducible assumption) | assumption)
              obtain ⟨ad106, e106, hx106_0⟩ := Kd.at_int HR0_1.out x4_1 p106 q106
              cases e106
              replace hx106_0 := (HB.out.cell (World.block_lt_of_cell? w _ hx106_0)).trans hx106_0
              replace p106 := eq_true p106
              replace q106 := eq_true q106
              go_wp2_with (first | ((with_reducible refine gate_callee (f := 79) rfl ?_); refine goesL_ (some 18) rfl rfl Try.func79 (by kernel_rfl) rfl #[.int .i64 (rd l0_1 x4_1), .int .i64 0, .int .i64 16777215] rfl (by (try simp only [List.map_toArray, List.map_cons, List.map_nil]); first | done | rfl | (simp only [List.length_drop, List.length_take]; rfl)) ?_; (with_reducible refine (spec_l01In.calls (rd l0_1 x4_1) 0 16777215 false _ A7.out).mono ?_); rintro e w' ⟨rfl, ⟨nd, rfl⟩⟩; refine ⟨_, rfl, ?_⟩))
              go_ret
              exact ⟨by first | rfl | (simp [errW_none, errW_some] <;> rfl) | (simp [*, errW_none, errW_some] <;> rfl), by repeat (first | (with_reducible first | exact HB.out | apply below_alloc | apply pw_below_drewN | apply below_drew1 | refine below_set ?_ GE105.out) | exact HB.out)⟩
          · rw [if_neg c6] at H
            exact absurd H (by simp)
        · rw [if_neg c5] at H
          exact absurd H (by simp)
      · rw [if_neg c4] at H
        have c4b0 : decide (x4_1 < (l0_1.length : Int)) = false := decide_eq_false c4
        clear c4
        by_cases c11 : (l0_1.length : Int) = 0
        · rw [if_pos c11] at H
          have c11b0 : ((l0_1.length : Int) == 0) = true := beq_iff_eq.mpr c11
          have c11b1 : ((l0_1.length : Int) != 0) = false := bne_eq_false_iff_eq.mpr c11
          clear c11
          obtain rfl := Option.some.inj H
          have hcz12_0 : wr.cell? ⟨gb105, 0, none⟩ = some (.int .i64 a0_0) := (blk_cell BK105.out 0).trans rfl
          have hcz12_1 : wr.cell? ⟨gb105, 1, none⟩ = some (.slice A0_1 l0_1.length c0_1) := (blk_cell BK105.out 1).trans rfl
          have hfz12_0 := blk_frozen BK105.out 0
          have hfz12_1 := blk_frozen BK105.out 1
          go_wp2
          go_ret
          exact ⟨by first | rfl | (simp [errW_none, errW_some] <;> rfl) | (simp [*, errW_none, errW_some] <;> rfl), by repeat (first | (with_reducible first | exact HB.out | apply below_alloc | apply pw_below_drewN | apply below_drew1 | refine below_set ?_ GE105.out) | exact HB.out)⟩
        · rw [if_neg c11] at H
          have c11b0 : ((l0_1.length : Int) == 0) = false := beq_eq_false_iff_ne.mpr c11
          have c11b1 : ((l0_1.length : Int) != 0) = true := bne_iff_ne.mpr c11
          have c11b2 : ¬ (l0_1 = []) := fun h_ => c11 (by rw [h_]; rfl)
          by_cases c13 : (l0_1.length : Int) ≤ 100
          · rw [if_pos c13] at H
            have c13b0 : decide ((l0_1.length : Int) ≤ 100) = true := decide_eq_true c13
            have c13b1 : decide (l0_1.length ≤ 100) = true := decide_eq_true (by omega)
            clear c13
            obtain ⟨ji14, hji14⟩ : ∃ j_ : Int, (wrap64 ((l0_1.length : Int) - 1)) = j_ := ⟨_, rfl⟩
            replace H : (if 0 ≤ (ji14) then (if (ji14) < (l0_1.length : Int) then (if (rd l0_1 (ji14)) = 0 then (some false) else (if a0_0 = 1 then (some true) else (some (a0_0 == (-1))))) else (none)) else (none)) = some r := by first | (rw [hji14] at H; exact H) | (simp only [hji14] at H ⊢; exact H)
            have hji14w : (IntKind.i64.wrap ((l0_1.length : Int) - 1)) = ji14 := (i64_w _).trans hji14
            by_cases c15 : 0 ≤ (ji14)
            · rw [if_pos c15] at H
              have c15b0 : decide (0 ≤ (ji14)) = true := decide_eq_true c15
              clear c15
              by_cases c16 : (ji14) < (l0_1.length : Int)
              · rw [if_pos c16] at H
                have c16b0 : decide ((ji14) < (l0_1.length : Int)) = true := decide_eq_true c16
                clear c16
                by_cases c17 : (rd l0_1 (ji14)) = 0
                · rw [if_pos c17] at H
                  have c17b0 : ((rd l0_1 (ji14)) == 0) = true := beq_iff_eq.mpr c17
                  have c17b1 : ((rd l0_1 (ji14)) != 0) = false := bne_eq_false_iff_eq.mpr c17
                  clear c17
                  obtain rfl := Option.some.inj H
                  have hcz18_0 : wr.cell? ⟨gb105, 0, none⟩ = some (.int .i64 a0_0) := (blk_cell BK105.out 0).trans rfl
                  have hcz18_1 : wr.cell? ⟨gb105, 1, none⟩ = some (.slice A0_1 l0_1.length c0_1) := (blk_cell BK105.out 1).trans rfl
                  have hfz18_0 := blk_frozen BK105.out 0
                  have hfz18_1 := blk_frozen BK105.out 1
                  have p108 : 0 ≤ ((ji14) : Int) := of_decide_eq_true (by first | (with_reducible assumption) | assumption)
                  have q108 : (ji14) < (l0_1.length : Int) := of_decide_eq_true (by first | (with_reducible assumption) | assumption)
                  obtain ⟨ad108, e108, hx108_0⟩ := Kd.at_int HR0_1.out (ji14) p108 q108
                  cases e108
                  replace hx108_0 := (HB.out.cell (World.block_lt_of_cell? w _ hx108_0)).trans hx108_0
                  replace p108 := eq_true p108
                  replace q108 := eq_true q108
                  go_wp2
                  go_ret
                  exact ⟨by first | rfl | (simp [errW_none, errW_some] <;> rfl) | (simp only [← hji14]; first | rfl | (simp [errW_none, errW_some] <;> rfl)) | (simp [*, errW_none, errW_some] <;> rfl), by repeat (first | (with_reducible first | exact HB.out | apply below_alloc | apply pw_below_drewN | apply below_drew1 | refine below_set ?_ GE105.out) | exact HB.out)⟩
                · rw [if_neg c17] at H
                  have c17b0 : ((rd l0_1 (ji14)) == 0) = false := beq_eq_false_iff_ne.mpr c17
                  have c17b1 : ((rd l0_1 (ji14)) != 0) = true := bne_iff_ne.mpr c17
                  by_cases c19 : a0_0 = 1
                  · rw [if_pos c19] at H
                    have c19b0 : (a0_0 == 1) = true := beq_iff_eq.mpr c19
                    have c19b1 : (a0_0 != 1) = false := bne_eq_false_iff_eq.mpr c19
                    clear c19
                    obtain rfl := Option.some.inj H
                    have hcz20_0 : wr.cell? ⟨gb105, 0, none⟩ = some (.int .i64 a0_0) := (blk_cell BK105.out 0).trans rfl
                    have hcz20_1 : wr.cell? ⟨gb105, 1, none⟩ = some (.slice A0_1 l0_1.length c0_1) := (blk_cell BK105.out 1).trans rfl
                    have hfz20_0 := blk_frozen BK105.out 0
                    have hfz20_1 := blk_frozen BK105.out 1
                    have p108 : 0 ≤ ((ji14) : Int) := of_decide_eq_true (by first | (with_reducible assumption) | assumption)
                    have q108 : (ji14) < (l0_1.length : Int) := of_decide_eq_true (by first | (with_reducible assumption) | assumption)
                    obtain ⟨ad108, e108, hx108_0⟩ := Kd.at_int HR0_1.out (ji14) p108 q108
                    cases e108
                    replace hx108_0 := (HB.out.cell (World.block_lt_of_cell? w _ hx108_0)).trans hx108_0
                    replace p108 := eq_true p108
                    replace q108 := eq_true q108
                    go_wp2
                    go_ret
                    exact ⟨by first | rfl | (simp [errW_none, errW_some] <;> rfl) | (simp only [← hji14]; first | rfl | (simp [errW_none, errW_some] <;> rfl)) | (simp [*, errW_none, errW_some] <;> rfl), by repeat (first | (with_reducible first | exact HB.out | apply below_alloc | apply pw_below_drewN | apply below_drew1 | refine below_set ?_ GE105.out) | exact HB.out)⟩
                  · rw [if_neg c19] at H
                    have c19b0 : (a0_0 == 1) = false := beq_eq_false_iff_ne.mpr c19
                    have c19b1 : (a0_0 != 1) = true := bne_iff_ne.mpr c19
                    obtain rfl := Option.some.inj H
                    have hcz21_0 : wr.cell? ⟨gb105, 0, none⟩ = some (.int .i64 a0_0) := (blk_cell BK105.out 0).trans rfl
                    have hcz21_1 : wr.cell? ⟨gb105, 1, none⟩ = some (.slice A0_1 l0_1.length c0_1) := (blk_cell BK105.out 1).trans rfl
                    have hfz21_0 := blk_frozen BK105.out 0
                    have hfz21_1 := blk_frozen BK105.out 1
                    have p108 : 0 ≤ ((ji14) : Int) := of_decide_eq_true (by first | (with_reducible assumption) | assumption)
                    have q108 : (ji14) < (l0_1.length : Int) := of_decide_eq_true (by first | (with_reducible assumption) | assumption)
                    obtain ⟨ad108, e108, hx108_0⟩ := Kd.at_int HR0_1.out (ji14) p108 q108
                    cases e108
                    replace hx108_0 := (HB.out.cell (World.block_lt_of_cell? w _ hx108_0)).trans hx108_0
                    replace p108 := eq_true p108
                    replace q108 := eq_true q108
                    go_wp2
                    go_ret
                    exact ⟨by first | rfl | (simp [errW_none, errW_some] <;> rfl) | (simp only [← hji14]; first | rfl | (simp [errW_none, errW_some] <;> rfl)) | (simp [*, errW_none, errW_some] <;> rfl), by repeat (first | (with_reducible first | exact HB.out | apply below_alloc | apply pw_below_drewN | apply below_drew1 | refine below_set ?_ GE105.out) | exact HB.out)⟩
              · rw [if_neg c16] at H
                exact absurd H (by simp)
            · rw [if_neg c15] at H
              exact absurd H (by simp)
          · rw [if_neg c13] at H
            have c13b0 : decide ((l0_1.length : Int) ≤ 100) = false := decide_eq_false c13
            have c13b1 : decide (l0_1.length ≤ 100) = false := decide_eq_false (by omega)
            clear c13
            obtain rfl := Option.some.inj H
            go_wp2
            go_ret
            exact ⟨by first | rfl | (simp [errW_none, errW_some] <;> rfl) | (simp [*, errW_none, errW_some] <;> rfl), by repeat (first | (with_reducible first | exact HB.out | apply below_alloc | apply pw_below_drewN | apply below_drew1 | refine below_set ?_ GE105.out) | exact HB.out)⟩
end Go.Proofs.Ytjddhnjjeomfjaa.PW
end
section
namespace Go.Proofs.Ytjddhnjjeomfjaa.PW
open Go.RowKit Go.Proofs.YtjddhnjjeomfjaaW.PrintWords Go.Proofs.YtjddhnjjeomfjaaW.PrintLast Go.Proofs.YtjddhnjjeomfjaaW.PrintMore
attribute [local go_sem] max2_int min2_int max_two min_two max_three min_three max_four min_four   -- for this text's walks alone
set_option linter.unusedVariables false
set_option linter.unusedSimpArgs false
mutual
def impl_IsWhole.j0 : Nat → Int → Bool → Int → List Int → Option (Bool)
  | 0, _, _, _, _ => none
  | k + 1, x3, x28, x308000, x308001 => if x28 = true then (some false) else (impl_IsWhole.l0 k x3 x308001 (x308001.length : Int) 0 x308000 x308001)
def impl_IsWhole.l0 : Nat → Int → List Int → Int → Int → Int → List Int → Option (Bool)
  | 0, _, _, _, _, _, _ => none
  | k + 1, x3, x30, x31, x32, x308000, x308001 => if x32 < x31 then (if 0 ≤ x32 then (if x32 < (x30.length : Int) then (if (rd x30 x32) < 0 then (some false) else (if (rd x30 x32) > 16777215 then (some false) else (impl_IsWhole.l0 k x3 x30 x31 (wrap64 (x32 + 1)) x308000 x308001))) else (none)) else (none)) else (if x3 = 0 then (some true) else (if 0 ≤ (wrap64 (x3 - 1)) then (if (wrap64 (x3 - 1)) < (x308001.length : Int) then (some ((rd x308001 (wrap64 (x3 - 1))) != 0)) else (none)) else (none)))
end
def impl_IsWhole.f (k : Nat) (a0_0 : Int) (l0_1 : List Int) : Option (Bool) := if (l0_1.length : Int) > 100 then (impl_IsWhole.j0 k (l0_1.length : Int) true a0_0 l0_1) else (if a0_0 < (-1) then (impl_IsWhole.j0 k (l0_1.length : Int) true a0_0 l0_1) else (if a0_0 > 1 then (impl_IsWhole.j0 k (l0_1.length : Int) true a0_0 l0_1) else (impl_IsWhole.j0 k (l0_1.length : Int) ((a0_0 == 0) != ((l0_1.length : Int) == 0)) a0_0 l0_1)))
theorem impl_IsWhole.mono_l : ∀ k, (∀ y0 y1 y2 y3, LeO (impl_IsWhole.j0 k y0 y1 y2 y3) (impl_IsWhole.j0 (k + 1) y0 y1 y2 y3)) ∧ (∀ y0 y1 y2 y3 y4 y5, LeO (impl_IsWhole.l0 k y0 y1 y2 y3 y4 y5) (impl_IsWhole.l0 (k + 1) y0 y1 y2 y3 y4 y5))
  | 0 => ⟨fun _ _ _ _ r h => by simp [impl_IsWhole.j0] at h, fun _ _ _ _ _ _ r h => by simp [impl_IsWhole.l0] at h⟩
  | k + 1 => by
    obtain ⟨ih0, ih1⟩ := impl_IsWhole.mono_l k
    refine ⟨?_, ?_⟩
    · intro y0 y1 y2 y3
      unfold impl_IsWhole.j0
      repeat' first
      | (with_reducible exact ih0 _ _ _ _)
      | (with_reducible exact ih1 _ _ _ _ _ _)
      | (with_reducible exact LeO.refl _)
      | (with_reducible exact LeO.none _)
      | (with_reducible refine LeO.ite ?_ ?_)
      | (with_reducible refine LeO.bind ?_ (fun _ => ?_))
      | exact ih0 _ _ _ _
      | exact ih1 _ _ _ _ _ _
      | exact LeO.none _
      | refine LeO.ite ?_ ?_
      | refine LeO.bind ?_ (fun _ => ?_)
    · intro y0 y1 y2 y3 y4 y5
      unfold impl_IsWhole.l0
      repeat' first
      | (with_reducible exact ih0 _ _ _ _)
      | (with_reducible exact ih1 _ _ _ _ _ _)
      | (with_reducible exact LeO.refl _)
      | (with_reducible exact LeO.none _)
      | (with_reducible refine LeO.ite ?_ ?_)
      | (with_reducible refine LeO.bind ?_ (fun _ => ?_))
      | exact ih0 _ _ _ _
      | exact ih1 _ _ _ _ _ _
      | exact LeO.none _
      | refine LeO.ite ?_ ?_
      | refine LeO.bind ?_ (fun _ => ?_)
theorem impl_IsWhole.mono : ∀ a0 a1 k, LeO (impl_IsWhole.f k a0 a1) (impl_IsWhole.f (k + 1) a0 a1) := by
  intro a0 a1 k
  obtain ⟨ih0, ih1⟩ := impl_IsWhole.mono_l k
  unfold impl_IsWhole.f
  repeat' first
      | (with_reducible exact ih0 _ _ _ _)
      | (with_reducible exact ih1 _ _ _ _ _ _)
      | (with_reducible exact LeO.refl _)
      | (with_reducible exact LeO.none _)
      | (with_reducible refine LeO.ite ?_ ?_)
      | (with_reducible refine LeO.bind ?_ (fun _ => ?_))
      | exact ih0 _ _ _ _
      | exact ih1 _ _ _ _ _ _
      | exact LeO.none _
      | refine LeO.ite ?_ ?_
      | refine LeO.bind ?_ (fun _ => ?_)
set_option maxHeartbeats 8000000 in
set_option maxRecDepth 100000 in
theorem impl_IsWhole.calls (k : Nat) (a0_0 : Int) (A0_1 : Option Addr) (c0_1 : Nat) (l0_1 : List Int) (r : Bool) (w : World) (hr0_1 : Kd.C (Kd.int .i64) w A0_1 l0_1.length l0_1) (hc0_1 : l0_1.length ≤ c0_1) (h : impl_IsWhole.f k a0_0 l0_1 = some r) :
    Calls Try.prog 61 #[.agg #[.int .i64 a0_0, .slice A0_1 l0_1.length c0_1]] w fun e w' => e = .returned (.bool r) ∧ Below w.heap.size w w' := by
  have hu31 := Try.underlying31
  have HR0_1 := Aside0.mk hr0_1
  have HC0_1 := Aside0.mk hc0_1
  clear hr0_1 hc0_1
  have HB := Aside0.mk (Below.refl w.heap.size w)
  have H : (if (l0_1.length : Int) > 100 then (impl_IsWhole.j0 k (l0_1.length : Int) true a0_0 l0_1) else (if a0_0 < (-1) then (impl_IsWhole.j0 k (l0_1.length : Int) true a0_0 l0_1) else (if a0_0 > 1 then (impl_IsWhole.j0 k (l0_1.length : Int) true a0_0 l0_1) else (impl_IsWhole.j0 k (l0_1.length : Int) ((a0_0 == 0) != ((l0_1.length : Int) == 0)) a0_0 l0_1)))) = some r := h
  clear h
  have HC2 := Aside0.mk H
  clear H
  go_enter Try.func61, Try.ntmps61
  go_upto_region 2 with (first | ((with_reducible refine gate_dst (N := 1) rfl ?_); refine box_event ?hg (N := 1) ?hd (cs := #[.int .i64 a0_0, .slice A0_1 l0_1.length c0_1]) (t := 31) ?hr ?_; (case hd => rfl); (case hg => rfl); (case hr => first | (go_simp; done) | (go_simp; rfl)); intro gb307 hg w3 hbox hb; have n0_ := Aside0.mk (below_step (by repeat (first | (with_reducible first | exact HB.out | apply below_alloc | apply pw_below_drewN | apply below_drew1) | exact HB.out)) hb); have n1_ := Aside0.mk (hbox); have n2_ := Aside0.mk ((by rw [hg]; exact (below_size (by repeat (first | (with_reducible first | exact HB.out | apply below_alloc | apply pw_below_drewN | apply below_drew1) | exact HB.out))) : w.heap.size ≤ gb307)); have n3_ := Aside0.mk ((by rw [hg]; exact (below_size (by repeat (first | (with_reducible first | exact HB.out | apply below_alloc | apply pw_below_drewN | apply below_drew1) | exact HB.out))) : w.heap.size ≤ gb307)); clear HB; have HB := n0_; have BK307 := n1_; have GW307 := n2_; have GE307 := n3_; clear n0_ n1_ n2_ n3_; clear hb hbox hg; have hcz4_0 : w3.cell? ⟨gb307, 0, none⟩ = some (.int .i64 a0_0) := (blk_cell BK307.out 0).trans rfl; have hcz4_1 : w3.cell? ⟨gb307, 1, none⟩ = some (.slice A0_1 l0_1.length c0_1) := (blk_cell BK307.out 1).trans rfl; have hfz4_0 := blk_frozen BK307.out 0; have hfz4_1 := blk_frozen BK307.out 1))
  (try simp only [Act.put, List.setIfInBounds_toArray, List.set_cons_zero, List.set_cons_succ])
  go_cut [28] (fun v28 wc => ∃ (kq : Nat) (x28_1 : Bool), v28 = .bool x28_1 ∧ Aside0 (impl_IsWhole.j0 kq (l0_1.length : Int) x28_1 a0_0 l0_1 = some r) ∧ Aside0 (kq ≤ k) ∧ Aside0 (wc.heap[gb307]? = some (.cells #[.int .i64 a0_0, (.slice A0_1 l0_1.length c0_1)] 31 (0, 0))) ∧ Aside0 (Below w.heap.size w wc))
  case first =>
    have H := HC2.out
    clear HC2
    by_cases c5 : (l0_1.length : Int) > 100
    · rw [if_pos c5] at H
      have c5b0 : decide (100 < (l0_1.length : Int)) = true := decide_eq_true c5
      have c5b1 : decide (100 < l0_1.length) = true := decide_eq_true (by omega)
      clear c5
      (first | rw [c5b0] | (simp only [i64_w, i32_w]; rw [c5b0]) | skip)
      have H' := Aside0.mk H
      clear H
      go_wp2
      go_meet
      case rel => exact ⟨_, (true), (by first | rfl | (simp; done) | (simp [*]; done)), H', ⟨by first | omega | exact Nat.le_refl _⟩, ⟨by (with_reducible repeat (first | refine blk_drewN ?_ _ | refine blk_drew ?_ | refine blk_alloc ?_ _)); exact BK307.out⟩, ⟨by repeat (first | (with_reducible first | exact HB.out | apply below_alloc | apply pw_below_drewN | apply below_drew1 | refine below_set ?_ GE307.out) | exact HB.out)⟩⟩
    · rw [if_neg c5] at H
      have c5b0 : decide (100 < (l0_1.length : Int)) = false := decide_eq_false c5
      have c5b1 : decide (100 < l0_1.length) = false := decide_eq_false (by omega)
      clear c5
      (first | rw [c5b0] | (simp only [i64_w, i32_w]; rw [c5b0]) | skip)
      by_cases c6 : a0_0 < (-1)
      · rw [if_pos c6] at H
        have c6b0 : decide (a0_0 < (-1)) = true := decide_eq_true c6
        clear c6
        have H' := Aside0.mk H
        clear H
        have hcz7_0 : w3.cell? ⟨gb307, 0, none⟩ = some (.int .i64 a0_0) := (blk_cell BK307.out 0).trans rfl
        have hcz7_1 : w3.cell? ⟨gb307, 1, none⟩ = some (.slice A0_1 l0_1.length c0_1) := (blk_cell BK307.out 1).trans rfl
        have hfz7_0 := blk_frozen BK307.out 0
        have hfz7_1 := blk_frozen BK307.out 1
        go_wp2
        go_meet
        case rel => exact ⟨_, (true), (by first | rfl | (simp; done) | (simp [*]; done)), H', ⟨by first | omega | exact Nat.le_refl _⟩, ⟨by (with_reducible repeat (first | refine blk_drewN ?_ _ | refine blk_drew ?_ | refine blk_alloc ?_ _)); exact BK307.out⟩, ⟨by repeat (first | (with_reducible first | exact HB.out | apply below_alloc | apply pw_below_drewN | apply below_drew1 | refine below_set ?_ GE307.out) | exact HB.out)⟩⟩
      · rw [if_neg c6] at H
        have c6b0 : decide (a0_0 < (-1)) = false := decide_eq_false c6
        clear c6
        by_cases c8 : a0_0 > 1
        · rw [if_pos c8] at H
          have c8b0 : decide (1 < a0_0) = true := decide_eq_true c8
          clear c8
          have H' := Aside0.mk H
          clear H
          have hcz9_0 : w3.cell? ⟨gb307, 0, none⟩ = some (.int .i64 a0_0) := (blk_cell BK307.out 0).trans rfl
          have hcz9_1 : w3.cell? ⟨gb307, 1, none⟩ = some (.slice A0_1 l0_1.length c0_1) := (blk_cell BK307.out 1).trans rfl
          have hfz9_0 := blk_frozen BK307.out 0
          have hfz9_1 := blk_frozen BK307.out 1
          go_wp2
          go_meet
          case rel => exact ⟨_, (true), (by first | rfl | (simp; done) | (simp [*]; done)), H', ⟨by first | omega | exact Nat.le_refl _⟩, ⟨by (with_reducible repeat (first | refine blk_drewN ?_ _ | refine blk_drew ?_ | refine blk_alloc ?_ _)); exact BK307.out⟩, ⟨by repeat (first | (with_reducible first | exact HB.out | apply below_alloc | apply pw_below_drewN | apply below_drew1 | refine below_set ?_ GE307.out) | exact HB.out)⟩⟩
        · rw [if_neg c8] at H
          have c8b0 : decide (1 < a0_0) = false := decide_eq_false c8
          clear c8
          have H' := Aside0.mk H
          clear H
          have hcz10_0 : w3.cell? ⟨gb307, 0, none⟩ = some (.int .i64 a0_0) := (blk_cell BK307.out 0).trans rfl
          have hcz10_1 : w3.cell? ⟨gb307, 1, none⟩ = some (.slice A0_1 l0_1.length c0_1) := (blk_cell BK307.out 1).trans rfl
          have hfz10_0 := blk_frozen BK307.out 0
          have hfz10_1 := blk_frozen BK307.out 1
          go_wp2
          go_meet
          case rel => exact ⟨_, (((a0_0 == 0) != ((l0_1.length : Int) == 0))), (by first | rfl | (simp; done) | (simp [*]; done)), H', ⟨by first | omega | exact Nat.le_refl _⟩, ⟨by (with_reducible repeat (first | refine blk_drewN ?_ _ | refine blk_drew ?_ | refine blk_alloc ?_ _)); exact BK307.out⟩, ⟨by repeat (first | (with_reducible first | exact HB.out | apply below_alloc | apply pw_below_drewN | apply below_drew1 | refine below_set ?_ GE307.out) | exact HB.out)⟩⟩
  case rest =>
    clear HC2
    try clear p2
    try clear c5
    try clear c5b0
    try clear c5b1
    try clear c6
    try clear c6b0
    try clear c8
    try clear c8b0
    try clear hcz10_0
    try clear hcz10_1
    try clear hcz4_0
    try clear hcz4_1
    try clear hcz7_0
    try clear hcz7_1
    try clear hcz9_0
    try clear hcz9_1
    try clear hfz10_0
    try clear hfz10_1
    try clear hfz4_0
    try clear hfz4_1
    try clear hfz7_0
    try clear hfz7_1
    try clear hfz9_0
    try clear hfz9_1
    obtain ⟨kq, x28_1, rfl, HA, HJ1, BK307, HB⟩ := hcut
    cases kq with
    | zero => exact absurd HA.out (by simp [impl_IsWhole.j0])
    | succ kj1 =>
      have H := HA.out
      clear HA
      simp only [impl_IsWhole.j0] at H
      by_cases c11 : x28_1 = true
      · subst c11
        have H1 : (some false) = some r := by rw [if_pos rfl] at H; exact H
        clear H
        have H := H1
        clear H1
        obtain rfl := Option.some.inj H
        go_wp2
        go_ret
        exact ⟨by first | rfl | (simp [errW_none, errW_some] <;> rfl) | (simp [*, errW_none, errW_some] <;> rfl), by repeat (first | (with_reducible first | exact HB.out | apply below_alloc | apply pw_below_drewN | apply below_drew1 | refine below_set ?_ GE307.out) | exact HB.out)⟩
      · replace c11 := Bool.eq_false_iff.mpr c11
        subst c11
        have H1 : (impl_IsWhole.l0 kj1 (l0_1.length : Int) l0_1 (l0_1.length : Int) 0 a0_0 l0_1) = some r := by rw [if_neg (show ¬ (false = true) by decide)] at H; exact H
        clear H
        have H := H1
        clear H1
        have H' := Aside0.mk H
        clear H
        have hcz12_0 : wc.cell? ⟨gb307, 0, none⟩ = some (.int .i64 a0_0) := (blk_cell BK307.out 0).trans rfl
        have hcz12_1 : wc.cell? ⟨gb307, 1, none⟩ = some (.slice A0_1 l0_1.length c0_1) := (blk_cell BK307.out 1).trans rfl
        have hfz12_0 := blk_frozen BK307.out 0
        have hfz12_1 := blk_frozen BK307.out 1
        go_wp2
        go_loopg [32] kj1 (fun kq v32 w' => ∃ (x32_2 : Int), v32 = .int .i64 x32_2 ∧ Aside0 (impl_IsWhole.l0 kq (l0_1.length : Int) l0_1 (l0_1.length : Int) x32_2 a0_0 l0_1 = some r) ∧ Aside0 (kq ≤ kj1) ∧ Aside0 (w'.heap[gb307]? = some (.cells #[.int .i64 a0_0, (.slice A0_1 l0_1.length c0_1)] 31 (0, 0))) ∧ Aside0 (Below w.heap.size w w'))
        case atStart => exact ⟨(0), (by first | rfl | (simp; done) | (simp [*]; done)), H', ⟨Nat.le_refl _⟩, ⟨by (with_reducible repeat (first | refine blk_drewN ?_ _ | refine blk_drew ?_ | refine blk_alloc ?_ _)); exact BK307.out⟩, ⟨by repeat (first | (with_reducible first | exact HB.out | apply below_alloc | apply pw_below_drewN | apply below_drew1 | refine below_set ?_ GE307.out) | exact HB.out)⟩⟩
        case round =>
          clear H'
          try clear c1
          try clear p2
          try clear c5
          try clear c5b0
          try clear c5b1
          try clear c6
          try clear c6b0
          try clear c8
          try clear c8b0
          try clear c11
          try clear hcz10_0
          try clear hcz10_1
          try clear hcz12_0
          try clear hcz12_1
          try clear hcz4_0
          try clear hcz4_1
          try clear hcz7_0
          try clear hcz7_1
          try clear hcz9_0
          try clear hcz9_1
          try clear hfz10_0
          try clear hfz10_1
          try clear hfz12_0
          try clear hfz12_1
          try clear hfz4_0
          try clear hfz4_1
          try clear hfz7_0
          try clear hfz7_1
          try clear hfz9_0
          try clear hfz9_1
          try clear p2
          obtain ⟨x32_2, rfl, HA, HK2, BK307, HB⟩ := hrel
          cases gk with
          | zero => exact absurd HA.out (by simp [impl_IsWhole.l0])
          | succ k2 =>
            have H := HA.out
            clear HA
            simp only [impl_IsWhole.l0] at H
            by_cases c13 : x32_2 < (l0_1.length : Int)
            · rw [if_pos c13] at H
              have c13b0 : decide (x32_2 < (l0_1.length : Int)) = true := decide_eq_true c13
              clear c13
              by_cases c14 : 0 ≤ x32_2
              · rw [if_pos c14] at H
                have c14b0 : decide (0 ≤ x32_2) = true := decide_eq_true c14
                clear c14
                by_cases c15 : x32_2 < (l0_1.length : Int)
                · rw [if_pos c15] at H
                  have c15b0 : decide (x32_2 < (l0_1.length : Int)) = true := decide_eq_true c15
                  clear c15
                  by_cases c16 : (rd l0_1 x32_2) < 0
                  · rw [if_pos c16] at H
                    have c16b0 : decide ((rd l0_1 x32_2) < 0) = true := decide_eq_true c16
                    clear c16
                    obtain rfl := Option.some.inj H
                    have p308 : 0 ≤ (x32_2 : Int) := of_decide_eq_true (by first | (with_reducible assumption) | assumption)
                    have q308 : x32_2 < (l0_1.length : Int) := of_decide_eq_true (by first | (with_reducible assumption) | assumption)
                    obtain ⟨ad308, e308, hx308_0⟩ := Kd.at_int HR0_1.out x32_2 p308 q308
                    cases e308
                    replace hx308_0 := (HB.out.cell (World.block_lt_of_cell? w _ hx308_0)).trans hx308_0
                    replace p308 := eq_true p308
                    replace q308 := eq_true q308
                    go_wp2
                    go_ret
                    exact ⟨by first | rfl | (simp [errW_none, errW_some] <;> rfl) | (simp [*, errW_none, errW_some] <;> rfl), by repeat (first | (with_reducible first | exact HB.out | apply below_alloc | apply pw_below_drewN | apply below_drew1 | refine below_set ?_ GE307.out) | exact HB.out)⟩
                  · rw [if_neg c16] at H
                    have c16b0 : decide ((rd l0_1 x32_2) < 0) = false := decide_eq_false c16
                    clear c16
                    by_cases c17 : (rd l0_1 x32_2) > 16777215
                    · rw [if_pos c17] at H
                      have c17b0 : decide (16777215 < (rd l0_1 x32_2)) = true := decide_eq_true c17
                      clear c17
                      obtain rfl := Option.some.inj H
                      have p308 : 0 ≤ (x32_2 : Int) := of_decide_eq_true (by first | (with_reducible assumption) | assumption)
                      have q308 : x32_2 < (l0_1.length : Int) := of_decide_eq_true (by first | (with_reducible assumption) | assumption)
                      obtain ⟨ad308, e308, hx308_0⟩ := Kd.at_int HR0_1.out x32_2 p308 q308
                      cases e308
                      replace hx308_0 := (HB.out.cell (World.block_lt_of_cell? w _ hx308_0)).trans hx308_0
                      replace p308 := eq_true p308
                      replace q308 := eq_true q308
                      go_wp2
                      go_ret
                      exact ⟨by first | rfl | (simp [errW_none, errW_some] <;> rfl) | (simp [*, errW_none, errW_some] <;> rfl), by repeat (first | (with_reducible first | exact HB.out | apply below_alloc | apply pw_below_drewN | apply below_drew1 | refine below_set ?_ GE307.out) | exact HB.out)⟩
                    · rw [if_neg c17] at H
                      have c17b0 : decide (16777215 < (rd l0_1 x32_2)) = false := decide_eq_false c17
                      clear c17
                      have H' := Aside0.mk H
                      clear H
                      have p308 : 0 ≤ (x32_2 : Int) := of_decide_eq_true (by first | (with_reducible assumption) | assumption)
                      have q308 : x32_2 < (l0_1.length : Int) := of_decide_eq_true (by first | (with_reducible assumption) | assumption)
                      obtain ⟨ad308, e308, hx308_0⟩ := Kd.at_int HR0_1.out x32_2 p308 q308
                      cases e308
                      replace hx308_0 := (HB.out.cell (World.block_lt_of_cell? w _ hx308_0)).trans hx308_0
                      replace p308 := eq_true p308
                      replace q308 := eq_true q308
                      go_wp2
                      go_roundg k2
                      case measure => have := HJ1.out; have := HK2.out; omega
                      case rel => exact ⟨(wrap64 (x32_2 + 1)), (by first | rfl | (simp; done) | (simp [*]; done)), H', ⟨by have := HJ1.out; have := HK2.out; omega⟩, ⟨by (with_reducible repeat (first | refine blk_drewN ?_ _ | refine blk_drew ?_ | refine blk_alloc ?_ _)); exact BK307.out⟩, ⟨by repeat (first | (with_reducible first | exact HB.out | apply below_alloc | apply pw_below_drewN | apply below_drew1 | refine below_set ?_ GE307.out) | exact HB.out)⟩⟩
                · rw [if_neg c15] at H
                  exact absurd H (by simp)
              · rw [if_neg c14] at H
                exact absurd H (by simp)
            · rw [if_neg c13] at H
              have c13b0 : decide (x32_2 < (l0_1.length : Int)) = false := decide_eq_false c13
              clear c13
              by_cases c18 : (l0_1.length : Int) = 0
              · rw [if_pos c18] at H
                have c18b0 : ((l0_1.length : Int) == 0) = true := beq_iff_eq.mpr c18
                have c18b1 : ((l0_1.length : Int) != 0) = false := bne_eq_false_iff_eq.mpr c18
                clear c18
                obtain rfl := Option.some.inj H
                go_wp2
                go_ret
                exact ⟨by first | rfl | (simp [errW_none, errW_some] <;> rfl) | (simp [*, errW_none, errW_some] <;> rfl), by repeat (first | (with_reducible first | exact HB.out | apply below_alloc | apply pw_below_drewN | apply below_drew1 | refine below_set ?_ GE307.out) | exact HB.out)⟩
              · rw [if_neg c18] at H
                have c18b0 : ((l0_1.length : Int) == 0) = false := beq_eq_false_iff_ne.mpr c18
                have c18b1 : ((l0_1.length : Int) != 0) = true := bne_iff_ne.mpr c18
                have c18b2 : ¬ (l0_1 = []) := fun h_ => c18 (by rw [h_]; rfl)
                obtain ⟨ji19, hji19⟩ : ∃ j_ : Int, (wrap64 ((l0_1.length : Int) - 1)) = j_ := ⟨_, rfl⟩
                replace H : (if 0 ≤ (ji19) then (if (ji19) < (l0_1.length : Int) then (some ((rd l0_1 (ji19)) != 0)) else (none)) else (none)) = some r := by first | (rw [hji19] at H; exact H) | (simp only [hji19] at H ⊢; exact H)
                have hji19w : (IntKind.i64.wrap ((l0_1.length : Int) - 1)) = ji19 := (i64_w _).trans hji19
                by_cases c20 : 0 ≤ (ji19)
                · rw [if_pos c20] at H
                  have c20b0 : decide (0 ≤ (ji19)) = true := decide_eq_true c20
                  clear c20
                  by_cases c21 : (ji19) < (l0_1.length : Int)
                  · rw [if_pos c21] at H
                    have c21b0 : decide ((ji19) < (l0_1.length : Int)) = true := decide_eq_true c21
                    clear c21
                    obtain rfl := Option.some.inj H
                    have hcz22_0 : wr.cell? ⟨gb307, 0, none⟩ = some (.int .i64 a0_0) := (blk_cell BK307.out 0).trans rfl
                    have hcz22_1 : wr.cell? ⟨gb307, 1, none⟩ = some (.slice A0_1 l0_1.length c0_1) := (blk_cell BK307.out 1).trans rfl
                    have hfz22_0 := blk_frozen BK307.out 0
                    have hfz22_1 := blk_frozen BK307.out 1
                    have p309 : 0 ≤ ((ji19) : Int) := of_decide_eq_true (by first | (with_reducible assumption) | assumption)
                    have q309 : (ji19) < (l0_1.length : Int) := of_decide_eq_true (by first | (with_reducible assumption) | assumption)
                    obtain ⟨ad309, e309, hx309_0⟩ := Kd.at_int HR0_1.out (ji19) p309 q309
                    cases e309
                    replace hx309_0 := (HB.out.cell (World.block_lt_of_cell? w _ hx309_0)).trans hx309_0
                    replace p309 := eq_true p309
                    replace q309 := eq_true q309
                    go_wp2
                    go_ret
                    exact ⟨by first | rfl | (simp [errW_none, errW_some] <;> rfl) | (simp only [← hji19]; first | rfl | (simp [errW_none, errW_some] <;> rfl)) | (simp [*, errW_none, errW_some] <;> rfl), by repeat (first | (with_reducible first | exact HB.out | apply below_alloc | apply pw_below_drewN | apply below_drew1 | refine below_set ?_ GE307.out) | exact HB.out)⟩
                  · rw [if_neg c21] at H
                    exact absurd H (by simp)
                · rw [if_neg c20] at H
                  exact absurd H (by simp)
end Go.Proofs.Ytjddhnjjeomfjaa.PW
end
section
namespace Go.Proofs.Ytjddhnjjeomfjaa.Pb
open Go.RowKit Go.Proofs.YtjddhnjjeomfjaaW.PrintWords Go.Proofs.Ytjddhnjjeomfjaa.PW Go.Proofs.Ytjddhnjjeomfjaa.Pc
set_option linter.unusedVariables false
set_option linter.unusedSimpArgs false
theorem sz_le (s : Int) (l : List Int) (n : Int) (h : (l.length : Int) ≤ n) (hn : n ≤ 1048576) : laws_szWhole.f s l n = some (n - l.length) := by
  unfold laws_szWhole.f laws_szInt64S.f
  rw [wrapZ _ (by omega) (by omega), if_neg (by omega)]
  simp only [Option.bind_some]
  rw [if_neg (by omega)]
theorem sz_gt (s : Int) (l : List Int) (n : Int) (hm : l.length ≤ 9223372036854775807) (hn : n ≤ 1048576) (h : n < (l.length : Int)) (h0 : 0 ≤ n) : laws_szWhole.f s l n = some (-1) := by
  unfold laws_szWhole.f laws_szInt64S.f
  rw [wrapZ _ (by omega) (by omega), if_pos (by omega)]
  rfl
theorem take_step {l ys : List Int} {i : Nat} (hi : i < l.length) (hy : ys.length = l.length) (h : ys.take i = l.take i) : (ys.set i (l.getD i 0)).take (i + 1) = l.take (i + 1) := by
  rw [List.take_succ_eq_append_getElem (by simp; omega), List.take_succ_eq_append_getElem hi, Dg.take_set, h]
  simp [hi]
theorem toInt64S_loop (l : List Int) (hl : l.length ≤ 1048576) (d : Nat) : ∀ (i : Nat) (ys : List Int), i + d = l.length → ys.length = l.length → ys.take i = l.take i → Ev (fun k => laws_toInt64S.l0 k l ys (i : Int)) l := by
  induction d with
  | zero =>
    intro i ys hd hy h
    refine Ev.step (f := fun k => some l) (fun k => ?_) (ev_of fun _ => rfl)
    simp only [laws_toInt64S.l0]
    rw [if_neg (by omega)]
    rw [List.take_of_length_le (by omega), List.take_of_length_le (by omega)] at h
    rw [h]
  | succ d ih =>
    intro i ys hd hy h
    refine Ev.step (f := fun k => laws_toInt64S.l0 k l (ys.set i (l.getD i 0)) ((i + 1 : Nat) : Int)) (fun k => ?_) (ih (i + 1) _ (by omega) (by simpa using hy) (take_step (by omega) hy h))
    simp only [laws_toInt64S.l0]
    rw [if_pos (by omega), if_pos (by omega), if_pos (by omega), wrapN i (by omega), rdN, Int.toNat_natCast]
theorem toWhole (s : Int) (l : List Int) (hl : l.length ≤ 1048576) : Ev (fun k => laws_toWhole.f k s l) (s, l) := by
  unfold laws_toWhole.f laws_toInt64S.f
  refine Ev.bind (f := fun _ t => some (s, t)) (ifp (by omega) (ifp (by omega) ?_)) (ev_of fun _ => rfl)
  exact (toInt64S_loop l hl l.length 0 _ (by omega) (by simp) (by simp))
theorem eqInt64S_loop (l : List Int) (hl : l.length ≤ 9223372036854775807) (d : Nat) : ∀ (i : Nat), i + d = l.length → Ev (fun k => laws_eqInt64S.l0 k l l (i : Int)) true := by
  induction d with
  | zero =>
    intro i hd
    refine Ev.step (f := fun k => some true) (fun k => ?_) (ev_of fun _ => rfl)
    simp only [laws_eqInt64S.l0]
    rw [if_neg (by omega)]
  | succ d ih =>
    intro i hd
    refine Ev.step (f := fun k => laws_eqInt64S.l0 k l l ((i + 1 : Nat) : Int)) (fun k => ?_) (ih (i + 1) (by omega))
    simp only [laws_eqInt64S.l0]
    rw [if_pos (by omega), if_pos (by omega), if_pos (by omega), if_pos trivial, wrapZ _ (by omega) (by omega)]
    rfl
theorem eqWhole_self (s : Int) (l : List Int) (hl : l.length ≤ 9223372036854775807) : Ev (fun k => laws_eqWhole.f k s l s l) true := by
  unfold laws_eqWhole.f laws_eqInt64S.f
  exact ifp rfl (Ev.bind (f := fun _ (t : Bool) => if t = true then some true else some false) (ifp rfl (eqInt64S_loop l hl l.length 0 (by omega))) (ev_of fun _ => rfl))
def digB (l : List Int) : Bool := l.all fun x => decide (0 ≤ x) && decide (x ≤ 16777215)
def isW (s : Int) (l : List Int) : Bool :=
  digB l && (if l.length = 0 then s == 0 else decide (l.length ≤ 100) && (l.getD (l.length - 1) 0 != 0) && (s == 1 || s == -1))
theorem l02Is_loop (s : Int) (l : List Int) (hl : l.length ≤ 9223372036854775807) (d : Nat) : ∀ (i : Nat), i + d = l.length →
    Ev (fun k => spec_l02Is.l0 k (l.length : Int) (i : Int) s l) (digB (l.drop i) && (if l.length = 0 then s == 0 else decide (l.length ≤ 100) && (l.getD (l.length - 1) 0 != 0) && (s == 1 || s == -1))) := by
  induction d with
  | zero =>
    intro i hd
    have hi : i = l.length := by omega
    subst hi
    refine Ev.step (f := fun k => some _) (fun k => ?_) (ev_of fun _ => rfl)
    simp only [spec_l02Is.l0]
    rw [if_neg (by omega), List.drop_length]
    simp only [digB, List.all_nil, Bool.true_and]
    by_cases h0 : l.length = 0
    · rw [if_pos (by omega), if_pos h0]
    · rw [if_neg (by omega), if_neg h0]
      by_cases h1 : l.length ≤ 100
      · rw [if_pos (by omega), wrapZ _ (by omega) (by omega), if_pos (by omega), if_pos (by omega), show ((l.length : Int) - 1) = ((l.length - 1 : Nat) : Int) by omega, rdN]
        simp only [h1, decide_true, Bool.true_and]
        by_cases h2 : l.getD (l.length - 1) 0 = 0
        · rw [if_pos h2, h2]; simp
        · rw [if_neg h2]
          have h4 : (l.getD (l.length - 1) 0 != 0) = true := by rw [bne_iff_ne]; exact h2
          rw [h4]
          by_cases h3 : s = 1
          · rw [if_pos h3]; simp [h3]
          · rw [if_neg h3]; simp [h3]
      · rw [if_neg (by omega)]; simp [h1]
  | succ d ih =>
    intro i hd
    have hlt : i < l.length := by omega
    have hdrop : l.drop i = l.getD i 0 :: l.drop (i + 1) := by rw [List.drop_eq_getElem_cons hlt, Dg.getD_lt hlt]
    by_cases hx : 0 ≤ l.getD i 0 ∧ l.getD i 0 ≤ 16777215
    · have e : digB (l.drop i) = digB (l.drop (i + 1)) := by rw [hdrop]; simp only [digB, List.all_cons, hx.1, hx.2, decide_true, Bool.true_and]
      rw [e]
      refine Ev.step (f := fun k => spec_l02Is.l0 k (l.length : Int) ((i + 1 : Nat) : Int) s l) (fun k => ?_) (ih (i + 1) (by omega))
      simp only [spec_l02Is.l0]
      rw [if_pos (by omega), if_pos (by omega), if_pos (by omega), rdN]
      unfold spec_l01In.f
      rw [if_pos hx.1]
      simp only [Option.bind_some, hx.2, decide_true, if_true]
      rw [wrapZ _ (by omega) (by omega)]
      rfl
    · have e : digB (l.drop i) = false := by rw [hdrop]; simp only [digB, List.all_cons, Bool.and_eq_false_iff, decide_eq_false_iff_not]; omega
      rw [e, Bool.false_and]
      refine Ev.step (f := fun k => some false) (fun k => ?_) (ev_of fun _ => rfl)
      simp only [spec_l02Is.l0]
      rw [if_pos (by omega), if_pos (by omega), if_pos (by omega), rdN]
      unfold spec_l01In.f
      by_cases h1 : 0 ≤ l.getD i 0
      · rw [if_pos h1]
        have h2 : ¬ l.getD i 0 ≤ 16777215 := fun h => hx ⟨h1, h⟩
        simp only [h2, decide_false, Option.bind_some]; rfl
      · rw [if_neg h1]; rfl
theorem l02Is (s : Int) (l : List Int) (hl : l.length ≤ 9223372036854775807) : Ev (fun k => spec_l02Is.f k s l) (isW s l) := by
  have := l02Is_loop s l hl l.length 0 (by omega)
  rw [List.drop_zero] at this
  exact this
theorem impl_loop (s : Int) (l : List Int) (hl : l.length ≤ 9223372036854775807) (d : Nat) : ∀ (i : Nat), i + d = l.length →
    Ev (fun k => impl_IsWhole.l0 k (l.length : Int) l (l.length : Int) (i : Int) s l) (digB (l.drop i) && (decide (l.length = 0) || (l.getD (l.length - 1) 0 != 0))) := by
  induction d with
  | zero =>
    intro i hd
    have hi : i = l.length := by omega
    subst hi
    refine Ev.step (f := fun k => some _) (fun k => ?_) (ev_of fun _ => rfl)
    simp only [impl_IsWhole.l0]
    rw [if_neg (by omega), List.drop_length]
    simp only [digB, List.all_nil, Bool.true_and]
    by_cases h0 : l.length = 0
    · rw [if_pos (by omega)]; simp [h0]
    · rw [if_neg (by omega), wrapZ _ (by omega) (by omega), if_pos (by omega), if_pos (by omega), show ((l.length : Int) - 1) = ((l.length - 1 : Nat) : Int) by omega, rdN]
      simp [h0]
  | succ d ih =>
    intro i hd
    have hlt : i < l.length := by omega
    have hdrop : l.drop i = l.getD i 0 :: l.drop (i + 1) := by rw [List.drop_eq_getElem_cons hlt, Dg.getD_lt hlt]
    by_cases hx : 0 ≤ l.getD i 0 ∧ l.getD i 0 ≤ 16777215
    · have e : digB (l.drop i) = digB (l.drop (i + 1)) := by rw [hdrop]; simp only [digB, List.all_cons, hx.1, hx.2, decide_true, Bool.true_and]
      rw [e]
      refine Ev.step (f := fun k => impl_IsWhole.l0 k (l.length : Int) l (l.length : Int) ((i + 1 : Nat) : Int) s l) (fun k => ?_) (ih (i + 1) (by omega))
      simp only [impl_IsWhole.l0]
      rw [if_pos (by omega), if_pos (by omega), if_pos (by omega), rdN, if_neg (by omega), if_neg (by omega), wrapZ _ (by omega) (by omega)]
      rfl
    · have e : digB (l.drop i) = false := by rw [hdrop]; simp only [digB, List.all_cons, Bool.and_eq_false_iff, decide_eq_false_iff_not]; omega
      rw [e, Bool.false_and]
      refine Ev.step (f := fun k => some false) (fun k => ?_) (ev_of fun _ => rfl)
      simp only [impl_IsWhole.l0]
      rw [if_pos (by omega), if_pos (by omega), if_pos (by omega), rdN]
      by_cases h1 : l.getD i 0 < 0
      · rw [if_pos h1]
      · rw [if_neg h1, if_pos (by omega)]
theorem j0_true (n s : Int) (l : List Int) : Ev (fun k => impl_IsWhole.j0 k n true s l) false :=
  Ev.step (f := fun _ => some false) (fun k => by simp only [impl_IsWhole.j0]; rw [if_pos trivial]) (ev_of fun _ => rfl)
theorem iIs (s : Int) (l : List Int) (hl : l.length ≤ 9223372036854775807) : Ev (fun k => impl_IsWhole.f k s l) (isW s l) := by
  unfold impl_IsWhole.f
  by_cases h1 : (l.length : Int) > 100
  · have : isW s l = false := by unfold isW; rw [if_neg (by omega), show decide (l.length ≤ 100) = false by simp; omega]; simp
    rw [this]; exact ifp h1 (j0_true _ _ _)
  · refine ifn h1 ?_
    by_cases h2 : s < -1
    · have : isW s l = false := by
        unfold isW
        have e1 : (s == 0) = false := by simp; omega
        have e2 : (s == 1 || s == -1) = false := by simp; omega
        rw [e1, e2]; split <;> simp
      rw [this]; exact ifp h2 (j0_true _ _ _)
    · refine ifn h2 ?_
      by_cases h3 : s > 1
      · have : isW s l = false := by
          unfold isW
          have e1 : (s == 0) = false := by simp; omega
          have e2 : (s == 1 || s == -1) = false := by simp; omega
          rw [e1, e2]; split <;> simp
        rw [this]; exact ifp h3 (j0_true _ _ _)
      · refine ifn h3 ?_
        by_cases h0 : l.length = 0
        · have e0 : ((l.length : Int) == 0) = true := beq_iff_eq.2 (by omega)
          rw [e0]
          by_cases hs : s = 0
          · subst hs
            have := impl_loop 0 l hl l.length 0 (by omega)
            rw [List.drop_zero] at this
            have e : isW 0 l = (digB l && (decide (l.length = 0) || (l.getD (l.length - 1) 0 != 0))) := by
              unfold isW; rw [if_pos h0]; simp only [h0, decide_true, Bool.true_or]; rfl
            rw [e]
            exact Ev.step (f := fun k => impl_IsWhole.l0 k (l.length : Int) l (l.length : Int) 0 0 l) (fun k => by simp only [impl_IsWhole.j0]; rw [if_neg (by simp)]) this
          · have e1 : (s == 0) = false := by simp; omega
            have : isW s l = false := by unfold isW; rw [if_pos h0, e1]; simp
            rw [this, e1]; exact j0_true _ _ _
        · have e0 : ((l.length : Int) == 0) = false := beq_eq_false_iff_ne.2 (by omega)
          rw [e0]
          by_cases hs : s = 0
          · subst hs
            have : isW 0 l = false := by unfold isW; rw [if_neg h0]; simp
            rw [this]; exact j0_true _ _ _
          · have e1 : (s == 0) = false := by simp; omega
            rw [e1]
            have := impl_loop s l hl l.length 0 (by omega)
            rw [List.drop_zero] at this
            have e2 : (s == 1 || s == -1) = true := by simp; omega
            have e : isW s l = (digB l && (decide (l.length = 0) || (l.getD (l.length - 1) 0 != 0))) := by
              unfold isW; rw [if_neg h0, e2, show decide (l.length ≤ 100) = true by simp; omega, decide_eq_false h0]; simp only [Bool.true_and, Bool.and_true, Bool.false_or]
            rw [e]
            exact Ev.step (f := fun k => impl_IsWhole.l0 k (l.length : Int) l (l.length : Int) 0 s l) (fun k => by simp only [impl_IsWhole.j0]; rw [if_neg (by simp)]) this
end Go.Proofs.Ytjddhnjjeomfjaa.Pb
end
section
namespace Go.Proofs.Ytjddhnjjeomfjaa.Pw
open Go.RowKit Go.Proofs.YtjddhnjjeomfjaaW.PrintWords Go.Proofs.Ytjddhnjjeomfjaa.Pb Go.Proofs.Ytjddhnjjeomfjaa.Pc Go.Proofs.Ytjddhnjjeomfjaa.Pm Dg
set_option linter.unusedVariables false
set_option linter.unusedSimpArgs false
def wv (s : Int) (l : List Int) : Int := if s < 0 then -(val 16777216 l) else val 16777216 l
theorem digB_iff {l : List Int} : digB l = true ↔ Dig 16777216 l := by
  unfold digB Dig
  rw [List.all_eq_true]
  constructor
  · intro h d hd
    have := h d hd
    simp at this
    omega
  · intro h d hd
    have := h d hd
    simp
    omega
theorem isW_spec {s : Int} {l : List Int} (h : isW s l = true) : Dig 16777216 l ∧ l.length ≤ 100 ∧ Top l ∧ (l = [] ∧ s = 0 ∨ l ≠ [] ∧ (s = 1 ∨ s = -1)) := by
  unfold isW at h
  rw [Bool.and_eq_true] at h
  refine ⟨digB_iff.1 h.1, ?_⟩
  have h2 := h.2
  by_cases h0 : l.length = 0
  · rw [if_pos h0] at h2
    have hl : l = [] := List.length_eq_zero_iff.1 h0
    refine ⟨by omega, fun hne => absurd hl hne, .inl ⟨hl, by simpa using h2⟩⟩
  · rw [if_neg h0, Bool.and_eq_true, Bool.and_eq_true] at h2
    obtain ⟨⟨h3, h4⟩, h5⟩ := h2
    have hl : l ≠ [] := by rintro rfl; simp at h0
    refine ⟨by simpa using h3, top_iff.2 (.inr (by rw [bne_iff_ne] at h4; exact h4)), .inr ⟨hl, ?_⟩⟩
    rw [Bool.or_eq_true, beq_iff_eq, beq_iff_eq] at h5
    exact h5
theorem isW_eq {s : Int} {l : List Int} (h : isW s l = true) : s = sgn (wv s l) ∧ l = L (wv s l).natAbs ∧ bl (wv s l).natAbs ≤ 2400 := by
  obtain ⟨hd, hl, ht, hs⟩ := isW_spec h
  have h0 := val_nonneg hd
  have habs : (wv s l).natAbs = (val 16777216 l).toNat := by unfold wv; split <;> omega
  have hL : l = L (wv s l).natAbs := by rw [habs]; exact (L_of hd ht).symm
  refine ⟨?_, hL, ?_⟩
  · rcases hs with ⟨rfl, rfl⟩ | ⟨hne, hs⟩
    · rfl
    · have hp := val_pos hd ht hne (by decide)
      rcases hs with rfl | rfl
      · have e : wv 1 l = val 16777216 l := by unfold wv; rw [if_neg (by decide)]
        rw [e]; unfold sgn; rw [if_neg (by omega), if_neg (by omega)]
      · have e : wv (-1) l = -(val 16777216 l) := by unfold wv; rw [if_pos (by decide)]
        rw [e]; unfold sgn; rw [if_pos (by omega)]
  · have := (L_len_iff (wv s l).natAbs 100).1 (by rw [← hL]; exact hl)
    omega
def fit (z : Int) : Int × List Int × Int := if bl z.natAbs ≤ 2400 then (sgn z, L z.natAbs, 0) else (0, [], 3)
end Go.Proofs.Ytjddhnjjeomfjaa.Pw
end
section
namespace Go.Proofs.Ytjddhnjjeomfjaa.PW
open Go.RowKit Go.Proofs.YtjddhnjjeomfjaaW.PrintWords Go.Proofs.YtjddhnjjeomfjaaW.PrintLast Go.Proofs.YtjddhnjjeomfjaaW.PrintMore
attribute [local go_sem] max2_int min2_int max_two min_two max_three min_three max_four min_four   -- for this text's walks alone
set_option linter.unusedVariables false
set_option linter.unusedSimpArgs false
def spec_l02Twos.l0 : Nat → Int → Int → List Int → Option (Int)
  | 0, _, _, _ => none
  | k + 1, x3, x405000, x405001 => (spec_l02Bit.f x405000 x405001 x3).bind fun t405 => (if t405 = 0 then (spec_l02Twos.l0 k (wrap64 (x3 + 1)) x405000 x405001) else (some x3))
def spec_l02Twos.f (k : Nat) (a0_0 : Int) (l0_1 : List Int) : Option (Int) := spec_l02Twos.l0 k 0 a0_0 l0_1
theorem spec_l02Twos.mono_l : ∀ k, (∀ y0 y1 y2, LeO (spec_l02Twos.l0 k y0 y1 y2) (spec_l02Twos.l0 (k + 1) y0 y1 y2))
  | 0 => fun _ _ _ r h => by simp [spec_l02Twos.l0] at h
  | k + 1 => by
    have ih0 := spec_l02Twos.mono_l k
    · intro y0 y1 y2
      unfold spec_l02Twos.l0
      repeat' first
      | (with_reducible exact ih0 _ _ _)
      | (with_reducible exact LeO.refl _)
      | (with_reducible exact LeO.none _)
      | (with_reducible refine LeO.ite ?_ ?_)
      | (with_reducible refine LeO.bind ?_ (fun _ => ?_))
      | exact ih0 _ _ _
      | exact LeO.none _
      | refine LeO.ite ?_ ?_
      | refine LeO.bind ?_ (fun _ => ?_)
theorem spec_l02Twos.mono : ∀ a0 a1 k, LeO (spec_l02Twos.f k a0 a1) (spec_l02Twos.f (k + 1) a0 a1) := by
  intro a0 a1 k
  have ih0 := spec_l02Twos.mono_l k
  unfold spec_l02Twos.f
  repeat' first
      | (with_reducible exact ih0 _ _ _)
      | (with_reducible exact LeO.refl _)
      | (with_reducible exact LeO.none _)
      | (with_reducible refine LeO.ite ?_ ?_)
      | (with_reducible refine LeO.bind ?_ (fun _ => ?_))
      | exact ih0 _ _ _
      | exact LeO.none _
      | refine LeO.ite ?_ ?_
      | refine LeO.bind ?_ (fun _ => ?_)
end Go.Proofs.Ytjddhnjjeomfjaa.PW
end
section
namespace Go.Proofs.Ytjddhnjjeomfjaa.PW
open Go.RowKit Go.Proofs.YtjddhnjjeomfjaaW.PrintWords Go.Proofs.YtjddhnjjeomfjaaW.PrintLast Go.Proofs.YtjddhnjjeomfjaaW.PrintMore
attribute [local go_sem] max2_int min2_int max_two min_two max_three min_three max_four min_four   -- for this text's walks alone
set_option linter.unusedVariables false
set_option linter.unusedSimpArgs false
def spec_l03Make.f (k : Nat) (a0_0 : Int) (l0_1 : List Int) (a1 : Int) : Option (Int × List Int × Int) := if a0_0 = 0 then (some (0, ([] : List Int), 0)) else ((spec_l02Twos.f k a0_0 l0_1).bind fun t408 => ((spec_l02Cut.f k a0_0 l0_1 t408).bind fun bt409 => (some (bt409.1, bt409.2, wrap64 (a1 + t408)))))
theorem spec_l03Make.mono : ∀ a0 a1 a2 k, LeO (spec_l03Make.f k a0 a1 a2) (spec_l03Make.f (k + 1) a0 a1 a2) := by
  intro a0 a1 a2 k
  unfold spec_l03Make.f
  repeat' first
      | (with_reducible exact spec_l02Cut.mono _ _ _ _)
      | (with_reducible exact spec_l02Twos.mono _ _ _)
      | (with_reducible exact LeO.refl _)
      | (with_reducible exact LeO.none _)
      | (with_reducible refine LeO.ite ?_ ?_)
      | (with_reducible refine LeO.bind ?_ (fun _ => ?_))
      | exact spec_l02Cut.mono _ _ _ _
      | exact spec_l02Twos.mono _ _ _
      | exact LeO.none _
      | refine LeO.ite ?_ ?_
      | refine LeO.bind ?_ (fun _ => ?_)
end Go.Proofs.Ytjddhnjjeomfjaa.PW
end
section
namespace Go.Proofs.Ytjddhnjjeomfjaa.PW
open Go.RowKit Go.Proofs.YtjddhnjjeomfjaaW.PrintWords Go.Proofs.YtjddhnjjeomfjaaW.PrintLast Go.Proofs.YtjddhnjjeomfjaaW.PrintMore
attribute [local go_sem] max2_int min2_int max_two min_two max_three min_three max_four min_four   -- for this text's walks alone
set_option linter.unusedVariables false
set_option linter.unusedSimpArgs false
def spec_l03Add.f (k : Nat) (a0_0 : Int) (l0_1 : List Int) (a0_2 : Int) (a1_0 : Int) (l1_1 : List Int) (a1_2 : Int) : Option (Int × List Int × Int) := if a0_0 = 0 then ((spec_l03Make.f k a1_0 l1_1 a1_2).bind fun bt416 => (some (bt416.1, bt416.2.1, bt416.2.2))) else (if a1_0 = 0 then ((spec_l03Make.f k a0_0 l0_1 a0_2).bind fun bt421 => (some (bt421.1, bt421.2.1, bt421.2.2))) else ((spec_l02Left.f k a0_0 l0_1 (wrap64 (a0_2 - (mn a0_2 a1_2)))).bind fun bt426 => ((spec_l02Left.f k a1_0 l1_1 (wrap64 (a1_2 - (mn a0_2 a1_2)))).bind fun bt430 => ((spec_l02Add.f k bt426.1 bt426.2 bt430.1 bt430.2).bind fun bt434 => ((spec_l03Make.f k bt434.1 bt434.2 (mn a0_2 a1_2)).bind fun bt438 => (some (bt438.1, bt438.2.1, bt438.2.2)))))))
theorem spec_l03Add.mono : ∀ a0 a1 a2 a3 a4 a5 k, LeO (spec_l03Add.f k a0 a1 a2 a3 a4 a5) (spec_l03Add.f (k + 1) a0 a1 a2 a3 a4 a5) := by
  intro a0 a1 a2 a3 a4 a5 k
  unfold spec_l03Add.f
  repeat' first
      | (with_reducible exact spec_l02Add.mono _ _ _ _ _)
      | (with_reducible exact spec_l02Left.mono _ _ _ _)
      | (with_reducible exact spec_l03Make.mono _ _ _ _)
      | (with_reducible exact LeO.refl _)
      | (with_reducible exact LeO.none _)
      | (with_reducible refine LeO.ite ?_ ?_)
      | (with_reducible refine LeO.bind ?_ (fun _ => ?_))
      | exact spec_l02Add.mono _ _ _ _ _
      | exact spec_l02Left.mono _ _ _ _
      | exact spec_l03Make.mono _ _ _ _
      | exact LeO.none _
      | refine LeO.ite ?_ ?_
      | refine LeO.bind ?_ (fun _ => ?_)
end Go.Proofs.Ytjddhnjjeomfjaa.PW
end
section
namespace Go.Proofs.Ytjddhnjjeomfjaa.PW
open Go.RowKit Go.Proofs.YtjddhnjjeomfjaaW.PrintWords Go.Proofs.YtjddhnjjeomfjaaW.PrintLast Go.Proofs.YtjddhnjjeomfjaaW.PrintMore
attribute [local go_sem] max2_int min2_int max_two min_two max_three min_three max_four min_four   -- for this text's walks alone
set_option linter.unusedVariables false
set_option linter.unusedSimpArgs false
mutual
def spec_l02Mul.l0 : Nat → List Int → Int → Int → List Int → Int → List Int → Option (Int × List Int)
  | 0, _, _, _, _, _, _ => none
  | k + 1, x5, x6, x444000, x444001, x445000, x445001 => if x6 < (x444001.length : Int) then (spec_l02Mul.l1 k x5 x6 0 0 x444000 x444001 x445000 x445001) else ((spec_l02Make.f k (wrap64 (x444000 * x445000)) x5).bind fun bt449 => (some (bt449.1, bt449.2)))
def spec_l02Mul.l1 : Nat → List Int → Int → Int → Int → Int → List Int → Int → List Int → Option (Int × List Int)
  | 0, _, _, _, _, _, _, _, _ => none
  | k + 1, x5, x6, x7, x8, x444000, x444001, x445000, x445001 => if x8 < (x445001.length : Int) then (if 0 ≤ (wrap64 (x6 + x8)) then (if (wrap64 (x6 + x8)) < (x5.length : Int) then (if 0 ≤ x6 then (if x6 < (x444001.length : Int) then (if 0 ≤ x8 then (spec_l02Mul.l1 k (x5.set ((wrap64 (x6 + x8)) : Int).toNat (Int.tmod (wrap64 ((wrap64 (x7 + (rd x5 (wrap64 (x6 + x8))))) + (wrap64 ((rd x444001 x6) * (rd x445001 x8))))) 16777216)) x6 (wrap64 (Int.tdiv (wrap64 ((wrap64 (x7 + (rd x5 (wrap64 (x6 + x8))))) + (wrap64 ((rd x444001 x6) * (rd x445001 x8))))) 16777216)) (wrap64 (x8 + 1)) x444000 x444001 x445000 x445001) else (none)) else (none)) else (none)) else (none)) else (none)) else (if 0 ≤ (wrap64 (x6 + (x445001.length : Int))) then (if (wrap64 (x6 + (x445001.length : Int))) < (x5.length : Int) then (spec_l02Mul.l0 k (x5.set ((wrap64 (x6 + (x445001.length : Int))) : Int).toNat x7) (wrap64 (x6 + 1)) x444000 x444001 x445000 x445001) else (none)) else (none))
end
def spec_l02Mul.f (k : Nat) (a0_0 : Int) (l0_1 : List Int) (a1_0 : Int) (l1_1 : List Int) : Option (Int × List Int) := if 0 ≤ (wrap64 ((wrap64 ((l0_1.length : Int) + (l1_1.length : Int))) + 1)) then (if (wrap64 ((wrap64 ((l0_1.length : Int) + (l1_1.length : Int))) + 1) : Int).toNat ≤ 35184372088832 then (spec_l02Mul.l0 k (List.replicate (wrap64 ((wrap64 ((l0_1.length : Int) + (l1_1.length : Int))) + 1) : Int).toNat 0) 0 a0_0 l0_1 a1_0 l1_1) else (none)) else (none)
theorem spec_l02Mul.mono_l : ∀ k, (∀ y0 y1 y2 y3 y4 y5, LeO (spec_l02Mul.l0 k y0 y1 y2 y3 y4 y5) (spec_l02Mul.l0 (k + 1) y0 y1 y2 y3 y4 y5)) ∧ (∀ y0 y1 y2 y3 y4 y5 y6 y7, LeO (spec_l02Mul.l1 k y0 y1 y2 y3 y4 y5 y6 y7) (spec_l02Mul.l1 (k + 1) y0 y1 y2 y3 y4 y5 y6 y7))
  | 0 => ⟨fun _ _ _ _ _ _ r h => by simp [spec_l02Mul.l0] at h, fun _ _ _ _ _ _ _ _ r h => by simp [spec_l02Mul.l1] at h⟩
  | k + 1 => by
    obtain ⟨ih0, ih1⟩ := spec_l02Mul.mono_l k
    refine ⟨?_, ?_⟩
    · intro y0 y1 y2 y3 y4 y5
      unfold spec_l02Mul.l0
      repeat' first
      | (with_reducible exact ih0 _ _ _ _ _ _)
      | (with_reducible exact ih1 _ _ _ _ _ _ _ _)
      | (with_reducible exact spec_l02Make.mono _ _ _)
      | (with_reducible exact LeO.refl _)
      | (with_reducible exact LeO.none _)
      | (with_reducible refine LeO.ite ?_ ?_)
      | (with_reducible refine LeO.bind ?_ (fun _ => ?_))
      | exact ih0 _ _ _ _ _ _
      | exact ih1 _ _ _ _ _ _ _ _
      | exact spec_l02Make.mono _ _ _
      | exact LeO.none _
      | refine LeO.ite ?_ ?_
      | refine LeO.bind ?_ (fun _ => ?_)
    · intro y0 y1 y2 y3 y4 y5 y6 y7
      unfold spec_l02Mul.l1
      repeat' first
      | (with_reducible exact ih0 _ _ _ _ _ _)
      | (with_reducible exact ih1 _ _ _ _ _ _ _ _)
      | (with_reducible exact spec_l02Make.mono _ _ _)
      | (with_reducible exact LeO.refl _)
      | (with_reducible exact LeO.none _)
      | (with_reducible refine LeO.ite ?_ ?_)
      | (with_reducible refine LeO.bind ?_ (fun _ => ?_))
      | exact ih0 _ _ _ _ _ _
      | exact ih1 _ _ _ _ _ _ _ _
      | exact spec_l02Make.mono _ _ _
      | exact LeO.none _
      | refine LeO.ite ?_ ?_
      | refine LeO.bind ?_ (fun _ => ?_)
theorem spec_l02Mul.mono : ∀ a0 a1 a2 a3 k, LeO (spec_l02Mul.f k a0 a1 a2 a3) (spec_l02Mul.f (k + 1) a0 a1 a2 a3) := by
  intro a0 a1 a2 a3 k
  obtain ⟨ih0, ih1⟩ := spec_l02Mul.mono_l k
  unfold spec_l02Mul.f
  repeat' first
      | (with_reducible exact ih0 _ _ _ _ _ _)
      | (with_reducible exact ih1 _ _ _ _ _ _ _ _)
      | (with_reducible exact spec_l02Make.mono _ _ _)
      | (with_reducible exact LeO.refl _)
      | (with_reducible exact LeO.none _)
      | (with_reducible refine LeO.ite ?_ ?_)
      | (with_reducible refine LeO.bind ?_ (fun _ => ?_))
      | exact ih0 _ _ _ _ _ _
      | exact ih1 _ _ _ _ _ _ _ _
      | exact spec_l02Make.mono _ _ _
      | exact LeO.none _
      | refine LeO.ite ?_ ?_
      | refine LeO.bind ?_ (fun _ => ?_)
end Go.Proofs.Ytjddhnjjeomfjaa.PW
end
section
namespace Go.Proofs.Ytjddhnjjeomfjaa.PW
open Go.RowKit Go.Proofs.YtjddhnjjeomfjaaW.PrintWords Go.Proofs.YtjddhnjjeomfjaaW.PrintLast Go.Proofs.YtjddhnjjeomfjaaW.PrintMore
attribute [local go_sem] max2_int min2_int max_two min_two max_three min_three max_four min_four   -- for this text's walks alone
set_option linter.unusedVariables false
set_option linter.unusedSimpArgs false
def spec_l03Mul.f (k : Nat) (a0_0 : Int) (l0_1 : List Int) (a0_2 : Int) (a1_0 : Int) (l1_1 : List Int) (a1_2 : Int) : Option (Int × List Int × Int) := (spec_l02Mul.f k a0_0 l0_1 a1_0 l1_1).bind fun bt461 => ((spec_l03Make.f k bt461.1 bt461.2 (wrap64 (a0_2 + a1_2))).bind fun bt465 => (some (bt465.1, bt465.2.1, bt465.2.2)))
theorem spec_l03Mul.mono : ∀ a0 a1 a2 a3 a4 a5 k, LeO (spec_l03Mul.f k a0 a1 a2 a3 a4 a5) (spec_l03Mul.f (k + 1) a0 a1 a2 a3 a4 a5) := by
  intro a0 a1 a2 a3 a4 a5 k
  unfold spec_l03Mul.f
  repeat' first
      | (with_reducible exact spec_l02Mul.mono _ _ _ _ _)
      | (with_reducible exact spec_l03Make.mono _ _ _ _)
      | (with_reducible exact LeO.refl _)
      | (with_reducible exact LeO.none _)
      | (with_reducible refine LeO.ite ?_ ?_)
      | (with_reducible refine LeO.bind ?_ (fun _ => ?_))
      | exact spec_l02Mul.mono _ _ _ _ _
      | exact spec_l03Make.mono _ _ _ _
      | exact LeO.none _
      | refine LeO.ite ?_ ?_
      | refine LeO.bind ?_ (fun _ => ?_)
end Go.Proofs.Ytjddhnjjeomfjaa.PW
end
section
namespace Go.Proofs.Ytjddhnjjeomfjaa.PW
open Go.RowKit Go.Proofs.YtjddhnjjeomfjaaW.PrintWords Go.Proofs.YtjddhnjjeomfjaaW.PrintLast Go.Proofs.YtjddhnjjeomfjaaW.PrintMore
attribute [local go_sem] max2_int min2_int max_two min_two max_three min_three max_four min_four   -- for this text's walks alone
set_option linter.unusedVariables false
set_option linter.unusedSimpArgs false
def spec_l03Is.j0 : Nat → Bool → Int → List Int → Int → Option (Bool)
  | 0, _, _, _, _ => none
  | k + 1, x12, x110000, x110001, x110002 => if x12 = true then (some false) else (if x110000 = 0 then (some (x110002 == 0)) else (if 0 < (x110001.length : Int) then (some ((Int.tmod (rd x110001 0) 2) == 1)) else (none)))
def spec_l03Is.f (k : Nat) (a0_0 : Int) (l0_1 : List Int) (a0_2 : Int) : Option (Bool) := (spec_l02Is.f k a0_0 l0_1).bind fun t110 => (if t110 = true then ((spec_l01In.f a0_2 (-3000) 3000).bind fun t111 => (spec_l03Is.j0 k (!t111) a0_0 l0_1 a0_2)) else (spec_l03Is.j0 k true a0_0 l0_1 a0_2))
theorem spec_l03Is.mono_l : ∀ k, (∀ y0 y1 y2 y3, LeO (spec_l03Is.j0 k y0 y1 y2 y3) (spec_l03Is.j0 (k + 1) y0 y1 y2 y3))
  | 0 => fun _ _ _ _ r h => by simp [spec_l03Is.j0] at h
  | k + 1 => by
    have ih0 := spec_l03Is.mono_l k
    · intro y0 y1 y2 y3
      unfold spec_l03Is.j0
      repeat' first
      | (with_reducible exact ih0 _ _ _ _)
      | (with_reducible exact spec_l02Is.mono _ _ _)
      | (with_reducible exact LeO.refl _)
      | (with_reducible exact LeO.none _)
      | (with_reducible refine LeO.ite ?_ ?_)
      | (with_reducible refine LeO.bind ?_ (fun _ => ?_))
      | exact ih0 _ _ _ _
      | exact spec_l02Is.mono _ _ _
      | exact LeO.none _
      | refine LeO.ite ?_ ?_
      | refine LeO.bind ?_ (fun _ => ?_)
theorem spec_l03Is.mono : ∀ a0 a1 a2 k, LeO (spec_l03Is.f k a0 a1 a2) (spec_l03Is.f (k + 1) a0 a1 a2) := by
  intro a0 a1 a2 k
  have ih0 := spec_l03Is.mono_l k
  unfold spec_l03Is.f
  repeat' first
      | (with_reducible exact ih0 _ _ _ _)
      | (with_reducible exact spec_l02Is.mono _ _ _)
      | (with_reducible exact LeO.refl _)
      | (with_reducible exact LeO.none _)
      | (with_reducible refine LeO.ite ?_ ?_)
      | (with_reducible refine LeO.bind ?_ (fun _ => ?_))
      | exact ih0 _ _ _ _
      | exact spec_l02Is.mono _ _ _
      | exact LeO.none _
      | refine LeO.ite ?_ ?_
      | refine LeO.bind ?_ (fun _ => ?_)
set_option maxHeartbeats 8000000 in
set_option maxRecDepth 100000 in
theorem spec_l03Is.calls (k : Nat) (a0_0 : Int) (A0_1 : Option Addr) (c0_1 : Nat) (l0_1 : List Int) (a0_2 : Int) (r : Bool) (w : World) (hr0_1 : Kd.C (Kd.int .i64) w A0_1 l0_1.length l0_1) (hc0_1 : l0_1.length ≤ c0_1) (h : spec_l03Is.f k a0_0 l0_1 a0_2 = some r) :
    Calls Try.prog 37 #[.agg #[.int .i64 a0_0, .slice A0_1 l0_1.length c0_1, .int .i64 a0_2]] w fun e w' => e = .returned (.bool r) ∧ Below w.heap.size w w' := by
  have hu33 := Try.underlying33
  have hu31 := Try.underlying31
  have HR0_1 := Aside0.mk hr0_1
  have HC0_1 := Aside0.mk hc0_1
  clear hr0_1 hc0_1
  have HB := Aside0.mk (Below.refl w.heap.size w)
  have H : ((spec_l02Is.f k a0_0 l0_1).bind fun t110 => (if t110 = true then ((spec_l01In.f a0_2 (-3000) 3000).bind fun t111 => (spec_l03Is.j0 k (!t111) a0_0 l0_1 a0_2)) else (spec_l03Is.j0 k true a0_0 l0_1 a0_2))) = some r := h
  clear h
  have HC2 := Aside0.mk H
  clear H
  go_enter Try.func37, Try.ntmps37
  go_upto_region 1 with (first | ((with_reducible refine gate_dst (N := 1) rfl ?_); refine box_event ?hg (N := 1) ?hd (cs := #[.int .i64 a0_0, .slice A0_1 l0_1.length c0_1, .int .i64 a0_2]) (t := 33) ?hr ?_; (case hd => rfl); (case hg => rfl); (case hr => first | (go_simp; done) | (go_simp; rfl)); intro gb109 hg w3 hbox hb; have n0_ := Aside0.mk (below_step (by repeat (first | (with_reducible first | exact HB.out | apply below_alloc | apply pw_below_drewN | apply below_drew1) | exact HB.out)) hb); have n1_ := Aside0.mk (hbox); have n2_ := Aside0.mk ((by rw [hg]; exact (below_size (by repeat (first | (with_reducible first | exact HB.out | apply below_alloc | apply pw_below_drewN | apply below_drew1) | exact HB.out))) : w.heap.size ≤ gb109)); have n3_ := Aside0.mk ((by rw [hg]; exact (below_size (by repeat (first | (with_reducible first | exact HB.out | apply below_alloc | apply pw_below_drewN | apply below_drew1) | exact HB.out))) : w.heap.size ≤ gb109)); clear HB; have HB := n0_; have BK109 := n1_; have GW109 := n2_; have GE109 := n3_; clear n0_ n1_ n2_ n3_; clear hb hbox hg))
  (try simp only [Act.put, List.setIfInBounds_toArray, List.set_cons_zero, List.set_cons_succ])
  go_cut [12] (fun v12 wc => ∃ (kq : Nat) (x12_1 : Bool), v12 = .bool x12_1 ∧ Aside0 (spec_l03Is.j0 kq x12_1 a0_0 l0_1 a0_2 = some r) ∧ Aside0 (kq ≤ k) ∧ Aside0 (wc.heap[gb109]? = some (.cells #[.int .i64 a0_0, (.slice A0_1 l0_1.length c0_1), .int .i64 a0_2] 33 (0, 0))) ∧ Aside0 (Below w.heap.size w wc))
  case first =>
    have H := HC2.out
    clear HC2
    replace H := Option.bind_eq_some_iff.mp H
    obtain ⟨t110, A40, H⟩ := H
    replace H : (if t110 = true then ((spec_l01In.f a0_2 (-3000) 3000).bind fun t111 => (spec_l03Is.j0 k (!t111) a0_0 l0_1 a0_2)) else (spec_l03Is.j0 k true a0_0 l0_1 a0_2)) = some r := H
    have A4 := Aside0.mk A40
    clear A40
    by_cases c5 : t110 = true
    · subst c5
      have H1 : ((spec_l01In.f a0_2 (-3000) 3000).bind fun t111 => (spec_l03Is.j0 k (!t111) a0_0 l0_1 a0_2)) = some r := by rw [if_pos rfl] at H; exact H
      clear H
      have H := H1
      clear H1
      replace H := Option.bind_eq_some_iff.mp H
      obtain ⟨t111, A60, H⟩ := H
      replace H : (spec_l03Is.j0 k (!t111) a0_0 l0_1 a0_2) = some r := H
      have A6 := Aside0.mk A60
      clear A60
      have H' := Aside0.mk H
      clear H
      have hcz7_0 : w3.cell? ⟨gb109, 0, none⟩ = some (.int .i64 a0_0) := (blk_cell BK109.out 0).trans rfl
      have hcz7_1 : w3.cell? ⟨gb109, 1, none⟩ = some (.slice A0_1 l0_1.length c0_1) := (blk_cell BK109.out 1).trans rfl
      have hcz7_2 : w3.cell? ⟨gb109, 2, none⟩ = some (.int .i64 a0_2) := (blk_cell BK109.out 2).trans rfl
      have hfz7_0 := blk_frozen BK109.out 0
      have hfz7_1 := blk_frozen BK109.out 1
      have hfz7_2 := blk_frozen BK109.out 2
      go_wp2_with (first | ((with_reducible refine gate_callee (f := 78) rfl ?_); refine goesL_ (some 5) rfl rfl Try.func78 (by kernel_rfl) rfl #[.agg #[.int .i64 a0_0, .slice A0_1 l0_1.length c0_1]] rfl (by (try simp only [List.map_toArray, List.map_cons, List.map_nil]); first | done | rfl | (simp only [List.length_drop, List.length_take]; rfl)) ?_; (with_reducible refine (spec_l02Is.calls k a0_0 _ _ l0_1 true _ ?side1 ?side2 A4.out).mono ?_); (case side1 => repeat (first | exact (Kd.C_below HR0_1.out HB.out) | (with_reducible refine Kd.C_alloc ?_ _) | (with_reducible refine Kd.C_drewN ?_ _) | (with_reducible refine Kd.C_drew ?_))); (case side2 => exact HC0_1.out); rintro e w8 ⟨rfl, hb⟩; refine ⟨_, rfl, ?_⟩; have n0_ := Aside0.mk (blk_below (g := gb109) (o := .cells #[.int .i64 a0_0, .slice A0_1 l0_1.length c0_1, .int .i64 a0_2] 33 (0, 0)) (by (with_reducible repeat (first | refine blk_drewN ?_ _ | refine blk_drew ?_ | refine blk_alloc ?_ _)); exact BK109.out) hb); have n1_ := Aside0.mk (below_step (by repeat (first | (with_reducible first | exact HB.out | apply below_alloc | apply pw_below_drewN | apply below_drew1 | refine below_set ?_ GE109.out) | exact HB.out)) hb); clear BK109; clear HB; have BK109 := n0_; have HB := n1_; clear n0_ n1_; (try clear hb); (try clear hb2); (try clear hk); (try clear hi); have hcz9_0 : w8.cell? ⟨gb109, 0, none⟩ = some (.int .i64 a0_0) := (blk_cell BK109.out 0).trans rfl; have hcz9_1 : w8.cell? ⟨gb109, 1, none⟩ = some (.slice A0_1 l0_1.length c0_1) := (blk_cell BK109.out 1).trans rfl; have hcz9_2 : w8.cell? ⟨gb109, 2, none⟩ = some (.int .i64 a0_2) := (blk_cell BK109.out 2).trans rfl; have hfz9_0 := blk_frozen BK109.out 0; have hfz9_1 := blk_frozen BK109.out 1; have hfz9_2 := blk_frozen BK109.out 2) | (go_at_call 79; (with_reducible refine (spec_l01In.calls a0_2 (-3000) 3000 t111 _ A6.out).mono ?_); rintro e w' ⟨rfl, ⟨nd, rfl⟩⟩))
      go_meet
      case rel => exact ⟨_, (!t111), (by first | rfl | (simp; done) | (simp [*]; done)), H', ⟨by first | omega | exact Nat.le_refl _⟩, ⟨by (with_reducible repeat (first | refine blk_drewN ?_ _ | refine blk_drew ?_ | refine blk_alloc ?_ _)); exact BK109.out⟩, ⟨by repeat (first | (with_reducible first | exact HB.out | apply below_alloc | apply pw_below_drewN | apply below_drew1 | refine below_set ?_ GE109.out) | exact HB.out)⟩⟩
    · replace c5 := Bool.eq_false_iff.mpr c5
      subst c5
      have H1 : (spec_l03Is.j0 k true a0_0 l0_1 a0_2) = some r := by rw [if_neg (show ¬ (false = true) by decide)] at H; exact H
      clear H
      have H := H1
      clear H1
      have H' := Aside0.mk H
      clear H
      have hcz10_0 : w3.cell? ⟨gb109, 0, none⟩ = some (.int .i64 a0_0) := (blk_cell BK109.out 0).trans rfl
      have hcz10_1 : w3.cell? ⟨gb109, 1, none⟩ = some (.slice A0_1 l0_1.length c0_1) := (blk_cell BK109.out 1).trans rfl
      have hcz10_2 : w3.cell? ⟨gb109, 2, none⟩ = some (.int .i64 a0_2) := (blk_cell BK109.out 2).trans rfl
      have hfz10_0 := blk_frozen BK109.out 0
      have hfz10_1 := blk_frozen BK109.out 1
      have hfz10_2 := blk_frozen BK109.out 2
      go_wp2_with (first | ((with_reducible refine gate_callee (f := 78) rfl ?_); refine goesL_ (some 5) rfl rfl Try.func78 (by kernel_rfl) rfl #[.agg #[.int .i64 a0_0, .slice A0_1 l0_1.length c0_1]] rfl (by (try simp only [List.map_toArray, List.map_cons, List.map_nil]); first | done | rfl | (simp only [List.length_drop, List.length_take]; rfl)) ?_; (with_reducible refine (spec_l02Is.calls k a0_0 _ _ l0_1 false _ ?side1 ?side2 A4.out).mono ?_); (case side1 => repeat (first | exact (Kd.C_below HR0_1.out HB.out) | (with_reducible refine Kd.C_alloc ?_ _) | (with_reducible refine Kd.C_drewN ?_ _) | (with_reducible refine Kd.C_drew ?_))); (case side2 => exact HC0_1.out); rintro e w11 ⟨rfl, hb⟩; refine ⟨_, rfl, ?_⟩; have n0_ := Aside0.mk (blk_below (g := gb109) (o := .cells #[.int .i64 a0_0, .slice A0_1 l0_1.length c0_1, .int .i64 a0_2] 33 (0, 0)) (by (with_reducible repeat (first | refine blk_drewN ?_ _ | refine blk_drew ?_ | refine blk_alloc ?_ _)); exact BK109.out) hb); have n1_ := Aside0.mk (below_step (by repeat (first | (with_reducible first | exact HB.out | apply below_alloc | apply pw_below_drewN | apply below_drew1 | refine below_set ?_ GE109.out) | exact HB.out)) hb); clear BK109; clear HB; have BK109 := n0_; have HB := n1_; clear n0_ n1_; (try clear hb); (try clear hb2); (try clear hk); (try clear hi)))
      go_meet
      case rel => exact ⟨_, (true), (by first | rfl | (simp; done) | (simp [*]; done)), H', ⟨by first | omega | exact Nat.le_refl _⟩, ⟨by (with_reducible repeat (first | refine blk_drewN ?_ _ | refine blk_drew ?_ | refine blk_alloc ?_ _)); exact BK109.out⟩, ⟨by repeat (first | (with_reducible first | exact HB.out | apply below_alloc | apply pw_below_drewN | apply below_drew1 | refine below_set ?_ GE109.out) | exact HB.out)⟩⟩
  case rest =>
    clear HC2
    try clear p2
    try clear c3
    try clear c5
    try clear c7
    try clear hcz10_0
    try clear hcz10_1
    try clear hcz10_2
    try clear hcz7_0
    try clear hcz7_1
    try clear hcz7_2
    try clear hcz9_0
    try clear hcz9_1
    try clear hcz9_2
    try clear hfz10_0
    try clear hfz10_1
    try clear hfz10_2
    try clear hfz7_0
    try clear hfz7_1
    try clear hfz7_2
    try clear hfz9_0
    try clear hfz9_1
    try clear hfz9_2
    obtain ⟨kq, x12_1, rfl, HA, HJ1, BK109, HB⟩ := hcut
    cases kq with
    | zero => exact absurd HA.out (by simp [spec_l03Is.j0])
    | succ kj1 =>
      have H := HA.out
      clear HA
      simp only [spec_l03Is.j0] at H
      by_cases c12 : x12_1 = true
      · subst c12
        have H1 : (some false) = some r := by rw [if_pos rfl] at H; exact H
        clear H
        have H := H1
        clear H1
        obtain rfl := Option.some.inj H
        go_wp2
        go_ret
        exact ⟨by first | rfl | (simp [errW_none, errW_some] <;> rfl) | (simp [*, errW_none, errW_some] <;> rfl), by repeat (first | (with_reducible first | exact HB.out | apply below_alloc | apply pw_below_drewN | apply below_drew1 | refine below_set ?_ GE109.out) | exact HB.out)⟩
      · replace c12 := Bool.eq_false_iff.mpr c12
        subst c12
        have H1 : (if a0_0 = 0 then (some (a0_2 == 0)) else (if 0 < (l0_1.length : Int) then (some ((Int.tmod (rd l0_1 0) 2) == 1)) else (none))) = some r := by rw [if_neg (show ¬ (false = true) by decide)] at H; exact H
        clear H
        have H := H1
        clear H1
        by_cases c13 : a0_0 = 0
        · rw [if_pos c13] at H
          have c13b0 : (a0_0 == 0) = true := beq_iff_eq.mpr c13
          have c13b1 : (a0_0 != 0) = false := bne_eq_false_iff_eq.mpr c13
          clear c13
          obtain rfl := Option.some.inj H
          have hcz14_0 : wc.cell? ⟨gb109, 0, none⟩ = some (.int .i64 a0_0) := (blk_cell BK109.out 0).trans rfl
          have hcz14_1 : wc.cell? ⟨gb109, 1, none⟩ = some (.slice A0_1 l0_1.length c0_1) := (blk_cell BK109.out 1).trans rfl
          have hcz14_2 : wc.cell? ⟨gb109, 2, none⟩ = some (.int .i64 a0_2) := (blk_cell BK109.out 2).trans rfl
          have hfz14_0 := blk_frozen BK109.out 0
          have hfz14_1 := blk_frozen BK109.out 1
          have hfz14_2 := blk_frozen BK109.out 2
          go_wp2
          go_ret
          exact ⟨by first | rfl | (simp [errW_none, errW_some] <;> rfl) | (simp [*, errW_none, errW_some] <;> rfl), by repeat (first | (with_reducible first | exact HB.out | apply below_alloc | apply pw_below_drewN | apply below_drew1 | refine below_set ?_ GE109.out) | exact HB.out)⟩
        · rw [if_neg c13] at H
          have c13b0 : (a0_0 == 0) = false := beq_eq_false_iff_ne.mpr c13
          have c13b1 : (a0_0 != 0) = true := bne_iff_ne.mpr c13
          by_cases c15 : 0 < (l0_1.length : Int)
          · rw [if_pos c15] at H
            have c15b0 : decide (0 < (l0_1.length : Int)) = true := decide_eq_true c15
            have c15b1 : decide (0 < l0_1.length) = true := decide_eq_true (by omega)
            clear c15
            obtain rfl := Option.some.inj H
            have hcz16_0 : wc.cell? ⟨gb109, 0, none⟩ = some (.int .i64 a0_0) := (blk_cell BK109.out 0).trans rfl
            have hcz16_1 : wc.cell? ⟨gb109, 1, none⟩ = some (.slice A0_1 l0_1.length c0_1) := (blk_cell BK109.out 1).trans rfl
            have hcz16_2 : wc.cell? ⟨gb109, 2, none⟩ = some (.int .i64 a0_2) := (blk_cell BK109.out 2).trans rfl
            have hfz16_0 := blk_frozen BK109.out 0
            have hfz16_1 := blk_frozen BK109.out 1
            have hfz16_2 := blk_frozen BK109.out 2
            have p112 : 0 ≤ (0 : Int) := (by omega)
            have q112 : 0 < (l0_1.length : Int) := of_decide_eq_true (by first | (with_reducible assumption) | assumption)
            obtain ⟨ad112, e112, hx112_0⟩ := Kd.at_int HR0_1.out 0 p112 q112
            cases e112
            have qi112 : (0 < l0_1.length) = True := eq_true (by omega)
            (try rw [show ((0 : Int)).toNat = 0 from rfl] at hx112_0)
            (try rw [Addr.add_zero'] at hx112_0)
            replace hx112_0 := (HB.out.cell (World.block_lt_of_cell? w _ hx112_0)).trans hx112_0
            replace p112 := eq_true p112
            replace q112 := eq_true q112
            go_wp2
            go_ret
            exact ⟨by first | rfl | (simp [errW_none, errW_some] <;> rfl) | (simp [*, errW_none, errW_some] <;> rfl), by repeat (first | (with_reducible first | exact HB.out | apply below_alloc | apply pw_below_drewN | apply below_drew1 | refine below_set ?_ GE109.out) | exact HB.out)⟩
          · rw [if_neg c15] at H
            exact absurd H (by simp)
end Go.Proofs.Ytjddhnjjeomfjaa.PW
end
section
namespace Go.Proofs.Ytjddhnjjeomfjaa.PW
open Go.RowKit Go.Proofs.YtjddhnjjeomfjaaW.PrintWords Go.Proofs.YtjddhnjjeomfjaaW.PrintLast Go.Proofs.YtjddhnjjeomfjaaW.PrintMore
attribute [local go_sem] max2_int min2_int max_two min_two max_three min_three max_four min_four   -- for this text's walks alone
set_option linter.unusedVariables false
set_option linter.unusedSimpArgs false
def impl_IsDyadic.f (k : Nat) (a0_0 : Int) (l0_1 : List Int) (a0_2 : Int) : Option (Bool) := (impl_IsWhole.f k a0_0 l0_1).bind fun t311 => (if t311 = true then (if a0_0 = 0 then (some (a0_2 == 0)) else (if 0 < (l0_1.length : Int) then (if (Int.tmod (rd l0_1 0) 2) = 1 then (if a0_2 ≥ (-3000) then (some (decide (a0_2 ≤ 3000))) else (some false)) else (some false)) else (none))) else (some false))
theorem impl_IsDyadic.mono : ∀ a0 a1 a2 k, LeO (impl_IsDyadic.f k a0 a1 a2) (impl_IsDyadic.f (k + 1) a0 a1 a2) := by
  intro a0 a1 a2 k
  unfold impl_IsDyadic.f
  repeat' first
      | (with_reducible exact impl_IsWhole.mono _ _ _)
      | (with_reducible exact LeO.refl _)
      | (with_reducible exact LeO.none _)
      | (with_reducible refine LeO.ite ?_ ?_)
      | (with_reducible refine LeO.bind ?_ (fun _ => ?_))
      | exact impl_IsWhole.mono _ _ _
      | exact LeO.none _
      | refine LeO.ite ?_ ?_
      | refine LeO.bind ?_ (fun _ => ?_)
set_option maxHeartbeats 8000000 in
set_option maxRecDepth 100000 in
theorem impl_IsDyadic.calls (k : Nat) (a0_0 : Int) (A0_1 : Option Addr) (c0_1 : Nat) (l0_1 : List Int) (a0_2 : Int) (r : Bool) (w : World) (hr0_1 : Kd.C (Kd.int .i64) w A0_1 l0_1.length l0_1) (hc0_1 : l0_1.length ≤ c0_1) (h : impl_IsDyadic.f k a0_0 l0_1 a0_2 = some r) :
    Calls Try.prog 32 #[.agg #[.int .i64 a0_0, .slice A0_1 l0_1.length c0_1, .int .i64 a0_2]] w fun e w' => e = .returned (.bool r) ∧ Below w.heap.size w w' := by
  have hu33 := Try.underlying33
  have hu31 := Try.underlying31
  have HR0_1 := Aside0.mk hr0_1
  have HC0_1 := Aside0.mk hc0_1
  clear hr0_1 hc0_1
  have HB := Aside0.mk (Below.refl w.heap.size w)
  have H : ((impl_IsWhole.f k a0_0 l0_1).bind fun t311 => (if t311 = true then (if a0_0 = 0 then (some (a0_2 == 0)) else (if 0 < (l0_1.length : Int) then (if (Int.tmod (rd l0_1 0) 2) = 1 then (if a0_2 ≥ (-3000) then (some (decide (a0_2 ≤ 3000))) else (some false)) else (some false)) else (none))) else (some false))) = some r := h
  clear h
  replace H := Option.bind_eq_some_iff.mp H
  obtain ⟨t311, A20, H⟩ := H
  replace H : (if t311 = true then (if a0_0 = 0 then (some (a0_2 == 0)) else (if 0 < (l0_1.length : Int) then (if (Int.tmod (rd l0_1 0) 2) = 1 then (if a0_2 ≥ (-3000) then (some (decide (a0_2 ≤ 3000))) else (some false)) else (some false)) else (none))) else (some false)) = some r := H
  have A2 := Aside0.mk A20
  clear A20
  by_cases c3 : t311 = true
  · subst c3
    have H1 : (if a0_0 = 0 then (some (a0_2 == 0)) else (if 0 < (l0_1.length : Int) then (if (Int.tmod (rd l0_1 0) 2) = 1 then (if a0_2 ≥ (-3000) then (some (decide (a0_2 ≤ 3000))) else (some false)) else (some false)) else (none))) = some r := by rw [if_pos rfl] at H; exact H
    clear H
    have H := H1
    clear H1
    by_cases c4 : a0_0 = 0
    · rw [if_pos c4] at H
      have c4b0 : (a0_0 == 0) = true := beq_iff_eq.mpr c4
      have c4b1 : (a0_0 != 0) = false := bne_eq_false_iff_eq.mpr c4
      clear c4
      obtain rfl := Option.some.inj H
      go_enter Try.func32, Try.ntmps32
      go_wp2_with (first | ((with_reducible refine gate_dst (N := 1) rfl ?_); refine box_event ?hg (N := 1) ?hd (cs := #[.int .i64 a0_0, .slice A0_1 l0_1.length c0_1, .int .i64 a0_2]) (t := 33) ?hr ?_; (case hd => rfl); (case hg => rfl); (case hr => first | (go_simp; done) | (go_simp; rfl)); intro gb310 hg w5 hbox hb; have n0_ := Aside0.mk (below_step (by repeat (first | (with_reducible first | exact HB.out | apply below_alloc | apply pw_below_drewN | apply below_drew1) | exact HB.out)) hb); have n1_ := Aside0.mk (hbox); have n2_ := Aside0.mk ((by rw [hg]; exact (below_size (by repeat (first | (with_reducible first | exact HB.out | apply below_alloc | apply pw_below_drewN | apply below_drew1) | exact HB.out))) : w.heap.size ≤ gb310)); have n3_ := Aside0.mk ((by rw [hg]; exact (below_size (by repeat (first | (with_reducible first | exact HB.out | apply below_alloc | apply pw_below_drewN | apply below_drew1) | exact HB.out))) : w.heap.size ≤ gb310)); clear HB; have HB := n0_; have BK310 := n1_; have GW310 := n2_; have GE310 := n3_; clear n0_ n1_ n2_ n3_; clear hb hbox hg; have hcz6_0 : w5.cell? ⟨gb310, 0, none⟩ = some (.int .i64 a0_0) := (blk_cell BK310.out 0).trans rfl; have hcz6_1 : w5.cell? ⟨gb310, 1, none⟩ = some (.slice A0_1 l0_1.length c0_1) := (blk_cell BK310.out 1).trans rfl; have hcz6_2 : w5.cell? ⟨gb310, 2, none⟩ = some (.int .i64 a0_2) := (blk_cell BK310.out 2).trans rfl; have hfz6_0 := blk_frozen BK310.out 0; have hfz6_1 := blk_frozen BK310.out 1; have hfz6_2 := blk_frozen BK310.out 2) | ((with_reducible refine gate_callee (f := 61) rfl ?_); refine goesL_ (some 5) rfl rfl Try.func61 (by kernel_rfl) rfl #[.agg #[.int .i64 a0_0, .slice A0_1 l0_1.length c0_1]] rfl (by (try simp only [List.map_toArray, List.map_cons, List.map_nil]); first | done | rfl | (simp only [List.length_drop, List.length_take]; rfl)) ?_; (with_reducible refine (impl_IsWhole.calls k a0_0 _ _ l0_1 true _ ?side1 ?side2 A2.out).mono ?_); (case side1 => repeat (first | exact (Kd.C_below HR0_1.out HB.out) | (with_reducible refine Kd.C_alloc ?_ _) | (with_reducible refine Kd.C_drewN ?_ _) | (with_reducible refine Kd.C_drew ?_))); (case side2 => exact HC0_1.out); rintro e w7 ⟨rfl, hb⟩; refine ⟨_, rfl, ?_⟩; have n0_ := Aside0.mk (blk_below (g := gb310) (o := .cells #[.int .i64 a0_0, .slice A0_1 l0_1.length c0_1, .int .i64 a0_2] 33 (0, 0)) (by (with_reducible repeat (first | refine blk_drewN ?_ _ | refine blk_drew ?_ | refine blk_alloc ?_ _)); exact BK310.out) hb); have n1_ := Aside0.mk (below_step (by repeat (first | (with_reducible first | exact HB.out | apply below_alloc | apply pw_below_drewN | apply below_drew1 | refine below_set ?_ GE310.out) | exact HB.out)) hb); clear BK310; clear HB; have BK310 := n0_; have HB := n1_; clear n0_ n1_; (try clear hb); (try clear hb2); (try clear hk); (try clear hi); have hcz8_0 : w7.cell? ⟨gb310, 0, none⟩ = some (.int .i64 a0_0) := (blk_cell BK310.out 0).trans rfl; have hcz8_1 : w7.cell? ⟨gb310, 1, none⟩ = some (.slice A0_1 l0_1.length c0_1) := (blk_cell BK310.out 1).trans rfl; have hcz8_2 : w7.cell? ⟨gb310, 2, none⟩ = some (.int .i64 a0_2) := (blk_cell BK310.out 2).trans rfl; have hfz8_0 := blk_frozen BK310.out 0; have hfz8_1 := blk_frozen BK310.out 1; have hfz8_2 := blk_frozen BK310.out 2))
      go_ret
      exact ⟨by first | rfl | (simp [errW_none, errW_some] <;> rfl) | (simp [*, errW_none, errW_some] <;> rfl), by repeat (first | (with_reducible first | exact HB.out | apply below_alloc | apply pw_below_drewN | apply below_drew1 | refine below_set ?_ GE310.out) | exact HB.out)⟩
    · rw [if_neg c4] at H
      have c4b0 : (a0_0 == 0) = false := beq_eq_false_iff_ne.mpr c4
      have c4b1 : (a0_0 != 0) = true := bne_iff_ne.mpr c4
      by_cases c9 : 0 < (l0_1.length : Int)
      · rw [if_pos c9] at H
        have c9b0 : decide (0 < (l0_1.length : Int)) = true := decide_eq_true c9
        have c9b1 : decide (0 < l0_1.length) = true := decide_eq_true (by omega)
        clear c9
        by_cases c10 : (Int.tmod (rd l0_1 0) 2) = 1
        · rw [if_pos c10] at H
          have c10b0 : ((Int.tmod (rd l0_1 0) 2) == 1) = true := beq_iff_eq.mpr c10
          have c10b1 : ((Int.tmod (rd l0_1 0) 2) != 1) = false := bne_eq_false_iff_eq.mpr c10
          clear c10
          by_cases c11 : a0_2 ≥ (-3000)
          · rw [if_pos c11] at H
            have c11b0 : decide ((-3000) ≤ a0_2) = true := decide_eq_true c11
            clear c11
            obtain rfl := Option.some.inj H
            go_enter Try.func32, Try.ntmps32
            go_wp2_with (first | ((with_reducible refine gate_dst (N := 1) rfl ?_); refine box_event ?hg (N := 1) ?hd (cs := #[.int .i64 a0_0, .slice A0_1 l0_1.length c0_1, .int .i64 a0_2]) (t := 33) ?hr ?_; (case hd => rfl); (case hg => rfl); (case hr => first | (go_simp; done) | (go_simp; rfl)); intro gb310 hg w12 hbox hb; have n0_ := Aside0.mk (below_step (by repeat (first | (with_reducible first | exact HB.out | apply below_alloc | apply pw_below_drewN | apply below_drew1) | exact HB.out)) hb); have n1_ := Aside0.mk (hbox); have n2_ := Aside0.mk ((by rw [hg]; exact (below_size (by repeat (first | (with_reducible first | exact HB.out | apply below_alloc | apply pw_below_drewN | apply below_drew1) | exact HB.out))) : w.heap.size ≤ gb310)); have n3_ := Aside0.mk ((by rw [hg]; exact (below_size (by repeat (first | (with_reducible first | exact HB.out | apply below_alloc | apply pw_below_drewN | apply below_drew1) | exact HB.out))) : w.heap.size ≤ gb310)); clear HB; have HB := n0_; have BK310 := n1_; have GW310 := n2_; have GE310 := n3_; clear n0_ n1_ n2_ n3_; clear hb hbox hg; have hcz13_0 : w12.cell? ⟨gb310, 0, none⟩ = some (.int .i64 a0_0) := (blk_cell BK310.out 0).trans rfl; have hcz13_1 : w12.cell? ⟨gb310, 1, none⟩ = some (.slice A0_1 l0_1.length c0_1) := (blk_cell BK310.out 1).trans rfl; have hcz13_2 : w12.cell? ⟨gb310, 2, none⟩ = some (.int .i64 a0_2) := (blk_cell BK310.out 2).trans rfl; have hfz13_0 := blk_frozen BK310.out 0; have hfz13_1 := blk_frozen BK310.out 1; have hfz13_2 := blk_frozen BK310.out 2) | ((with_reducible refine gate_callee (f := 61) rfl ?_); refine goesL_ (some 5) rfl rfl Try.func61 (by kernel_rfl) rfl #[.agg #[.int .i64 a0_0, .slice A0_1 l0_1.length c0_1]] rfl (by (try simp only [List.map_toArray, List.map_cons, List.map_nil]); first | done | rfl | (simp only [List.length_drop, List.length_take]; rfl)) ?_; (with_reducible refine (impl_IsWhole.calls k a0_0 _ _ l0_1 true _ ?side1 ?side2 A2.out).mono ?_); (case side1 => repeat (first | exact (Kd.C_below HR0_1.out HB.out) | (with_reducible refine Kd.C_alloc ?_ _) | (with_reducible refine Kd.C_drewN ?_ _) | (with_reducible refine Kd.C_drew ?_))); (case side2 => exact HC0_1.out); rintro e w14 ⟨rfl, hb⟩; refine ⟨_, rfl, ?_⟩; have n0_ := Aside0.mk (blk_below (g := gb310) (o := .cells #[.int .i64 a0_0, .slice A0_1 l0_1.length c0_1, .int .i64 a0_2] 33 (0, 0)) (by (with_reducible repeat (first | refine blk_drewN ?_ _ | refine blk_drew ?_ | refine blk_alloc ?_ _)); exact BK310.out) hb); have n1_ := Aside0.mk (below_step (by repeat (first | (with_reducible first | exact HB.out | apply below_alloc | apply pw_below_drewN | apply below_drew1 | refine below_set ?_ GE310.out) | exact HB.out)) hb); clear BK310; clear HB; have BK310 := n0_; have HB := n1_; clear n0_ n1_; (try clear hb); (try clear hb2); (try clear hk); (try clear hi); have hcz15_0 : w14.cell? ⟨gb310, 0, none⟩ = some (.int .i64 a0_0) := (blk_cell BK310.out 0).trans rfl; have hcz15_1 : w14.cell? ⟨gb310, 1, none⟩ = some (.slice A0_1 l0_1.length c0_1) := (blk_cell BK310.out 1).trans rfl; have hcz15_2 : w14.cell? ⟨gb310, 2, none⟩ = some (.int .i64 a0_2) := (blk_cell BK310.out 2).trans rfl; have hfz15_0 := blk_frozen BK310.out 0; have hfz15_1 := blk_frozen BK310.out 1; have hfz15_2 := blk_frozen BK310.out 2; have p312 : 0 ≤ (0 : Int) := (by omega); have q312 : 0 < (l0_1.length : Int) := of_decide_eq_true (by first | (with_reducible assumption) | assumption); obtain ⟨ad312, e312, hx312_0⟩ := Kd.at_int HR0_1.out 0 p312 q312; cases e312; have qi312 : (0 < l0_1.length) = True := eq_true (by omega); (try rw [show ((0 : Int)).toNat = 0 from rfl] at hx312_0); (try rw [Addr.add_zero'] at hx312_0); replace hx312_0 := (HB.out.cell (World.block_lt_of_cell? w _ hx312_0)).trans hx312_0; replace p312 := eq_true p312; replace q312 := eq_true q312))
            go_ret
            exact ⟨by first | rfl | (simp [errW_none, errW_some] <;> rfl) | (simp [*, errW_none, errW_some] <;> rfl), by repeat (first | (with_reducible first | exact HB.out | apply below_alloc | apply pw_below_drewN | apply below_drew1 | refine below_set ?_ GE310.out) | exact HB.out)⟩
          · rw [if_neg c11] at H
            have c11b0 : decide ((-3000) ≤ a0_2) = false := decide_eq_false c11
            clear c11
            obtain rfl := Option.some.inj H
            go_enter Try.func32, Try.ntmps32
            go_wp2_with (first | ((with_reducible refine gate_dst (N := 1) rfl ?_); refine box_event ?hg (N := 1) ?hd (cs := #[.int .i64 a0_0, .slice A0_1 l0_1.length c0_1, .int .i64 a0_2]) (t := 33) ?hr ?_; (case hd => rfl); (case hg => rfl); (case hr => first | (go_simp; done) | (go_simp; rfl)); intro gb310 hg w16 hbox hb; have n0_ := Aside0.mk (below_step (by repeat (first | (with_reducible first | exact HB.out | apply below_alloc | apply pw_below_drewN | apply below_drew1) | exact HB.out)) hb); have n1_ := Aside0.mk (hbox); have n2_ := Aside0.mk ((by rw [hg]; exact (below_size (by repeat (first | (with_reducible first | exact HB.out | apply below_alloc | apply pw_below_drewN | apply below_drew1) | exact HB.out))) : w.heap.size ≤ gb310)); have n3_ := Aside0.mk ((by rw [hg]; exact (below_size (by repeat (first | (with_reducible first | exact HB.out | apply below_alloc | apply pw_below_drewN | apply below_drew1) | exact HB.out))) : w.heap.size ≤ gb310)); clear HB; have HB := n0_; have BK310 := n1_; have GW310 := n2_; have GE310 := n3_; clear n0_ n1_ n2_ n3_; clear hb hbox hg; have hcz17_0 : w16.cell? ⟨gb310, 0, none⟩ = some (.int .i64 a0_0) := (blk_cell BK310.out 0).trans rfl; have hcz17_1 : w16.cell? ⟨gb310, 1, none⟩ = some (.slice A0_1 l0_1.length c0_1) := (blk_cell BK310.out 1).trans rfl; have hcz17_2 : w16.cell? ⟨gb310, 2, none⟩ = some (.int .i64 a0_2) := (blk_cell BK310.out 2).trans rfl; have hfz17_0 := blk_frozen BK310.out 0; have hfz17_1 := blk_frozen BK310.out 1; have hfz17_2 := blk_frozen BK310.out 2) | ((with_reducible refine gate_callee (f := 61) rfl ?_); refine goesL_ (some 5) rfl rfl Try.func61 (by kernel_rfl) rfl #[.agg #[.int .i64 a0_0, .slice A0_1 l0_1.length c0_1]] rfl (by (try simp only [List.map_toArray, List.map_cons, List.map_nil]); first | done | rfl | (simp only [List.length_drop, List.length_take]; rfl)) ?_; (with_reducible refine (impl_IsWhole.calls k a0_0 _ _ l0_1 true _ ?side1 ?side2 A2.out).mono ?_); (case side1 => repeat (first | exact (Kd.C_below HR0_1.out HB.out) | (with_reducible refine Kd.C_alloc ?_ _) | (with_reducible refine Kd.C_drewN ?_ _) | (with_reducible refine Kd.C_drew ?_))); (case side2 => exact HC0_1.out); rintro e w18 ⟨rfl, hb⟩; refine ⟨_, rfl, ?_⟩; have n0_ := Aside0.mk (blk_below (g := gb310) (o := .cells #[.int .i64 a0_0, .slice A0_1 l0_1.length c0_1, .int .i64 a0_2] 33 (0, 0)) (by (with_reducible repeat (first | refine blk_drewN ?_ _ | refine blk_drew ?_ | refine blk_alloc ?_ _)); exact BK310.out) hb); have n1_ := Aside0.mk (below_step (by repeat (first | (with_reducible first | exact HB.out | apply below_alloc | apply pw_below_drewN | apply below_drew1 | refine below_set ?_ GE310.out) | exact HB.out)) hb); clear BK310; clear HB; have BK310 := n0_; have HB := n1_; clear n0_ n1_; (try clear hb); (try clear hb2); (try clear hk); (try clear hi); have hcz19_0 : w18.cell? ⟨gb310, 0, none⟩ = some (.int .i64 a0_0) := (blk_cell BK310.out 0).trans rfl; have hcz19_1 : w18.cell? ⟨gb310, 1, none⟩ = some (.slice A0_1 l0_1.length c0_1) := (blk_cell BK310.out 1).trans rfl; have hcz19_2 : w18.cell? ⟨gb310, 2, none⟩ = some (.int .i64 a0_2) := (blk_cell BK310.out 2).trans rfl; have hfz19_0 := blk_frozen BK310.out 0; have hfz19_1 := blk_frozen BK310.out 1; have hfz19_2 := blk_frozen BK310.out 2; have p312 : 0 ≤ (0 : Int) := (by omega); have q312 : 0 < (l0_1.length : Int) := of_decide_eq_true (by first | (with_reducible assumption) | assumption); obtain ⟨ad312, e312, hx312_0⟩ := Kd.at_int HR0_1.out 0 p312 q312; cases e312; have qi312 : (0 < l0_1.length) = True := eq_true (by omega); (try rw [show ((0 : Int)).toNat = 0 from rfl] at hx312_0); (try rw [Addr.add_zero'] at hx312_0); replace hx312_0 := (HB.out.cell (World.block_lt_of_cell? w _ hx312_0)).trans hx312_0; replace p312 := eq_true p312; replace q312 := eq_true q312))
            go_ret
            exact ⟨by first | rfl | (simp [errW_none, errW_some] <;> rfl) | (simp [*, errW_none, errW_some] <;> rfl), by repeat (first | (with_reducible first | exact HB.out | apply below_alloc | apply pw_below_drewN | apply below_drew1 | refine below_set ?_ GE310.out) | exact HB.out)⟩
        · rw [if_neg c10] at H
          have c10b0 : ((Int.tmod (rd l0_1 0) 2) == 1) = false := beq_eq_false_iff_ne.mpr c10
          have c10b1 : ((Int.tmod (rd l0_1 0) 2) != 1) = true := bne_iff_ne.mpr c10
          obtain rfl := Option.some.inj H
          go_enter Try.func32, Try.ntmps32
          go_wp2_with (first | ((with_reducible refine gate_dst (N := 1) rfl ?_); refine box_event ?hg (N := 1) ?hd (cs := #[.int .i64 a0_0, .slice A0_1 l0_1.length c0_1, .int .i64 a0_2]) (t := 33) ?hr ?_; (case hd => rfl); (case hg => rfl); (case hr => first | (go_simp; done) | (go_simp; rfl)); intro gb310 hg w20 hbox hb; have n0_ := Aside0.mk (below_step (by repeat (first | (with_reducible first | exact HB.out | apply below_alloc | apply pw_below_drewN | apply below_drew1) | exact HB.out)) hb); have n1_ := Aside0.mk (hbox); have n2_ := Aside0.mk ((by rw [hg]; exact (below_size (by repeat (first | (with_reducible first | exact HB.out | apply below_alloc | apply pw_below_drewN | apply below_drew1) | exact HB.out))) : w.heap.size ≤ gb310)); have n3_ := Aside0.mk ((by rw [hg]; exact (below_size (by repeat (first | (with_reducible first | exact HB.out | apply below_alloc | apply pw_below_drewN | apply below_drew1) | exact HB.out))) : w.heap.size ≤ gb310)); clear HB; have HB := n0_; have BK310 := n1_; have GW310 := n2_; have GE310 := n3_; clear n0_ n1_ n2_ n3_; clear hb hbox hg; have hcz21_0 : w20.cell? ⟨gb310, 0, none⟩ = some (.int .i64 a0_0) := (blk_cell BK310.out 0).trans rfl; have hcz21_1 : w20.cell? ⟨gb310, 1, none⟩ = some (.slice A0_1 l0_1.length c0_1) := (blk_cell BK310.out 1).trans rfl; have hcz21_2 : w20.cell? ⟨gb310, 2, none⟩ = some (.int .i64 a0_2) := (blk_cell BK310.out 2).trans rfl; have hfz21_0 := blk_frozen BK310.out 0; have hfz21_1 := blk_frozen BK310.out 1; have hfz21_2 := blk_frozen BK310.out 2) | ((with_reducible refine gate_callee (f := 61) rfl ?_); refine goesL_ (some 5) rfl rfl Try.func61 (by kernel_rfl) rfl #[.agg #[.int .i64 a0_0, .slice A0_1 l0_1.length c0_1]] rfl (by (try simp only [List.map_toArray, List.map_cons, List.map_nil]); first | done | rfl | (simp only [List.length_drop, List.length_take]; rfl)) ?_; (with_reducible refine (impl_IsWhole.calls k a0_0 _ _ l0_1 true _ ?side1 ?side2 A2.out).mono ?_); (case side1 => repeat (first | exact (Kd.C_below HR0_1.out HB.out) | (with_reducible refine Kd.C_alloc ?_ _) | (with_reducible refine Kd.C_drewN ?_ _) | (with_reducible refine Kd.C_drew ?_))); (case side2 => exact HC0_1.out); rintro e w22 ⟨rfl, hb⟩; refine ⟨_, rfl, ?_⟩; have n0_ := Aside0.mk (blk_below (g := gb310) (o := .cells #[.int .i64 a0_0, .slice A0_1 l0_1.length c0_1, .int .i64 a0_2] 33 (0, 0)) (by (with_reducible repeat (first | refine blk_drewN ?_ _ | refine blk_drew ?_ | refine blk_alloc ?_ _)); exact BK310.out) hb); have n1_ := Aside0.mk (below_step (by repeat (first | (with_reducible first | exact HB.out | apply below_alloc | apply pw_below_drewN | apply below_drew1 | refine below_set ?_ GE310.out) | exact HB.out)) hb); clear BK310; clear HB; have BK310 := n0_; have HB := n1_; clear n0_ n1_; (try clear hb); (try clear hb2); (try clear hk); (try clear hi); have hcz23_0 : w22.cell? ⟨gb310, 0, none⟩ = some (.int .i64 a0_0) := (blk_cell BK310.out 0).trans rfl; have hcz23_1 : w22.cell? ⟨gb310, 1, none⟩ = some (.slice A0_1 l0_1.length c0_1) := (blk_cell BK310.out 1).trans rfl; have hcz23_2 : w22.cell? ⟨gb310, 2, none⟩ = some (.int .i64 a0_2) := (blk_cell BK310.out 2).trans rfl; have hfz23_0 := blk_frozen BK310.out 0; have hfz23_1 := blk_frozen BK310.out 1; have hfz23_2 := blk_frozen BK310.out 2; have p312 : 0 ≤ (0 : Int) := (by omega); have q312 : 0 < (l0_1.length : Int) := of_decide_eq_true (by first | (with_reducible assumption) | assumption); obtain ⟨ad312, e312, hx312_0⟩ := Kd.at_int HR0_1.out 0 p312 q312; cases e312; have qi312 : (0 < l0_1.length) = True := eq_true (by omega); (try rw [show ((0 : Int)).toNat = 0 from rfl] at hx312_0); (try rw [Addr.add_zero'] at hx312_0); replace hx312_0 := (HB.out.cell (World.block_lt_of_cell? w _ hx312_0)).trans hx312_0; replace p312 := eq_true p312; replace q312 := eq_true q312))
          go_ret
          exact ⟨by first | rfl | (simp [errW_none, errW_some] <;> rfl) | (simp [*, errW_none, errW_some] <;> rfl), by repeat (first | (with_reducible first | exact HB.out | apply below_alloc | apply pw_below_drewN | apply below_drew1 | refine below_set ?_ GE310.out) | exact HB.out)⟩
      · rw [if_neg c9] at H
        exact absurd H (by simp)
  · replace c3 := Bool.eq_false_iff.mpr c3
    subst c3
    have H1 : (some false) = some r := by rw [if_neg (show ¬ (false = true) by decide)] at H; exact H
    clear H
    have H := H1
    clear H1
    obtain rfl := Option.some.inj H
    go_enter Try.func32, Try.ntmps32
    go_wp2_with (first | ((with_reducible refine gate_dst (N := 1) rfl ?_); refine box_event ?hg (N := 1) ?hd (cs := #[.int .i64 a0_0, .slice A0_1 l0_1.length c0_1, .int .i64 a0_2]) (t := 33) ?hr ?_; (case hd => rfl); (case hg => rfl); (case hr => first | (go_simp; done) | (go_simp; rfl)); intro gb310 hg w24 hbox hb; have n0_ := Aside0.mk (below_step (by repeat (first | (with_reducible first | exact HB.out | apply below_alloc | apply pw_below_drewN | apply below_drew1) | exact HB.out)) hb); have n1_ := Aside0.mk (hbox); have n2_ := Aside0.mk ((by rw [hg]; exact (below_size (by repeat (first | (with_reducible first | exact HB.out | apply below_alloc | apply pw_below_drewN | apply below_drew1) | exact HB.out))) : w.heap.size ≤ gb310)); have n3_ := Aside0.mk ((by rw [hg]; exact (below_size (by repeat (first | (with_reducible first | exact HB.out | apply below_alloc | apply pw_below_drewN | apply below_drew1) | exact HB.out))) : w.heap.size ≤ gb310)); clear HB; have HB := n0_; have BK310 := n1_; have GW310 := n2_; have GE310 := n3_; clear n0_ n1_ n2_ n3_; clear hb hbox hg; have hcz25_0 : w24.cell? ⟨gb310, 0, none⟩ = some (.int .i64 a0_0) := (blk_cell BK310.out 0).trans rfl; have hcz25_1 : w24.cell? ⟨gb310, 1, none⟩ = some (.slice A0_1 l0_1.length c0_1) := (blk_cell BK310.out 1).trans rfl; have hcz25_2 : w24.cell? ⟨gb310, 2, none⟩ = some (.int .i64 a0_2) := (blk_cell BK310.out 2).trans rfl; have hfz25_0 := blk_frozen BK310.out 0; have hfz25_1 := blk_frozen BK310.out 1; have hfz25_2 := blk_frozen BK310.out 2) | ((with_reducible refine gate_callee (f := 61) rfl ?_); refine goesL_ (some 5) rfl rfl Try.func61 (by kernel_rfl) rfl #[.agg #[.int .i64 a0_0, .slice A0_1 l0_1.length c0_1]] rfl (by (try simp only [List.map_toArray, List.map_cons, List.map_nil]); first | done | rfl | (simp only [List.length_drop, List.length_take]; rfl)) ?_; (with_reducible refine (impl_IsWhole.calls k a0_0 _ _ l0_1 false _ ?side1 ?side2 A2.out).mono ?_); (case side1 => repeat (first | exact (Kd.C_below HR0_1.out HB.out) | (with_reducible refine Kd.C_alloc ?_ _) | (with_reducible refine Kd.C_drewN ?_ _) | (with_reducible refine Kd.C_drew ?_))); (case side2 => exact HC0_1.out); rintro e w26 ⟨rfl, hb⟩; refine ⟨_, rfl, ?_⟩; have n0_ := Aside0.mk (blk_below (g := gb310) (o := .cells #[.int .i64 a0_0, .slice A0_1 l0_1.length c0_1, .int .i64 a0_2] 33 (0, 0)) (by (with_reducible repeat (first | refine blk_drewN ?_ _ | refine blk_drew ?_ | refine blk_alloc ?_ _)); exact BK310.out) hb); have n1_ := Aside0.mk (below_step (by repeat (first | (with_reducible first | exact HB.out | apply below_alloc | apply pw_below_drewN | apply below_drew1 | refine below_set ?_ GE310.out) | exact HB.out)) hb); clear BK310; clear HB; have BK310 := n0_; have HB := n1_; clear n0_ n1_; (try clear hb); (try clear hb2); (try clear hk); (try clear hi)))
    go_ret
    exact ⟨by first | rfl | (simp [errW_none, errW_some] <;> rfl) | (simp [*, errW_none, errW_some] <;> rfl), by repeat (first | (with_reducible first | exact HB.out | apply below_alloc | apply pw_below_drewN | apply below_drew1 | refine below_set ?_ GE310.out) | exact HB.out)⟩
end Go.Proofs.Ytjddhnjjeomfjaa.PW
end
section
namespace Go.Proofs.Ytjddhnjjeomfjaa.Px
open Go.RowKit Go.Proofs.YtjddhnjjeomfjaaW.PrintWords Go.Proofs.Ytjddhnjjeomfjaa.PW Go.Proofs.Ytjddhnjjeomfjaa.Pb Go.Proofs.Ytjddhnjjeomfjaa.Pc Go.Proofs.Ytjddhnjjeomfjaa.Pm Go.Proofs.Ytjddhnjjeomfjaa.Pw Dg
set_option linter.unusedVariables false
set_option linter.unusedSimpArgs false
theorem sown (l : List Int) (h : l.length ≤ 1099511627776) : spec_l01Own.f l = some l := by
  unfold spec_l01Own.f
  simp only [Option.bind_some, List.length_nil, List.nil_append]
  rw [if_pos (by omega)]
def smk (s : Int) (n : Nat) : Int × List Int := if n = 0 then (0, []) else (s, L n)
theorem smk_sgn (z : Int) : smk (sgn z) z.natAbs = (sgn z, L z.natAbs) := by
  unfold smk
  by_cases h : z = 0
  · subst h
    simp [sgn, L_zero]
  · rw [if_neg (by omega)]
theorem smk_one (z : Int) (s : Int) (hs : s = if z < 0 then -1 else 1) : smk s z.natAbs = (sgn z, L z.natAbs) := by
  by_cases h : z = 0
  · subst h
    simp [smk, sgn, L_zero]
  · rw [← smk_sgn z, hs]
    congr 1
    unfold sgn
    split
    · rfl
    · first | rw [if_neg h] | rfl
theorem smake_loop (s : Int) (l : List Int) (hd : Dig 16777216 l) (hl : l.length ≤ 1099511627776) : ∀ i : Nat, i ≤ l.length → val 16777216 (l.take i) = val 16777216 l → Ev (fun k => spec_l02Make.l0 k s l (i : Int)) (smk s (val 16777216 l).toNat) := by
  intro i
  induction i with
  | zero =>
    intro _ hv
    refine Ev.step (f := fun _ => some (0, [])) (fun k => ?_) (ev_of fun _ => ?_)
    · simp only [spec_l02Make.l0]
      rw [if_neg (by omega), if_pos (by omega)]
    · rw [List.take_zero, val_nil] at hv
      rw [← hv]; rfl
  | succ i ih =>
    intro hi hv
    have e1 : wrap64 (((i + 1 : Nat) : Int) - 1) = (i : Int) := by rw [wrapZ _ (by omega) (by omega)]; omega
    by_cases h0 : l.getD i 0 = 0
    · refine Ev.step (f := fun k => spec_l02Make.l0 k s l (i : Int)) (fun k => ?_) (ih (by omega) ?_)
      · simp only [spec_l02Make.l0]
        rw [if_pos (by omega), e1, if_pos (by omega), if_pos (by omega), rdN, if_pos h0]
      · rw [← hv]
        exact (val_take_zero (by omega) h0).symm
    · refine Ev.step (f := fun _ => some (s, l.take (i + 1))) (fun k => ?_) (ev_of fun _ => ?_)
      · simp only [spec_l02Make.l0]
        rw [if_pos (by omega), e1, if_pos (by omega), if_pos (by omega), rdN, if_neg h0, if_neg (by omega), if_pos (by omega), if_pos (show ((i + 1 : Nat) : Int) ≤ (l.length : Int) by omega), Int.toNat_natCast, sown _ (by simp; omega)]
        rfl
      · have ht : Top (l.take (i + 1)) := top_take_of hi (.inr (by rw [Nat.add_sub_cancel]; exact h0))
        have hne : l.take (i + 1) ≠ [] := by
          intro e
          have := congrArg List.length e
          rw [List.length_take, List.length_nil] at this
          omega
        have hp := val_pos (hd.take (i + 1)) ht hne (by decide)
        rw [hv] at hp
        have hL := L_of (hd.take (i + 1)) ht
        rw [hv] at hL
        unfold smk
        rw [if_neg (by omega), hL]
theorem smake (s : Int) (l : List Int) (hd : Dig 16777216 l) (hl : l.length ≤ 1099511627776) : Ev (fun k => spec_l02Make.f k s l) (smk s (val 16777216 l).toNat) := by
  unfold spec_l02Make.f
  exact smake_loop s l hd hl l.length (Nat.le_refl _) (by rw [List.take_length])
end Go.Proofs.Ytjddhnjjeomfjaa.Px
end
section
namespace Go.Proofs.Ytjddhnjjeomfjaa.Pt
open Go.RowKit Go.Proofs.YtjddhnjjeomfjaaW.PrintWords Go.Proofs.Ytjddhnjjeomfjaa.PW Go.Proofs.Ytjddhnjjeomfjaa.Pb Go.Proofs.Ytjddhnjjeomfjaa.Pc Go.Proofs.Ytjddhnjjeomfjaa.Pm Go.Proofs.Ytjddhnjjeomfjaa.Pw Dg
set_option linter.unusedVariables false
set_option linter.unusedSimpArgs false
theorem slimbs_loop (a b : List Int) (hl : a.length = b.length) (hm : a.length ≤ 1099511627776) (ha : Dig 16777216 a) (hb : Dig 16777216 b) :
    ∀ i : Nat, i ≤ a.length → a.drop i = b.drop i → Ev (fun k => spec_l02CompareLimbs.l0 k a b ((i : Int) - 1)) (sgn (val 16777216 a - val 16777216 b)) := by
  intro i
  induction i with
  | zero =>
    intro _ h
    rw [List.drop_zero, List.drop_zero] at h
    subst h
    refine Ev.step (f := fun _ => some 0) (fun k => ?_) (ev_of fun _ => by rw [Int.sub_self]; rfl)
    simp only [spec_l02CompareLimbs.l0]
    rw [if_neg (by omega)]
  | succ i ih =>
    intro hi h
    have e1 : ((i + 1 : Nat) : Int) - 1 = (i : Int) := by omega
    rw [e1]
    by_cases hx : a.getD i 0 = b.getD i 0
    · have h2 : a.drop i = b.drop i := by
        rw [List.drop_eq_getElem_cons (show i < a.length by omega), List.drop_eq_getElem_cons (show i < b.length by omega), h, ← getD_lt (show i < a.length by omega), ← getD_lt (show i < b.length by omega), hx]
      refine Ev.step (f := fun k => spec_l02CompareLimbs.l0 k a b ((i : Int) - 1)) (fun k => ?_) (ih (by omega) h2)
      simp only [spec_l02CompareLimbs.l0]
      rw [if_pos (by omega), if_pos (by omega), if_pos (by omega), if_pos (by omega), rdN, rdN, if_pos hx, wrapZ _ (by omega) (by omega)]
    · refine Ev.step (f := fun _ => some (sgn (a.getD i 0 - b.getD i 0))) (fun k => ?_) (ev_of fun _ => ?_)
      · simp only [spec_l02CompareLimbs.l0]
        rw [if_pos (by omega), if_pos (by omega), if_pos (by omega), if_pos (by omega), rdN, rdN, if_neg hx]
        unfold sgn
        rcases Int.lt_or_gt_of_ne hx with h3 | h3
        · rw [if_pos h3, if_pos (by omega)]
        · rw [if_neg (by omega), if_neg (by omega), if_neg (by omega)]
      · congr 1
        rcases Int.lt_or_gt_of_ne hx with h3 | h3
        · have := val_lt_of_digit (by decide) ha hb i h (by omega) h3
          unfold sgn; rw [if_pos (by omega), if_pos (by omega)]
        · have := val_lt_of_digit (by decide) hb ha i h.symm (by omega) h3
          unfold sgn; rw [if_neg (by omega), if_neg (by omega), if_neg (by omega), if_neg (by omega)]
theorem slimbs {a b : List Int} (ha : Dig 16777216 a) (hb : Dig 16777216 b) (ta : Top a) (tb : Top b) (h1 : a.length ≤ 1099511627776) (h2 : b.length ≤ 1099511627776) : Ev (fun k => spec_l02CompareLimbs.f k a b) (sgn (val 16777216 a - val 16777216 b)) := by
  unfold spec_l02CompareLimbs.f
  by_cases h : a.length = b.length
  · refine ifp (by omega) ?_
    have := slimbs_loop a b h h1 ha hb a.length (Nat.le_refl _) (by rw [List.drop_length, h, List.drop_length])
    rw [wrapZ _ (by omega) (by omega)]
    exact this
  · refine ifn (by omega) ?_
    rcases Nat.lt_or_gt_of_ne h with h3 | h3
    · have := val_lt_of_length (by decide) ha hb tb h3
      refine ifp (by omega) (ev_of fun _ => ?_)
      unfold sgn; rw [if_pos (by omega)]
    · have := val_lt_of_length (by decide) hb ha ta h3
      refine ifn (by omega) (ev_of fun _ => ?_)
      unfold sgn; rw [if_neg (by omega), if_neg (by omega)]
theorem sgn_range (z : Int) : -1 ≤ sgn z ∧ sgn z ≤ 1 := by
  unfold sgn
  split
  · omega
  · split <;> omega
end Go.Proofs.Ytjddhnjjeomfjaa.Pt
end
section
namespace Go.Proofs.Ytjddhnjjeomfjaa.Py
open Go.RowKit Go.Proofs.YtjddhnjjeomfjaaW.PrintWords Go.Proofs.Ytjddhnjjeomfjaa.PW Go.Proofs.Ytjddhnjjeomfjaa.Pb Go.Proofs.Ytjddhnjjeomfjaa.Pc Go.Proofs.Ytjddhnjjeomfjaa.Pm Go.Proofs.Ytjddhnjjeomfjaa.Pw Go.Proofs.Ytjddhnjjeomfjaa.Px Go.Proofs.Ytjddhnjjeomfjaa.Pt Dg
set_option linter.unusedVariables false
set_option linter.unusedSimpArgs false
theorem plus_round (a b out : List Int) (c : Int) (i : Nat) (ha : Dig 16777216 a) (hb : Dig 16777216 b) (hl1 : a.length ≤ 1099511627776) (hl2 : b.length ≤ 1099511627776) (ho : out.length ≤ 1099511627777) (h0 : 0 ≤ c) (h1 : c ≤ 1) (hi : i ≤ 1099511627777) (k : Nat) :
    spec_l02Plus.j1 (k + 1) a b out c (i : Int) true = spec_l02Plus.l0 k a b (out ++ [(c + a.getD i 0 + b.getD i 0) % 16777216]) ((c + a.getD i 0 + b.getD i 0) / 16777216) ((i + 1 : Nat) : Int) := by
  have hai := ha.all0 (by decide) i
  have hbi := hb.all0 (by decide) i
  simp only [spec_l02Plus.j1]
  rw [if_pos trivial, wrapZ ((i : Int) + 1) (by omega) (by omega)]
  by_cases hia : i < a.length
  · rw [if_pos (show (i : Int) < (a.length : Int) by omega), if_pos (show (0 : Int) ≤ (i : Int) by omega)]
    by_cases hib : i < b.length
    · rw [if_pos (show (i : Int) < (b.length : Int) by omega), if_pos (by omega), rdN, rdN, wrapZ (c + _) (by omega) (by omega), wrapZ (c + _ + _) (by omega) (by omega), Int.tmod_eq_emod_of_nonneg (by omega), Int.tdiv_eq_ediv_of_nonneg (by omega), wrapZ _ (by omega) (by omega)]
      rfl
    · have hb0 : b.getD i 0 = 0 := getD_ge (by omega)
      rw [if_neg (show ¬ (i : Int) < (b.length : Int) by omega), if_pos (by omega), rdN, wrapZ (c + _) (by omega) (by omega), Int.tmod_eq_emod_of_nonneg (by omega), Int.tdiv_eq_ediv_of_nonneg (by omega), wrapZ _ (by omega) (by omega), hb0, Int.add_zero]
      rfl
  · have ha0 : a.getD i 0 = 0 := getD_ge (by omega)
    rw [if_neg (show ¬ (i : Int) < (a.length : Int) by omega)]
    by_cases hib : i < b.length
    · rw [if_pos (show (i : Int) < (b.length : Int) by omega), if_pos (show (0 : Int) ≤ (i : Int) by omega), if_pos (by omega), rdN, wrapZ (c + _) (by omega) (by omega), Int.tmod_eq_emod_of_nonneg (by omega), Int.tdiv_eq_ediv_of_nonneg (by omega), wrapZ _ (by omega) (by omega), ha0, Int.add_zero]
      rfl
    · have hb0 : b.getD i 0 = 0 := getD_ge (by omega)
      rw [if_neg (show ¬ (i : Int) < (b.length : Int) by omega), if_pos (by omega), Int.tmod_eq_emod_of_nonneg (by omega), Int.tdiv_eq_ediv_of_nonneg (by omega), wrapZ _ (by omega) (by omega), ha0, hb0, Int.add_zero, Int.add_zero]
      rfl
theorem plus_end (a b out : List Int) (i : Nat) (ha : a.length ≤ i) (hb : b.length ≤ i) : Ev (fun k => spec_l02Plus.l0 k a b out 0 (i : Int)) out := by
  refine Ev.step (f := fun k => spec_l02Plus.j1 k a b out 0 (i : Int) false) (fun k => ?_) (Ev.step (f := fun _ => some out) (fun k => ?_) (ev_of fun _ => rfl))
  · simp only [spec_l02Plus.l0]
    rw [if_neg (by omega), if_neg (by omega)]
    rfl
  · simp only [spec_l02Plus.j1]
    rw [if_neg (by simp)]
theorem plus_loop (a b : List Int) (ha : Dig 16777216 a) (hb : Dig 16777216 b) (hl1 : a.length ≤ 1099511627776) (hl2 : b.length ≤ 1099511627776) (M : Nat) (hM1 : a.length ≤ M) (hM2 : b.length ≤ M) (hM3 : M = a.length ∨ M = b.length) (d : Nat) :
    ∀ (i : Nat) (out : List Int) (c : Int), i + d = M → out.length = i → Dig 16777216 out → 0 ≤ c → c ≤ 1 → val 16777216 out + 16777216 ^ i * c = val 16777216 (a.take i) + val 16777216 (b.take i) →
      ∃ r, Ev (fun k => spec_l02Plus.l0 k a b out c (i : Int)) r ∧ Dig 16777216 r ∧ val 16777216 r = val 16777216 a + val 16777216 b ∧ r.length ≤ M + 1 := by
  induction d with
  | zero =>
    intro i out c hd hlen hdo h0 h1 hinv
    obtain rfl : i = M := by omega
    rw [val_take_ge hM1, val_take_ge hM2] at hinv
    by_cases hc : c = 0
    · subst hc
      exact ⟨out, plus_end a b out i hM1 hM2, hdo, by omega, by omega⟩
    · obtain rfl : c = 1 := by omega
      have ha0 : a.getD i 0 = 0 := getD_ge hM1
      have hb0 : b.getD i 0 = 0 := getD_ge hM2
      refine ⟨out ++ [1], ?_, hdo.append (Dig.cons (by decide) (by decide) Dig.nil), ?_, by simp; omega⟩
      · refine Ev.step (f := fun k => spec_l02Plus.j1 k a b out 1 (i : Int) true) (fun k => ?_) (Ev.step (f := fun k => spec_l02Plus.l0 k a b (out ++ [1]) 0 ((i + 1 : Nat) : Int)) (fun k => ?_) (plus_end a b _ (i + 1) (by omega) (by omega)))
        · simp only [spec_l02Plus.l0]
          rw [if_neg (by omega), if_neg (by omega)]
          rfl
        · rw [plus_round a b out 1 i ha hb hl1 hl2 (by omega) (by decide) (by decide) (by omega) k, ha0, hb0]
          rfl
      · rw [val_snoc, hlen, ← hinv]
        rfl
  | succ d ih =>
    intro i out c hd hlen hdo h0 h1 hinv
    have hai := ha.all0 (by decide) i
    have hbi := hb.all0 (by decide) i
    obtain ⟨r, hr, h2⟩ := ih (i + 1) (out ++ [(c + a.getD i 0 + b.getD i 0) % 16777216]) ((c + a.getD i 0 + b.getD i 0) / 16777216) (by omega) (by simp; omega) (hdo.append (Dig.cons (by omega) (by omega) Dig.nil)) (by omega) (by omega) (by
      have := add_step (a := a.getD i 0) (b := b.getD i 0) (c := c) (x := (c + a.getD i 0 + b.getD i 0) % 16777216) (c' := (c + a.getD i 0 + b.getD i 0) / 16777216) (p := 16777216) hinv (by omega)
      rw [val_snoc, hlen, val_take_succ' a i, val_take_succ' b i, Int.pow_succ]
      exact this)
    refine ⟨r, ?_, h2⟩
    refine Ev.step (f := fun k => spec_l02Plus.j1 k a b out c (i : Int) true) (fun k => ?_) (Ev.step (f := fun k => _) (fun k => plus_round a b out c i ha hb hl1 hl2 (by omega) h0 h1 (by omega) k) hr)
    simp only [spec_l02Plus.l0]
    by_cases hia : i < a.length
    · rw [if_pos (by omega)]
    · rw [if_neg (by omega), if_pos (by omega)]
theorem splus (a b : List Int) (ha : Dig 16777216 a) (hb : Dig 16777216 b) (hl1 : a.length ≤ 1099511627776) (hl2 : b.length ≤ 1099511627776) :
    ∃ r, Ev (fun k => spec_l02Plus.f k a b) r ∧ Dig 16777216 r ∧ val 16777216 r = val 16777216 a + val 16777216 b ∧ r.length ≤ max a.length b.length + 1 := by
  unfold spec_l02Plus.f
  exact plus_loop a b ha hb hl1 hl2 (max a.length b.length) (by omega) (by omega) (by omega) (max a.length b.length) 0 [] 0 (by omega) rfl Dig.nil (by decide) (by decide) (by simp [val])
theorem minus_loop (a b : List Int) (ha : Dig 16777216 a) (hb : Dig 16777216 b) (hab : b.length ≤ a.length) (hl1 : a.length ≤ 1099511627776) (hle : val 16777216 b ≤ val 16777216 a) (d : Nat) :
    ∀ (i : Nat) (out : List Int) (c : Int), i + d = a.length → out.length = i → Dig 16777216 out → 0 ≤ c → c ≤ 1 → val 16777216 out - 16777216 ^ i * c = val 16777216 (a.take i) - val 16777216 (b.take i) →
      ∃ r, Ev (fun k => spec_l02Minus.l0 k a b out c (i : Int)) r ∧ Dig 16777216 r ∧ val 16777216 r = val 16777216 a - val 16777216 b ∧ r.length = a.length := by
  induction d with
  | zero =>
    intro i out c hd hlen hdo h0 h1 hinv
    obtain rfl : i = a.length := by omega
    rw [val_take_ge (Nat.le_refl _), val_take_ge hab] at hinv
    have hlt := val_lt (by decide) hdo
    rw [hlen] at hlt
    have hp : ((16777216 : Nat) : Int) ^ a.length = (16777216 : Int) ^ a.length := rfl
    have hv : val 16777216 out = val 16777216 a - val 16777216 b := by
      rcases (show c = 0 ∨ c = 1 by omega) with rfl | rfl
      · omega
      · exfalso
        rw [Int.mul_one] at hinv
        omega
    refine ⟨out, Ev.step (f := fun _ => some out) (fun k => ?_) (ev_of fun _ => rfl), hdo, hv, hlen⟩
    simp only [spec_l02Minus.l0]
    rw [if_neg (by omega)]
  | succ d ih =>
    intro i out c hd hlen hdo h0 h1 hinv
    have hai := ha.all0 (by decide) i
    have hbi := hb.all0 (by decide) i
    obtain ⟨x, hx⟩ : ∃ x, x = a.getD i 0 - c - b.getD i 0 := ⟨_, rfl⟩
    obtain ⟨y, e, hy0, hy1, he0, he1, hye, hcase⟩ : ∃ y e : Int, 0 ≤ y ∧ y < 16777216 ∧ 0 ≤ e ∧ e ≤ 1 ∧ x = y - 16777216 * e ∧ (x < 0 ∧ y = x + 16777216 ∧ e = 1 ∨ ¬ x < 0 ∧ y = x ∧ e = 0) := by
      by_cases hn : x < 0
      · exact ⟨x + 16777216, 1, by omega, by omega, by omega, by omega, by omega, .inl ⟨hn, rfl, rfl⟩⟩
      · exact ⟨x, 0, by omega, by omega, by omega, by omega, by omega, .inr ⟨hn, rfl, rfl⟩⟩
    obtain ⟨r, hr, h2⟩ := ih (i + 1) (out ++ [y]) e (by omega) (by simp; omega) (hdo.append (Dig.cons hy0 hy1 Dig.nil)) he0 he1 (by
      have := sub_step (a := a.getD i 0) (b := b.getD i 0) (c := c) (x := y) (c' := e) (p := 16777216) hinv (by omega)
      rw [val_snoc, hlen, val_take_succ' a i, val_take_succ' b i, Int.pow_succ]
      exact this)
    refine ⟨r, Ev.step (f := fun k => spec_l02Minus.l0 k a b (out ++ [y]) e ((i + 1 : Nat) : Int)) (fun k => ?_) hr, h2⟩
    simp only [spec_l02Minus.l0]
    rw [if_pos (by omega), if_pos (by omega), rdN, rdN, wrapZ (a.getD i 0 - c) (by omega) (by omega), wrapZ ((i : Int) + 1) (by omega) (by omega)]
    have hol : out.length < 17592186044416 := by omega
    by_cases hib : i < b.length
    · rw [if_pos (by omega), ← hx, wrapZ x (by omega) (by omega)]
      rcases hcase with ⟨hn, rfl, rfl⟩ | ⟨hn, rfl, rfl⟩
      · rw [if_pos hn, if_pos hol, wrapZ _ (by omega) (by omega)]; rfl
      · rw [if_neg hn, if_pos hol]; rfl
    · have hb0 : b.getD i 0 = 0 := getD_ge (by omega)
      rw [if_neg (by omega), show a.getD i 0 - c = x by omega]
      rcases hcase with ⟨hn, rfl, rfl⟩ | ⟨hn, rfl, rfl⟩
      · rw [if_pos hn, if_pos hol, wrapZ _ (by omega) (by omega)]; rfl
      · rw [if_neg hn, if_pos hol]; rfl
theorem sminus (a b : List Int) (ha : Dig 16777216 a) (hb : Dig 16777216 b) (hab : b.length ≤ a.length) (hl1 : a.length ≤ 1099511627776) (hle : val 16777216 b ≤ val 16777216 a) :
    ∃ r, Ev (fun k => spec_l02Minus.f k a b) r ∧ Dig 16777216 r ∧ val 16777216 r = val 16777216 a - val 16777216 b ∧ r.length = a.length := by
  unfold spec_l02Minus.f
  exact minus_loop a b ha hb hab hl1 hle a.length 0 [] 0 (by omega) rfl Dig.nil (by decide) (by decide) (by simp [val])
end Go.Proofs.Ytjddhnjjeomfjaa.Py
end
section
namespace Go.Proofs.Ytjddhnjjeomfjaa.Pz
open Go.RowKit Go.Proofs.YtjddhnjjeomfjaaW.PrintWords Go.Proofs.Ytjddhnjjeomfjaa.PW Go.Proofs.Ytjddhnjjeomfjaa.Pb Go.Proofs.Ytjddhnjjeomfjaa.Pc Go.Proofs.Ytjddhnjjeomfjaa.Pm Go.Proofs.Ytjddhnjjeomfjaa.Pw Go.Proofs.Ytjddhnjjeomfjaa.Px Go.Proofs.Ytjddhnjjeomfjaa.Pt Go.Proofs.Ytjddhnjjeomfjaa.Py Dg
set_option linter.unusedVariables false
set_option linter.unusedSimpArgs false
theorem smk_of {s z : Int} (h : z ≠ 0 → s = sgn z) : smk s z.natAbs = (sgn z, L z.natAbs) := by
  by_cases h0 : z = 0
  · subst h0; simp [smk, sgn, L_zero]
  · rw [h h0]; exact smk_sgn z
theorem sgn_zero {z : Int} : sgn z = 0 ↔ z = 0 := by
  unfold sgn
  split
  · omega
  · split <;> omega
theorem L_le {a b : Nat} (h : a ≤ b) : (L a).length ≤ (L b).length := by
  rcases Nat.lt_or_ge (L b).length (L a).length with h1 | h1
  · have := val_lt_of_length (by decide) (L_dig b) (L_dig a) (L_top a) h1
    rw [L_val, L_val] at this
    omega
  · exact h1
theorem sadd (x y : Int) (hx : bl x.natAbs ≤ 1099511627000) (hy : bl y.natAbs ≤ 1099511627000) : Ev (fun k => spec_l02Add.f k (sgn x) (L x.natAbs) (sgn y) (L y.natAbs)) (sgn (x + y), L (x + y).natAbs) := by
  have lx := L_len x.natAbs
  have ly := L_len y.natAbs
  have mk : ∀ (s : Int) (l : List Int) (z : Int), Dig 16777216 l → l.length ≤ 1099511627777 → val 16777216 l = (z.natAbs : Nat) → (z ≠ 0 → s = sgn z) → l.length ≤ 1099511627776 → Ev (fun k => spec_l02Make.f k s l) (sgn z, L z.natAbs) := by
    intro s l z hd _ hv hs hl
    have := smake s l hd hl
    rw [hv, Int.toNat_natCast, smk_of hs] at this
    exact this
  unfold spec_l02Add.f
  by_cases h0 : x = 0
  · subst h0
    refine ifp rfl (Ev.bind (f := fun k t => _) (mk (sgn y) (L y.natAbs) y (L_dig _) (by omega) (L_val _) (fun _ => rfl) (by omega)) (ev_of fun _ => ?_))
    rw [Int.zero_add]
  refine ifn (fun h => h0 (sgn_zero.1 h)) ?_
  by_cases h1 : y = 0
  · subst h1
    refine ifp rfl (Ev.bind (f := fun k t => _) (mk (sgn x) (L x.natAbs) x (L_dig _) (by omega) (L_val _) (fun _ => rfl) (by omega)) (ev_of fun _ => ?_))
    rw [Int.add_zero]
  refine ifn (fun h => h1 (sgn_zero.1 h)) ?_
  have sx : sgn x = 1 ∧ 0 < x ∨ sgn x = -1 ∧ x < 0 := by
    unfold sgn
    split
    · exact .inr ⟨rfl, by omega⟩
    · exact .inl ⟨rfl, by omega⟩
  have sy : sgn y = 1 ∧ 0 < y ∨ sgn y = -1 ∧ y < 0 := by
    unfold sgn
    split
    · exact .inr ⟨rfl, by omega⟩
    · exact .inl ⟨rfl, by omega⟩
  have sz : ∀ z : Int, (0 < z → sgn z = 1) ∧ (z < 0 → sgn z = -1) := fun z => ⟨fun h => by unfold sgn; rw [if_neg (by omega), if_neg (by omega)], fun h => by unfold sgn; rw [if_pos h]⟩
  by_cases he : sgn x = sgn y
  · refine ifp he ?_
    obtain ⟨r, hr, hd, hv, hl⟩ := splus (L x.natAbs) (L y.natAbs) (L_dig _) (L_dig _) (by omega) (by omega)
    rw [L_val, L_val] at hv
    refine Ev.bind (f := fun k t => _) hr (Ev.bind (f := fun k t => _) (mk (sgn x) r (x + y) hd (by omega) (by omega) (fun _ => ?_) (by omega)) (ev_of fun _ => rfl))
    have h2 := sz (x + y)
    rcases sx with ⟨e1, p1⟩ | ⟨e1, p1⟩ <;> rcases sy with ⟨e2, p2⟩ | ⟨e2, p2⟩
    · rw [e1, h2.1 (by omega)]
    · omega
    · omega
    · rw [e1, h2.2 (by omega)]
  · refine ifn he ?_
    have hc := slimbs (L_dig x.natAbs) (L_dig y.natAbs) (L_top _) (L_top _) (by omega) (by omega)
    rw [L_val, L_val] at hc
    refine Ev.bind (f := fun k t => _) hc ?_
    have h2 := sz (x + y)
    by_cases hle : y.natAbs ≤ x.natAbs
    · refine ifp ?_ ?_
      · unfold sgn; rw [if_neg (by omega)]; split <;> omega
      obtain ⟨r, hr, hd, hv, hl⟩ := sminus (L x.natAbs) (L y.natAbs) (L_dig _) (L_dig _) (L_le hle) (by omega) (by rw [L_val, L_val]; omega)
      rw [L_val, L_val] at hv
      refine Ev.bind (f := fun k t => _) hr (Ev.bind (f := fun k t => _) (mk (sgn x) r (x + y) hd (by omega) ?_ (fun _ => ?_) (by omega)) (ev_of fun _ => rfl))
      · rw [hv]
        rcases sx with ⟨e1, p1⟩ | ⟨e1, p1⟩ <;> rcases sy with ⟨e2, p2⟩ | ⟨e2, p2⟩ <;> omega
      · rcases sx with ⟨e1, p1⟩ | ⟨e1, p1⟩ <;> rcases sy with ⟨e2, p2⟩ | ⟨e2, p2⟩
        · omega
        · rw [e1, h2.1 (by omega)]
        · rw [e1, h2.2 (by omega)]
        · omega
    · refine ifn ?_ ?_
      · unfold sgn; rw [if_pos (by omega)]; omega
      obtain ⟨r, hr, hd, hv, hl⟩ := sminus (L y.natAbs) (L x.natAbs) (L_dig _) (L_dig _) (L_le (by omega)) (by omega) (by rw [L_val, L_val]; omega)
      rw [L_val, L_val] at hv
      refine Ev.bind (f := fun k t => _) hr (Ev.bind (f := fun k t => _) (mk (sgn y) r (x + y) hd (by omega) ?_ (fun _ => ?_) (by omega)) (ev_of fun _ => rfl))
      · rw [hv]
        rcases sx with ⟨e1, p1⟩ | ⟨e1, p1⟩ <;> rcases sy with ⟨e2, p2⟩ | ⟨e2, p2⟩ <;> omega
      · rcases sx with ⟨e1, p1⟩ | ⟨e1, p1⟩ <;> rcases sy with ⟨e2, p2⟩ | ⟨e2, p2⟩
        · omega
        · rw [e2, h2.2 (by omega)]
        · rw [e2, h2.1 (by omega)]
        · omega
end Go.Proofs.Ytjddhnjjeomfjaa.Pz
end
section
namespace Go.Proofs.Ytjddhnjjeomfjaa.Ss
open Go.RowKit Go.Proofs.YtjddhnjjeomfjaaW.PrintWords Go.Proofs.YtjddhnjjeomfjaaW.PrintMore Go.Proofs.Ytjddhnjjeomfjaa.PW Go.Proofs.Ytjddhnjjeomfjaa.Pb Go.Proofs.Ytjddhnjjeomfjaa.Pc Go.Proofs.Ytjddhnjjeomfjaa.Pm Go.Proofs.Ytjddhnjjeomfjaa.Pw Go.Proofs.Ytjddhnjjeomfjaa.Px Go.Proofs.Ytjddhnjjeomfjaa.Pt Go.Proofs.Ytjddhnjjeomfjaa.Pz Dg
set_option linter.unusedVariables false
set_option linter.unusedSimpArgs false
theorem i64_id {x : Int} (h0 : -9223372036854775808 ≤ x) (h1 : x ≤ 9223372036854775807) : IntKind.i64.wrap x = x := by rw [IntKind.wrap_i64]; omega
theorem td24 (n : Nat) (h : n ≤ 4611686018427387904) : wrap64 (Int.tdiv (n : Int) 24) = ((n / 24 : Nat) : Int) := by
  rw [Int.tdiv_eq_ediv_of_nonneg (by omega), wrapZ _ (by omega) (by omega)]; rfl
theorem tm24 (n : Nat) : Int.tmod (n : Int) 24 = ((n % 24 : Nat) : Int) := by
  rw [Int.tmod_eq_emod_of_nonneg (by omega)]; rfl
theorem um24 (n : Nat) : IntKind.u64.wrap (Int.tmod (n : Int) 24) = ((n % 24 : Nat) : Int) := by
  rw [tm24, IntKind.wrap_u64]; omega
theorem and_one (a : Nat) (h : a < 2 ^ 63) : bits .and .i64 (a : Int) 1 = ((a % 2 : Nat) : Int) := by
  have := (bits_nat .i64 63 (by decide) (fun n h0 h1 => i64_id (by omega) (by omega)) a 1 h (by decide)).1
  rw [Nat.and_one_is_mod] at this
  exact this
theorem pow_le24 {r : Nat} (h : r ≤ 24) : 1 ≤ (2 : Int) ^ r ∧ (2 : Int) ^ r ≤ 16777216 := by
  have h1 := Nat.pow_le_pow_right (n := 2) (by decide) h
  have h2 := Nat.two_pow_pos r
  have e : ((2 : Int) ^ r) = ((2 ^ r : Nat) : Int) := by simp
  rw [e]; omega
theorem shl24 {x : Int} {r : Nat} (h0 : 0 ≤ x) (h1 : x < 16777216) (hr : r ≤ 24) : shl .i64 x (r : Int) = x * 2 ^ r ∧ 0 ≤ x * 2 ^ r ∧ x * 2 ^ r ≤ 16777215 * 16777216 := by
  have hp := pow_le24 hr
  have h2 : x * 2 ^ r ≤ 16777215 * 16777216 := Int.mul_le_mul (by omega) hp.2 (by omega) (by omega)
  have h3 : 0 ≤ x * 2 ^ r := Int.mul_nonneg h0 (by omega)
  refine ⟨?_, h3, h2⟩
  unfold shl
  rw [Int.toNat_natCast, Nat.min_eq_left (by show r ≤ 64; omega), i64_id (by omega) (by omega)]
theorem shr24 {x : Int} {r : Nat} (hr : r ≤ 24) : shr .i64 x (r : Int) = x / 2 ^ r := by
  unfold shr
  rw [Int.toNat_natCast, Nat.min_eq_left (by show r ≤ 64; omega)]
theorem left_loop (s : Int) (a : List Int) (ha : Dig 16777216 a) (k : Nat) (hk : k ≤ 1073741824) (hm : a.length ≤ 1073741824) (hs : -1 ≤ s ∧ s ≤ 1) (S : Nat) (hS : val 16777216 a * 2 ^ (k % 24) * 16777216 ^ (k / 24) = S) (d : Nat) :
    ∀ (i : Nat) (ys : List Int) (c : Int), i + d = a.length → ys.length = k / 24 + i → Dig 16777216 ys → 0 ≤ c → c < 2 ^ (k % 24) →
      val 16777216 ys + 16777216 ^ (k / 24 + i) * c = val 16777216 (a.take i) * 2 ^ (k % 24) * 16777216 ^ (k / 24) →
      Ev (fun n => spec_l02Left.l0 n (k : Int) ys c (i : Int) s a) (smk s S) := by
  have hr : k % 24 ≤ 24 := by omega
  have hq : k / 24 ≤ 1073741824 := by omega
  have um := um24 k
  generalize k % 24 = r at *
  generalize k / 24 = q at *
  have hp := pow_le24 hr
  induction d with
  | zero =>
    intro i ys c hd hy hdy hc0 hc1 hinv
    have hi : i = a.length := by omega
    subst hi
    rw [List.take_length, hS] at hinv
    have hmk := smake s (ys ++ [c]) (hdy.append (Dig.cons hc0 (by omega) Dig.nil)) (by simp; omega)
    rw [val_snoc, hy] at hmk
    have e : ((16777216 : Nat) : Int) = 16777216 := rfl
    rw [e, hinv, Int.toNat_natCast] at hmk
    refine Ev.step (f := fun n => (spec_l02Make.f n s (ys ++ [c])).bind fun bt => (some (bt.1, bt.2))) (fun n => ?_) (Ev.bind (f := fun k t => _) hmk (ev_of fun _ => rfl))
    simp only [spec_l02Left.l0]
    rw [if_neg (by omega), if_pos (by omega)]
  | succ d ih =>
    intro i ys c hd hy hdy hc0 hc1 hinv
    have hai := ha.all0 (by decide) i
    obtain ⟨hs1, hs2, hs3⟩ := shl24 hai.1 hai.2 hr
    obtain ⟨x, hx⟩ : ∃ x, x = c + a.getD i 0 * 2 ^ r := ⟨_, rfl⟩
    have hxlt : x / 16777216 < 2 ^ r := by
      apply Int.ediv_lt_of_lt_mul (by decide)
      have : (a.getD i 0 + 1) * 2 ^ r ≤ 16777216 * 2 ^ r := Int.mul_le_mul_of_nonneg_right (by omega) (by omega)
      rw [Int.add_mul] at this
      rw [hx, Int.mul_comm (2 ^ r)]
      omega
    refine Ev.step (f := fun n => spec_l02Left.l0 n (k : Int) (ys ++ [x % 16777216]) (x / 16777216) ((i + 1 : Nat) : Int) s a) (fun n => ?_)
      (ih (i + 1) _ _ (by omega) (by simp; omega) (hdy.append (Dig.cons (by omega) (by omega) Dig.nil)) (by omega) hxlt ?_)
    · simp only [spec_l02Left.l0]
      rw [if_pos (by omega), if_pos (by omega), um, if_pos (by omega), if_pos (by omega), rdN, hs1, ← hx, wrapZ x (by omega) (by omega), Int.tmod_eq_emod_of_nonneg (by omega), Int.tdiv_eq_ediv_of_nonneg (by omega), wrapZ (x / 16777216) (by omega) (by omega), wrapZ ((i : Int) + 1) (by omega) (by omega)]
      rfl
    · rw [val_snoc, hy, val_take_succ' a i, show q + (i + 1) = q + i + 1 by omega, Int.pow_succ]
      have h1 : x = x % 16777216 + 16777216 * (x / 16777216) := by omega
      have e : ((16777216 : Nat) : Int) = 16777216 := rfl
      rw [e]
      rw [Int.pow_add] at hinv ⊢
      generalize (16777216 : Int) ^ i = P at *
      generalize (16777216 : Int) ^ q = Q at *
      generalize x % 16777216 = lo at *
      generalize x / 16777216 = hi' at *
      generalize a.getD i 0 = ai at *
      generalize (2 : Int) ^ r = R at *
      generalize val 16777216 ys = Vy at *
      generalize val 16777216 (a.take i) = Va at *
      clear ih hs1 hs2 hs3 um
      grind
theorem pow_split24 (k : Nat) : (2 : Int) ^ (k % 24) * 16777216 ^ (k / 24) = 2 ^ k := by
  rw [show (16777216 : Int) = 2 ^ 24 from rfl, ← Int.pow_mul, ← Int.pow_add]
  congr 1
  omega
theorem sgn_pow (x : Int) (k : Nat) : sgn (x * 2 ^ k) = sgn x := by
  have hp : (0 : Int) < 2 ^ k := Int.pow_pos (by decide)
  unfold sgn
  rcases Int.lt_trichotomy x 0 with h | h | h
  · rw [if_pos h, if_pos (Int.mul_neg_of_neg_of_pos h hp)]
  · subst h; simp
  · have := Int.mul_pos h hp
    rw [if_neg (by omega), if_neg (by omega), if_neg (by omega), if_neg (by omega)]
theorem sleft (x : Int) (k : Nat) (hx : bl x.natAbs ≤ 1073741824) (hk : k ≤ 1073741824) : Ev (fun n => spec_l02Left.f n (sgn x) (L x.natAbs) (k : Int)) (sgn (x * 2 ^ k), L (x * 2 ^ k).natAbs) := by
  have lx := L_len x.natAbs
  unfold spec_l02Left.f
  rw [td24 k (by omega)]
  refine ifp (by omega) (ifp (by omega) ?_)
  have := left_loop (sgn x) (L x.natAbs) (L_dig _) k hk (by omega) (sgn_range x) (x * 2 ^ k).natAbs (by
    rw [L_val, Int.mul_assoc, pow_split24, Int.natAbs_mul, Int.natCast_mul]
    have hp : (0 : Int) < 2 ^ k := Int.pow_pos (by decide)
    rw [Int.natAbs_of_nonneg (Int.le_of_lt hp)]) (L x.natAbs).length 0 (List.replicate ((k / 24 : Nat) : Int).toNat 0) 0 (by omega) (by rw [List.length_replicate, Int.toNat_natCast]; rfl) (dig_replicate (by decide) _) (by decide) (Int.pow_pos (by decide)) (by rw [List.take_zero, val_nil, val_zeros]; simp)
  rw [← sgn_pow x k, smk_sgn] at this
  rw [← sgn_pow x k]
  exact this
theorem sbit (s : Int) (n k : Nat) (hn : bl n ≤ 1073741824) (hk : k ≤ 1073741824) : spec_l02Bit.f s (L n) (k : Int) = some ((n / 2 ^ k % 2 : Nat) : Int) := by
  have ln := L_len n
  have hpow : (2 : Nat) ^ k = 16777216 ^ (k / 24) * 2 ^ (k % 24) := by
    rw [show (16777216 : Nat) = 2 ^ 24 from rfl, ← Nat.pow_mul, ← Nat.pow_add]
    congr 1
    omega
  unfold spec_l02Bit.f
  rw [td24 k (by omega), um24]
  by_cases h : (L n).length ≤ k / 24
  · rw [if_pos (by omega)]
    have h1 : n < 16777216 ^ (L n).length := lt_of_dg_length _
    have h2 := Nat.pow_le_pow_right (n := 16777216) (by decide) h
    rw [hpow, ← Nat.div_div_eq_div_mul, Nat.div_eq_of_lt (Nat.lt_of_lt_of_le h1 h2), Nat.zero_div]
    rfl
  · rw [if_neg (by omega), if_pos (by omega), if_pos (by omega), if_pos (by omega), rdN, L_getD, shr24 (by omega)]
    congr 1
    have hpw : ((2 : Int) ^ (k % 24)) = ((2 ^ (k % 24) : Nat) : Int) := by simp
    rw [hpw]
    have hb := and_one (n / 16777216 ^ (k / 24) % 16777216 / 2 ^ (k % 24)) (Nat.lt_of_le_of_lt (Nat.div_le_self _ _) (Nat.lt_of_lt_of_le (Nat.mod_lt _ (by decide)) (by decide)))
    rw [show (((n / 16777216 ^ (k / 24) % 16777216 : Nat) : Int) / ((2 ^ (k % 24) : Nat) : Int)) = ((n / 16777216 ^ (k / 24) % 16777216 / 2 ^ (k % 24) : Nat) : Int) from rfl, hb, bit_limb _ _ (by omega), Nat.div_div_eq_div_mul, ← hpow]
theorem cut_loop (s : Int) (n k : Nat) (hk : k ≤ 1073741824) (hn : bl n ≤ 1073741824) (d : Nat) :
    ∀ (j : Nat) (ys : List Int), k / 24 + j + d = (L n).length → ys.length = j → (∀ i, i < j → ys.getD i 0 = ((n / 2 ^ k / 16777216 ^ i % 16777216 : Nat) : Int)) →
      Ev (fun m => spec_l02Cut.l0 m (k : Int) ys ((k / 24 + j : Nat) : Int) s (L n)) (smk s (n / 2 ^ k)) := by
  have ln := L_len n
  have hr : k % 24 < 24 := by omega
  have um := um24 k
  have tm := tm24 k
  have hlt : n < 16777216 ^ (L n).length := lt_of_dg_length _
  have hpow : (2 : Nat) ^ k = 16777216 ^ (k / 24) * 2 ^ (k % 24) := by
    rw [show (16777216 : Nat) = 2 ^ 24 from rfl, ← Nat.pow_mul, ← Nat.pow_add]
    congr 1
    omega
  have hpw : ∀ r : Nat, ((2 : Int) ^ r) = ((2 ^ r : Nat) : Int) := fun r => by simp
  generalize hrr : k % 24 = r at *
  generalize hqq : k / 24 = q at *
  induction d with
  | zero =>
    intro j ys hd hy hdig
    have hv := val_digits (by decide) ys (n / 2 ^ k) (fun i hi => hdig i (by omega))
    have hlt2 : n / 2 ^ k < 16777216 ^ ys.length := by
      rw [hpow, ← Nat.div_div_eq_div_mul]
      refine Nat.lt_of_le_of_lt (Nat.div_le_self _ _) ?_
      apply Nat.div_lt_of_lt_mul
      rw [← Nat.pow_add, hy, show q + j = (L n).length by omega]
      exact hlt
    rw [Nat.mod_eq_of_lt hlt2] at hv
    have hdy : Dig 16777216 ys := dig_of_getD fun i hi => by
      rw [hdig i (by omega)]
      have := Nat.mod_lt (n / 2 ^ k / 16777216 ^ i) (show 0 < 16777216 by decide)
      omega
    have hmk := smake s ys hdy (by omega)
    rw [hv, Int.toNat_natCast] at hmk
    refine Ev.step (f := fun m => (spec_l02Make.f m s ys).bind fun bt => (some (bt.1, bt.2))) (fun m => ?_) (Ev.bind (f := fun k t => _) hmk (ev_of fun _ => rfl))
    simp only [spec_l02Cut.l0]
    rw [if_neg (by omega)]
  | succ d ih =>
    intro j ys hd hy hdig
    have hai : (L n).getD (q + j) 0 = ((n / 16777216 ^ (q + j) % 16777216 : Nat) : Int) := L_getD n (q + j)
    have haj : (L n).getD (q + j + 1) 0 = ((n / 16777216 ^ (q + j) / 16777216 % 16777216 : Nat) : Int) := by rw [L_getD, Nat.pow_succ, Nat.div_div_eq_div_mul]
    obtain ⟨X, hX⟩ : ∃ X, X = n / 16777216 ^ (q + j) := ⟨_, rfl⟩
    rw [← hX] at hai haj
    have hX3 : n / 2 ^ k / 16777216 ^ j = X / 2 ^ r := by
      rw [hX, hpow, Nat.div_div_eq_div_mul, Nat.div_div_eq_div_mul, Nat.pow_add]
      congr 1
      rw [Nat.mul_assoc, Nat.mul_comm (2 ^ r), Nat.mul_assoc]
    have hcd := cut_digit X r (by omega)
    have hXm := Nat.mod_lt X (show 0 < 16777216 by decide)
    have hXn := Nat.mod_lt (X / 16777216) (show 0 < 16777216 by decide)
    obtain ⟨v, hv⟩ : ∃ v : Nat, v = X / 2 ^ r % 16777216 := ⟨_, rfl⟩
    rw [← hv] at hcd
    refine Ev.step (f := fun m => spec_l02Cut.l0 m (k : Int) (ys ++ [(v : Int)]) ((q + (j + 1) : Nat) : Int) s (L n)) (fun m => ?_) (ih (j + 1) _ (by omega) (by simp; omega) (fun i hi => ?_))
    · simp only [spec_l02Cut.l0]
      rw [if_pos (by omega), if_pos (by omega), um, if_pos (by omega), wrapZ (((q + j : Nat) : Int) + 1) (by omega) (by omega), rdN, hai, shr24 (by omega), hpw]
      have hsm : ((X % 16777216 : Nat) : Int) / ((2 ^ r : Nat) : Int) = ((X % 16777216 / 2 ^ r : Nat) : Int) := rfl
      have hle := Nat.div_le_self (X % 16777216) (2 ^ r)
      rw [hsm]
      by_cases hj : q + j + 1 < (L n).length
      · have e24 : IntKind.u64.wrap (wrap64 (24 - Int.tmod (k : Int) 24)) = ((24 - r : Nat) : Int) := by rw [tm, wrapZ _ (by omega) (by omega), IntKind.wrap_u64]; omega
        obtain ⟨h1, h2, h3⟩ := shl24 (x := ((X / 16777216 % 16777216 : Nat) : Int)) (r := 24 - r) (by omega) (by omega) (by omega)
        rw [if_pos (by omega), if_pos (by omega), e24, if_pos (by omega), if_pos (by omega), show ((q + j : Nat) : Int) + 1 = ((q + j + 1 : Nat) : Int) by omega, rdN, haj, h1]
        have hw : (X % 16777216 / 2 ^ r : Nat) ≤ 16777215 := by omega
        have e : (((X % 16777216 / 2 ^ r : Nat) : Int) + ((X / 16777216 % 16777216 : Nat) : Int) * 2 ^ (24 - r)) % 16777216 = (v : Int) := by
          rw [hpw, ← hcd]; rfl
        have hs0 : 0 ≤ ((X % 16777216 / 2 ^ r : Nat) : Int) + ((X / 16777216 % 16777216 : Nat) : Int) * 2 ^ (24 - r) := Int.add_nonneg (Int.natCast_nonneg _) h2
        have hs1 : ((X % 16777216 / 2 ^ r : Nat) : Int) + ((X / 16777216 % 16777216 : Nat) : Int) * 2 ^ (24 - r) ≤ 16777215 + 16777215 * 16777216 := Int.add_le_add (Int.ofNat_le.2 hw) h3
        rw [wrapZ _ (Int.le_trans (by decide) hs0) (Int.le_trans hs1 (by decide)), Int.tmod_eq_emod_of_nonneg hs0, e]
        rfl
      · have h0 : (L n).getD (q + j + 1) 0 = 0 := getD_ge (by omega)
        rw [haj] at h0
        have h1 : X / 16777216 % 16777216 = 0 := by omega
        rw [h1, Nat.zero_mul, Nat.add_zero, Nat.mod_eq_of_lt (by omega)] at hcd
        rw [if_neg (by omega), if_pos (by omega), hcd]
        rfl
    · by_cases hij : i < j
      · rw [getD_lt (by simp; omega), List.getElem_append_left (by omega), ← getD_lt]
        exact hdig i hij
      · obtain rfl : i = j := by omega
        rw [hX3, ← hv, getD_lt (by simp; omega)]
        simp [hy]
theorem scut (s : Int) (n k : Nat) (hn : bl n ≤ 1073741824) (hk : k ≤ 1073741824) : Ev (fun m => spec_l02Cut.f m s (L n) (k : Int)) (smk s (n / 2 ^ k)) := by
  have ln := L_len n
  unfold spec_l02Cut.f
  rw [td24 k (by omega)]
  by_cases h : k / 24 ≤ (L n).length
  · exact cut_loop s n k hk hn ((L n).length - k / 24) 0 [] (by omega) rfl (fun i hi => by omega)
  · have h1 : n < 16777216 ^ (L n).length := lt_of_dg_length _
    have h2 := Nat.pow_le_pow_right (n := 16777216) (by decide) (show (L n).length ≤ k / 24 by omega)
    have hpow : (2 : Nat) ^ k = 16777216 ^ (k / 24) * 2 ^ (k % 24) := by
      rw [show (16777216 : Nat) = 2 ^ 24 from rfl, ← Nat.pow_mul, ← Nat.pow_add]
      congr 1
      omega
    have h3 : n / 2 ^ k = 0 := by rw [hpow, ← Nat.div_div_eq_div_mul, Nat.div_eq_of_lt (Nat.lt_of_lt_of_le h1 h2), Nat.zero_div]
    have hmk := smake s [] Dig.nil (by simp)
    rw [val_nil] at hmk
    rw [h3]
    refine Ev.step (f := fun m => (spec_l02Make.f m s []).bind fun bt => (some (bt.1, bt.2))) (fun m => ?_) (Ev.bind (f := fun k t => _) hmk (ev_of fun _ => rfl))
    simp only [spec_l02Cut.l0]
    rw [if_neg (by omega)]
end Go.Proofs.Ytjddhnjjeomfjaa.Ss
end
section
namespace Go.Proofs.Ytjddhnjjeomfjaa.Pv
open Go.RowKit Go.Proofs.YtjddhnjjeomfjaaW.PrintWords Go.Proofs.Ytjddhnjjeomfjaa.PW Go.Proofs.Ytjddhnjjeomfjaa.Pb Go.Proofs.Ytjddhnjjeomfjaa.Pc Go.Proofs.Ytjddhnjjeomfjaa.Pm Go.Proofs.Ytjddhnjjeomfjaa.Pw Go.Proofs.Ytjddhnjjeomfjaa.Px Dg
set_option linter.unusedVariables false
set_option linter.unusedSimpArgs false
theorem tdm (x : Int) : ((Int.tmod x 16777216 < 0 ∧ -(Int.tmod x 16777216) = ((x.natAbs % 16777216 : Nat) : Int)) ∨ (¬ Int.tmod x 16777216 < 0 ∧ Int.tmod x 16777216 = ((x.natAbs % 16777216 : Nat) : Int))) ∧ (Int.tdiv x 16777216).natAbs = x.natAbs / 16777216 ∧ (Int.tdiv x 16777216 = ((x.natAbs / 16777216 : Nat) : Int) ∨ Int.tdiv x 16777216 = -((x.natAbs / 16777216 : Nat) : Int)) := by
  by_cases h : 0 ≤ x
  · obtain ⟨m, rfl⟩ := Int.eq_ofNat_of_zero_le h
    rw [Int.tmod_eq_emod_of_nonneg (by omega), Int.tdiv_eq_ediv_of_nonneg (by omega)]
    omega
  · obtain ⟨m, hm⟩ := Int.eq_ofNat_of_zero_le (show 0 ≤ -x by omega)
    obtain rfl : x = -(m : Int) := by omega
    rw [Int.neg_tmod, Int.neg_tdiv, Int.tmod_eq_emod_of_nonneg (by omega), Int.tdiv_eq_ediv_of_nonneg (by omega)]
    omega
theorem sof_loop (n : Nat) (s : Int) (hn : (L n).length ≤ 1099511627776) : ∀ (m : Nat) (x : Int), x.natAbs = m → -9223372036854775808 ≤ x → x ≤ 9223372036854775807 → ∀ y : List Int, y ++ L m = L n → Ev (fun k => spec_l02Of.l0 k x s y) (smk s n) := by
  intro m
  induction m using Nat.strongRecOn with
  | ind m ih =>
    intro x hx h1 h2 y hy
    have hyl : y.length ≤ 1099511627776 := by have := congrArg List.length hy; rw [List.length_append] at this; omega
    by_cases h0 : x = 0
    · subst h0
      have : m = 0 := by omega
      subst this
      rw [L_zero, List.append_nil] at hy
      subst hy
      have hm := smake s (L n) (L_dig n) hn
      rw [L_val, Int.toNat_natCast] at hm
      refine Ev.step (f := fun k => (spec_l02Make.f k s (L n)).bind fun t => some (t.1, t.2)) (fun k => ?_) (Ev.bind (f := fun k t => _) hm (ev_of fun _ => rfl))
      simp only [spec_l02Of.l0]
      rw [if_pos trivial]
    · have hm0 : m ≠ 0 := by omega
      obtain ⟨hd, hq, hq2⟩ := tdm x
      rw [hx] at hd hq hq2
      have hL : L m = ((m % 16777216 : Nat) : Int) :: L (m / 16777216) := dg_pos _ hm0
      rw [hL] at hy
      have hq3 : wrap64 (Int.tdiv x 16777216) = Int.tdiv x 16777216 := wrapZ _ (by omega) (by omega)
      refine Ev.step (f := fun k => spec_l02Of.l0 k (Int.tdiv x 16777216) s (y ++ [((m % 16777216 : Nat) : Int)])) (fun k => ?_) (ih (m / 16777216) (Nat.div_lt_self (by omega) (by decide)) _ hq (by omega) (by omega) _ (by rw [List.append_assoc]; exact hy))
      simp only [spec_l02Of.l0]
      rw [if_neg h0]
      rcases hd with ⟨ha, hb⟩ | ⟨ha, hb⟩
      · rw [if_pos ha, if_pos (by omega), hq3, hb, wrapZ _ (by omega) (by omega)]
      · rw [if_neg ha, if_pos (by omega), hq3, hb]
theorem sof (n : Int) (h1 : -9223372036854775808 ≤ n) (h2 : n ≤ 9223372036854775807) : Ev (fun k => spec_l02Of.f k n) (sgn n, L n.natAbs) := by
  have hl : (L n.natAbs).length ≤ 1099511627776 := by
    have h3 := L_len n.natAbs
    have h4 : bl n.natAbs ≤ 64 := bl_le (k := 64) (by omega)
    omega
  unfold spec_l02Of.f
  simp only [Option.bind_some]
  by_cases h : n < 0
  · refine ifp h (Ev.step (f := fun k => spec_l02Of.l0 k n (-1) []) (fun k => rfl) ?_)
    rw [← smk_one n (-1) (by rw [if_pos h])]
    exact sof_loop n.natAbs (-1) hl n.natAbs n rfl h1 h2 [] rfl
  · refine ifn h (Ev.step (f := fun k => spec_l02Of.l0 k n 1 []) (fun k => rfl) ?_)
    rw [← smk_one n 1 (by rw [if_neg h])]
    exact sof_loop n.natAbs 1 hl n.natAbs n rfl h1 h2 [] rfl
end Go.Proofs.Ytjddhnjjeomfjaa.Pv
end
section
namespace Go.Proofs.Ytjddhnjjeomfjaa.Pzs
end Go.Proofs.Ytjddhnjjeomfjaa.Pzs
end
section
namespace Go.Proofs.Ytjddhnjjeomfjaa.St
end Go.Proofs.Ytjddhnjjeomfjaa.St
end
section
namespace Go.Proofs.Ytjddhnjjeomfjaa.Qa
open Go.RowKit Go.Proofs.YtjddhnjjeomfjaaW.PrintWords Go.Proofs.Ytjddhnjjeomfjaa.PW Go.Proofs.Ytjddhnjjeomfjaa.Pb Go.Proofs.Ytjddhnjjeomfjaa.Pc Go.Proofs.Ytjddhnjjeomfjaa.Pm Go.Proofs.Ytjddhnjjeomfjaa.Pw Go.Proofs.Ytjddhnjjeomfjaa.Px Go.Proofs.Ytjddhnjjeomfjaa.Pt Go.Proofs.Ytjddhnjjeomfjaa.Pz Go.Proofs.Ytjddhnjjeomfjaa.Ss Go.Proofs.Ytjddhnjjeomfjaa.St Dg
set_option linter.unusedVariables false
set_option linter.unusedSimpArgs false
def isD (s : Int) (l : List Int) (e : Int) : Bool := isW s l && (if s = 0 then e == 0 else decide (l.getD 0 0 % 2 = 1) && (decide (-3000 ≤ e) && decide (e ≤ 3000)))
theorem isD_W {s : Int} {l : List Int} {e : Int} (h : isD s l e = true) : isW s l = true := by
  unfold isD at h
  rw [Bool.and_eq_true] at h
  exact h.1
theorem isD_e {s : Int} {l : List Int} {e : Int} (h : isD s l e = true) : -3000 ≤ e ∧ e ≤ 3000 := by
  unfold isD at h
  rw [Bool.and_eq_true] at h
  have h2 := h.2
  by_cases hs : s = 0
  · rw [if_pos hs, beq_iff_eq] at h2
    omega
  · rw [if_neg hs] at h2
    simp only [Bool.and_eq_true, decide_eq_true_eq] at h2
    omega
theorem isW_pos {s : Int} {l : List Int} (h : isW s l = true) (hs : s ≠ 0) : 0 < l.length := by
  obtain ⟨_, _, _, h4⟩ := isW_spec h
  rcases h4 with ⟨_, h⟩ | ⟨h, _⟩
  · exact absurd h hs
  · exact List.length_pos_iff.2 h
theorem in_true {a b c : Int} (h1 : b ≤ a) (h2 : a ≤ c) : spec_l01In.f a b c = some true := by
  unfold spec_l01In.f
  rw [if_pos h1]
  congr 1
  exact decide_eq_true h2
theorem in_false {a b c : Int} (h : a < b ∨ c < a) : spec_l01In.f a b c = some false := by
  unfold spec_l01In.f
  by_cases h1 : a < b
  · rw [if_neg (by omega)]
  · rw [if_pos (by omega)]
    congr 1
    exact decide_eq_false (by omega)
theorem sdIs (s : Int) (l : List Int) (e : Int) (hl : l.length ≤ 9223372036854775807) : Ev (fun k => spec_l03Is.f k s l e) (isD s l e) := by
  unfold spec_l03Is.f isD
  have h1 := l02Is s l hl
  cases hw : isW s l with
  | false =>
    rw [hw] at h1
    rw [Bool.false_and]
    refine Ev.bind (f := fun k t => _) h1 (ifn (by simp) (Ev.step (f := fun _ => some false) (fun k => ?_) (ev_of fun _ => rfl)))
    simp only [spec_l03Is.j0]
    rw [if_pos trivial]
  | true =>
    rw [hw] at h1
    rw [Bool.true_and]
    refine Ev.bind (f := fun k t => _) h1 (ifp rfl ?_)
    by_cases he : -3000 ≤ e ∧ e ≤ 3000
    · simp only [in_true he.1 he.2, Option.bind_some, Bool.not_true]
      refine Ev.step (f := fun _ => some (if s = 0 then e == 0 else decide (l.getD 0 0 % 2 = 1) && (decide (-3000 ≤ e) && decide (e ≤ 3000)))) (fun k => ?_) (ev_of fun _ => rfl)
      simp only [spec_l03Is.j0]
      rw [if_neg (by simp)]
      by_cases hs : s = 0
      · rw [if_pos hs, if_pos hs]
      · have hp := isW_pos hw hs
        have hd := (isW_spec hw).1.all0 (by decide) 0
        have e0 : rd l 0 = l.getD 0 0 := rdN l 0
        rw [if_neg hs, if_neg hs, if_pos (by omega), e0, Int.tmod_eq_emod_of_nonneg (by omega), decide_eq_true he.1, decide_eq_true he.2, Bool.and_true, Bool.and_true]
        rfl
    · have hf : spec_l01In.f e (-3000) 3000 = some false := in_false (by omega)
      simp only [hf, Option.bind_some, Bool.not_false]
      refine Ev.step (f := fun _ => some false) (fun k => ?_) (ev_of fun _ => ?_)
      · simp only [spec_l03Is.j0]
        rw [if_pos trivial]
      · by_cases hs : s = 0
        · rw [if_pos hs]
          have : (e == 0) = false := beq_eq_false_iff_ne.2 (by omega)
          rw [this]
        · rw [if_neg hs]
          by_cases h2 : -3000 ≤ e
          · rw [decide_eq_false (show ¬ e ≤ 3000 by omega), Bool.and_false, Bool.and_false]
          · rw [decide_eq_false h2, Bool.false_and, Bool.and_false]
theorem idIs (s : Int) (l : List Int) (e : Int) (hl : l.length ≤ 9223372036854775807) : Ev (fun k => impl_IsDyadic.f k s l e) (isD s l e) := by
  unfold impl_IsDyadic.f isD
  have h1 := iIs s l hl
  cases hw : isW s l with
  | false =>
    rw [hw] at h1
    rw [Bool.false_and]
    exact Ev.bind (f := fun k t => _) h1 (ifn (by simp) (ev_of fun _ => rfl))
  | true =>
    rw [hw] at h1
    rw [Bool.true_and]
    refine Ev.bind (f := fun k t => _) h1 (ifp rfl ?_)
    by_cases hs : s = 0
    · rw [if_pos hs]
      exact ev_of fun _ => by rw [if_pos hs]
    · have hp := isW_pos hw hs
      have hd := (isW_spec hw).1.all0 (by decide) 0
      have e0 : rd l 0 = l.getD 0 0 := rdN l 0
      rw [if_neg hs, if_neg hs]
      refine ifp (by omega) ?_
      rw [e0, Int.tmod_eq_emod_of_nonneg (by omega)]
      by_cases ho : l.getD 0 0 % 2 = 1
      · rw [decide_eq_true ho, Bool.true_and]
        refine ifp ho ?_
        by_cases h2 : -3000 ≤ e
        · rw [decide_eq_true h2, Bool.true_and]
          exact ifp h2 (ev_of fun _ => rfl)
        · rw [decide_eq_false h2, Bool.false_and]
          exact ifn h2 (ev_of fun _ => rfl)
      · rw [decide_eq_false ho, Bool.false_and]
        exact ifn ho (ev_of fun _ => rfl)
theorem szD_le (s : Int) (l : List Int) (e n : Int) (h : (l.length : Int) ≤ n) (hn : n ≤ 1048576) : laws_szDyadic.f s l e n = some (n - l.length) := by
  unfold laws_szDyadic.f
  rw [sz_le s l n h hn, Option.bind_some, if_neg (by omega)]
theorem szD_gt (s : Int) (l : List Int) (e n : Int) (hm : l.length ≤ 9223372036854775807) (hn : n ≤ 1048576) (h : n < (l.length : Int)) (h0 : 0 ≤ n) : laws_szDyadic.f s l e n = some (-1) := by
  unfold laws_szDyadic.f
  rw [sz_gt s l n hm hn h h0]
  rfl
theorem toDyadic (s : Int) (l : List Int) (e : Int) (hl : l.length ≤ 1048576) : Ev (fun k => laws_toDyadic.f k s l e) (s, l, e) := by
  unfold laws_toDyadic.f
  exact Ev.bind (f := fun k t => _) (toWhole s l hl) (ev_of fun _ => rfl)
theorem eqDyadic_self (s : Int) (l : List Int) (e : Int) (hl : l.length ≤ 9223372036854775807) : Ev (fun k => laws_eqDyadic.f k s l e s l e) true := by
  unfold laws_eqDyadic.f
  exact Ev.bind (f := fun k t => _) (eqWhole_self s l hl) (ifp rfl (ifp rfl (ev_of fun _ => rfl)))
end Go.Proofs.Ytjddhnjjeomfjaa.Qa
end
section
namespace Go.Proofs.Ytjddhnjjeomfjaa.Sm
open Go.RowKit Go.Proofs.YtjddhnjjeomfjaaW.PrintWords Go.Proofs.Ytjddhnjjeomfjaa.PW Go.Proofs.Ytjddhnjjeomfjaa.Pb Go.Proofs.Ytjddhnjjeomfjaa.Pc Go.Proofs.Ytjddhnjjeomfjaa.Pm Go.Proofs.Ytjddhnjjeomfjaa.Pw Go.Proofs.Ytjddhnjjeomfjaa.Px Go.Proofs.Ytjddhnjjeomfjaa.Pt Go.Proofs.Ytjddhnjjeomfjaa.Pz Dg
set_option linter.unusedVariables false
set_option linter.unusedSimpArgs false
section
variable (s0 s1 : Int) (a b : List Int) (ha : Dig 16777216 a) (hb : Dig 16777216 b) (hm : a.length + b.length ≤ 1073741824)
include ha hb hm
theorem mul_inner (i : Nat) (hi : i < a.length) (R : Int × List Int) (V0 : Int)
    (next : ∀ ys : List Int, ys.length = a.length + b.length + 1 → Dig 16777216 ys → (∀ j, i + 1 + b.length ≤ j → ys.getD j 0 = 0) → val 16777216 ys = V0 + 16777216 ^ i * (a.getD i 0 * val 16777216 b) →
      Ev (fun k => spec_l02Mul.l0 k ys ((i + 1 : Nat) : Int) s0 a s1 b) R) (d : Nat) :
    ∀ (k : Nat) (ys : List Int) (c : Int), k + d = b.length → ys.length = a.length + b.length + 1 → Dig 16777216 ys → 0 ≤ c → c < 16777216 → (∀ j, i + b.length ≤ j → ys.getD j 0 = 0) →
      val 16777216 ys + 16777216 ^ (i + k) * c = V0 + 16777216 ^ i * (a.getD i 0 * val 16777216 (b.take k)) →
      Ev (fun n => spec_l02Mul.l1 n ys (i : Int) c (k : Int) s0 a s1 b) R := by
  induction d with
  | zero =>
    intro k ys c hd hy hdy hc0 hc1 hz hinv
    have hk : k = b.length := by omega
    subst hk
    have hz1 := hz (i + b.length) (by omega)
    refine Ev.step (f := fun n => spec_l02Mul.l0 n (ys.set (i + b.length) c) ((i + 1 : Nat) : Int) s0 a s1 b) (fun n => ?_) (next _ (by simpa using hy) (hdy.set _ hc0 (by omega)) (fun j hj => ?_) ?_)
    · simp only [spec_l02Mul.l1]
      rw [if_neg (by omega), wrapZ ((i : Int) + (b.length : Int)) (by omega) (by omega), if_pos (by omega), if_pos (by omega), wrapZ _ (by omega) (by omega), show ((i : Int) + (b.length : Int)).toNat = i + b.length by omega]
      rfl
    · rw [Dg.getD_set_ne (by omega)]; exact hz j (by omega)
    · rw [val_set (by omega), hz1, Int.sub_zero]
      rw [List.take_length] at hinv
      exact hinv
  | succ d ih =>
    intro k ys c hd hy hdy hc0 hc1 hz hinv
    have hai := ha.all0 (by decide) i
    have hbk := hb.all0 (by decide) k
    have hyk := hdy.all0 (by decide) (i + k)
    have hp0 : 0 ≤ a.getD i 0 * b.getD k 0 := Int.mul_nonneg hai.1 hbk.1
    have hp1 : a.getD i 0 * b.getD k 0 ≤ 16777215 * 16777215 := Int.mul_le_mul (by omega) (by omega) hbk.1 (by omega)
    obtain ⟨x, hx⟩ : ∃ x, x = c + ys.getD (i + k) 0 + a.getD i 0 * b.getD k 0 := ⟨_, rfl⟩
    refine Ev.step (f := fun n => spec_l02Mul.l1 n (ys.set (i + k) (x % 16777216)) (i : Int) (x / 16777216) ((k + 1 : Nat) : Int) s0 a s1 b) (fun n => ?_)
      (ih (k + 1) _ _ (by omega) (by simpa using hy) (hdy.set _ (by omega) (by omega)) (by omega) (by omega) (fun j hj => ?_) ?_)
    · simp only [spec_l02Mul.l1]
      rw [if_pos (by omega), wrapZ ((i : Int) + (k : Int)) (by omega) (by omega), if_pos (by omega), if_pos (by omega), if_pos (by omega), if_pos (by omega), if_pos (by omega), rdN, rdN, show (i : Int) + (k : Int) = ((i + k : Nat) : Int) by omega, rdN,
        wrapZ (c + _) (by omega) (by omega), wrapZ (a.getD i 0 * b.getD k 0) (by omega) (by omega), ← hx, wrapZ x (by omega) (by omega), Int.tmod_eq_emod_of_nonneg (by omega), Int.tdiv_eq_ediv_of_nonneg (by omega), wrapZ (x / 16777216) (by omega) (by omega), wrapZ ((k : Int) + 1) (by omega) (by omega), Int.toNat_natCast]
      rfl
    · rw [Dg.getD_set_ne (by omega)]; exact hz j hj
    · rw [val_set (by omega), val_take_succ' b k, show i + (k + 1) = (i + k) + 1 by omega, Int.pow_succ]
      rw [Int.pow_add] at hinv
      have h1 : x = x % 16777216 + 16777216 * (x / 16777216) := by omega
      have e : ((16777216 : Nat) : Int) = 16777216 := rfl
      rw [e, Int.pow_add]
      generalize (16777216 : Int) ^ i = P at *
      generalize (16777216 : Int) ^ k = Q at *
      generalize x % 16777216 = lo at *
      generalize x / 16777216 = hi' at *
      generalize ys.getD (i + k) 0 = yk at *
      generalize a.getD i 0 = ai at *
      generalize b.getD k 0 = bk at *
      generalize val 16777216 ys = Vy at *
      generalize val 16777216 (b.take k) = Vb at *
      clear ih next hp1 hp0
      grind
theorem mul_loop (hs0 : -1 ≤ s0 ∧ s0 ≤ 1) (hs1 : -1 ≤ s1 ∧ s1 ≤ 1) (s : Nat) (hs : val 16777216 a * val 16777216 b = s) (d : Nat) :
    ∀ (i : Nat) (ys : List Int), i + d = a.length → ys.length = a.length + b.length + 1 → Dig 16777216 ys → (∀ j, i + b.length ≤ j → ys.getD j 0 = 0) →
      val 16777216 ys = val 16777216 (a.take i) * val 16777216 b →
      Ev (fun k => spec_l02Mul.l0 k ys (i : Int) s0 a s1 b) (smk (s0 * s1) s) := by
  induction d with
  | zero =>
    intro i ys hd hy hdy hz hinv
    have hi : i = a.length := by omega
    subst hi
    rw [List.take_length, hs] at hinv
    have hss : -1 ≤ s0 * s1 ∧ s0 * s1 ≤ 1 := by
      rcases (show s0 = -1 ∨ s0 = 0 ∨ s0 = 1 by omega) with rfl | rfl | rfl <;> omega
    have hmk := smake (s0 * s1) ys hdy (by omega)
    rw [hinv, Int.toNat_natCast] at hmk
    refine Ev.step (f := fun k => (spec_l02Make.f k (wrap64 (s0 * s1)) ys).bind fun bt => (some (bt.1, bt.2))) (fun k => ?_) ?_
    · simp only [spec_l02Mul.l0]
      rw [if_neg (by omega)]
    · rw [wrapZ _ (by omega) (by omega)]
      exact Ev.bind (f := fun k t => _) hmk (ev_of fun _ => rfl)
  | succ d ih =>
    intro i ys hd hy hdy hz hinv
    have h1 := mul_inner s0 s1 a b ha hb hm i (by omega) (smk (s0 * s1) s) (val 16777216 (a.take i) * val 16777216 b) (fun ys' h1 h2 h3 h4 => ih (i + 1) ys' (by omega) h1 h2 h3 (by
      rw [h4, val_take_succ' a i]
      have e : ((16777216 : Nat) : Int) = 16777216 := rfl
      rw [e]
      generalize (16777216 : Int) ^ i = P
      grind)) b.length 0 ys 0 (by omega) hy hdy (by omega) (by omega) hz (by rw [hinv, List.take_zero, val_nil]; simp)
    refine Ev.step (f := fun n => spec_l02Mul.l1 n ys (i : Int) 0 0 s0 a s1 b) (fun n => ?_) h1
    simp only [spec_l02Mul.l0]
    rw [if_pos (by omega)]
end
end Go.Proofs.Ytjddhnjjeomfjaa.Sm
end
section
namespace Go.Proofs.Ytjddhnjjeomfjaa.Qb
end Go.Proofs.Ytjddhnjjeomfjaa.Qb
end
section
namespace Go.Proofs.Ytjddhnjjeomfjaa.Ps
open Go.RowKit Go.Proofs.YtjddhnjjeomfjaaW.PrintWords Go.Proofs.Ytjddhnjjeomfjaa.PW Go.Proofs.Ytjddhnjjeomfjaa.Pb Go.Proofs.Ytjddhnjjeomfjaa.Pc Go.Proofs.Ytjddhnjjeomfjaa.Pm Go.Proofs.Ytjddhnjjeomfjaa.Pw Dg
set_option linter.unusedVariables false
set_option linter.unusedSimpArgs false
theorem slength_loop : ∀ (m : Nat) (d : Nat), bl d = m → d < 16777216 → ∀ n : Nat, n + m ≤ 1099511627776 → Ev (fun k => spec_l02Length.l0 k (n : Int) (d : Int)) ((n + bl d : Nat) : Int) := by
  intro m
  induction m with
  | zero =>
    intro d hd _ n hn
    have := bl_eq_zero.1 hd
    subst this
    refine Ev.step (f := fun _ => some (n : Int)) (fun k => ?_) (ev_of fun _ => by rw [bl_zero]; rfl)
    simp only [spec_l02Length.l0]
    rw [if_neg (by omega)]
  | succ m ih =>
    intro d hd hlt n hn
    have h0 : d ≠ 0 := by intro h; subst h; rw [bl_zero] at hd; omega
    have hh := bl_half h0
    have e : Int.tdiv (d : Int) 2 = ((d / 2 : Nat) : Int) := by rw [Int.tdiv_eq_ediv_of_nonneg (by omega)]; rfl
    refine Ev.step (f := fun k => spec_l02Length.l0 k ((n + 1 : Nat) : Int) ((d / 2 : Nat) : Int)) (fun k => ?_) ?_
    · simp only [spec_l02Length.l0]
      rw [if_pos (by omega), e, wrapZ _ (by omega) (by omega), wrapZ _ (by omega) (by omega)]
      rfl
    · have := ih (d / 2) (by omega) (by omega) (n + 1) (by omega)
      rw [show n + bl d = n + 1 + bl (d / 2) by omega]
      exact this
theorem slength (s : Int) (n : Nat) (hb : bl n ≤ 1073741824) : Ev (fun k => spec_l02Length.f k s (L n)) ((bl n : Nat) : Int) := by
  unfold spec_l02Length.f
  have hl := L_len n
  by_cases h : n = 0
  · subst h
    exact ifp (by rw [L_zero]; rfl) (ev_of fun _ => rfl)
  · have hp := L_pos h
    obtain ⟨d, hd, h1, h2, h3⟩ := L_last h
    have e1 : wrap64 (((L n).length : Int) - 1) = (((L n).length - 1 : Nat) : Int) := by rw [wrapZ _ (by omega) (by omega)]; omega
    refine ifn (by omega) ?_
    rw [e1]
    refine ifp (by omega) (ifp (by omega) ?_)
    rw [rdN, hd, wrapZ _ (by omega) (by omega), h3]
    have := slength_loop (bl d) d rfl h2 (24 * ((L n).length - 1)) (by omega)
    rw [show ((24 * ((L n).length - 1) : Nat) : Int) = (((L n).length - 1 : Nat) : Int) * 24 by omega] at this
    exact this
end Go.Proofs.Ytjddhnjjeomfjaa.Ps
end
section
namespace Go.Proofs.Ytjddhnjjeomfjaa.PW
open Go.RowKit Go.Proofs.YtjddhnjjeomfjaaW.PrintWords Go.Proofs.YtjddhnjjeomfjaaW.PrintLast Go.Proofs.YtjddhnjjeomfjaaW.PrintMore
attribute [local go_sem] max2_int min2_int max_two min_two max_three min_three max_four min_four   -- for this text's walks alone
set_option linter.unusedVariables false
set_option linter.unusedSimpArgs false
def impl_isMode.f (a0 : Int) : Option (Bool) := if a0 ≥ 0 then (some (decide (a0 ≤ 4))) else (some false)
end Go.Proofs.Ytjddhnjjeomfjaa.PW
end
section
namespace Go.Proofs.Ytjddhnjjeomfjaa.PW
open Go.RowKit Go.Proofs.YtjddhnjjeomfjaaW.PrintWords Go.Proofs.YtjddhnjjeomfjaaW.PrintLast Go.Proofs.YtjddhnjjeomfjaaW.PrintMore
attribute [local go_sem] max2_int min2_int max_two min_two max_three min_three max_four min_four   -- for this text's walks alone
set_option linter.unusedVariables false
set_option linter.unusedSimpArgs false
def spec_l03Mode.f (a0 : Int) : Option (Bool) := (spec_l01In.f a0 0 4).bind fun t113 => (some t113)
end Go.Proofs.Ytjddhnjjeomfjaa.PW
end
section
namespace Go.Proofs.Ytjddhnjjeomfjaa.PW
open Go.RowKit Go.Proofs.YtjddhnjjeomfjaaW.PrintWords Go.Proofs.YtjddhnjjeomfjaaW.PrintLast Go.Proofs.YtjddhnjjeomfjaaW.PrintMore
attribute [local go_sem] max2_int min2_int max_two min_two max_three min_three max_four min_four   -- for this text's walks alone
set_option linter.unusedVariables false
set_option linter.unusedSimpArgs false
def spec_l03Code.f (k : Nat) (a0_0 : Int) (l0_1 : List Int) (a0_2 : Int) (a1 : Int) : Option (Int) := (spec_l03Is.f k a0_0 l0_1 a0_2).bind fun t115 => (if t115 = true then ((spec_l03Mode.f a1).bind fun t116 => (if t116 = true then (some 0) else (some 2))) else (some 1))
theorem spec_l03Code.mono : ∀ a0 a1 a2 a3 k, LeO (spec_l03Code.f k a0 a1 a2 a3) (spec_l03Code.f (k + 1) a0 a1 a2 a3) := by
  intro a0 a1 a2 a3 k
  unfold spec_l03Code.f
  repeat' first
      | (with_reducible exact spec_l03Is.mono _ _ _ _)
      | (with_reducible exact LeO.refl _)
      | (with_reducible exact LeO.none _)
      | (with_reducible refine LeO.ite ?_ ?_)
      | (with_reducible refine LeO.bind ?_ (fun _ => ?_))
      | exact spec_l03Is.mono _ _ _ _
      | exact LeO.none _
      | refine LeO.ite ?_ ?_
      | refine LeO.bind ?_ (fun _ => ?_)
end Go.Proofs.Ytjddhnjjeomfjaa.PW
end
