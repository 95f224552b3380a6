/- Lemmas of the claim: PWx27, PWx67, PWx37, PWx28, Pn, Po, PWx19, Pb, Pw, Dy, PWx13, PWx84, PWx83, PWx9, PWx11, PWx10, PWx12, PWx64, Px, Pt, Py, Pz, Ss, Ps, Sm. -/
import Derived.Test.YthanlckjfghnkaaQDivideWf
import Derived.Test.YthanlckjfghnkaaQDivideWh
import Derived.Laws.BitsLemmas
import Derived.Test.YthanlckjfghnkaaQDivideWa
import Derived.Test.YthanlckjfghnkaaQDivideWe
section
namespace Go.Proofs.Ythanlckjfghnkaa.PW
open Go.RowKit Go.Proofs.YthanlckjfghnkaaW.PrintWords Go.Proofs.YthanlckjfghnkaaW.PrintLast Go.Proofs.YthanlckjfghnkaaW.PrintMore
attribute [local go_sem] max2_int min2_int max_two min_two max_three min_three max_four min_four   -- for this text's walks alone
set_option linter.unusedVariables false
set_option linter.unusedSimpArgs false
def impl_magAdd.l0 : Nat → List Int → List Int → List Int → Int → List Int → Int → Int → Option (List Int)
  | 0, _, _, _, _, _, _, _ => none
  | k + 1, x0, x1, x5, x6, x20, x21, x22 => if x22 < x21 then (if 0 ≤ x22 then (if x22 < (x20.length : Int) then (if x22 < (x1.length : Int) then (if x22 < (x5.length : Int) then (impl_magAdd.l0 k x0 x1 (x5.set (x22 : Int).toNat ((IntKind.u64.wrap ((IntKind.u64.wrap (x6 + (IntKind.u64.wrap (rd x20 x22)))) + (IntKind.u64.wrap (rd x1 x22)))) % 4294967296)) ((IntKind.u64.wrap ((IntKind.u64.wrap (x6 + (IntKind.u64.wrap (rd x20 x22)))) + (IntKind.u64.wrap (rd x1 x22)))) / 4294967296) x20 x21 (wrap64 (x22 + 1))) else (none)) else (if x22 < (x5.length : Int) then (impl_magAdd.l0 k x0 x1 (x5.set (x22 : Int).toNat ((IntKind.u64.wrap (x6 + (IntKind.u64.wrap (rd x20 x22)))) % 4294967296)) ((IntKind.u64.wrap (x6 + (IntKind.u64.wrap (rd x20 x22)))) / 4294967296) x20 x21 (wrap64 (x22 + 1))) else (none))) else (none)) else (none)) else (if 0 ≤ (x0.length : Int) then (if (x0.length : Int) < (x5.length : Int) then ((impl_magTrim.f k (x5.set ((x0.length : Int) : Int).toNat ((x6) % 4294967296))).bind fun t300 => (some t300)) else (none)) else (none))
def impl_magAdd.f (k : Nat) (l0 : List Int) (l1 : List Int) : Option (List Int) := if 0 ≤ (wrap64 ((l0.length : Int) + 1)) then (if (wrap64 ((l0.length : Int) + 1) : Int).toNat ≤ 70368744177664 then (impl_magAdd.l0 k l0 l1 (List.replicate (wrap64 ((l0.length : Int) + 1) : Int).toNat 0) 0 l0 (l0.length : Int) 0) else (none)) else (none)
theorem impl_magAdd.mono_l : ∀ k, (∀ y0 y1 y2 y3 y4 y5 y6, LeO (impl_magAdd.l0 k y0 y1 y2 y3 y4 y5 y6) (impl_magAdd.l0 (k + 1) y0 y1 y2 y3 y4 y5 y6))
  | 0 => fun _ _ _ _ _ _ _ r h => by simp [impl_magAdd.l0] at h
  | k + 1 => by
    have ih0 := impl_magAdd.mono_l k
    · intro y0 y1 y2 y3 y4 y5 y6
      unfold impl_magAdd.l0
      repeat' first
      | (with_reducible exact ih0 _ _ _ _ _ _ _)
      | (with_reducible exact impl_magTrim.mono _ _)
      | (with_reducible exact LeO.refl _)
      | (with_reducible exact LeO.none _)
      | (with_reducible refine LeO.ite ?_ ?_)
      | (with_reducible refine LeO.bind ?_ (fun _ => ?_))
      | exact ih0 _ _ _ _ _ _ _
      | exact impl_magTrim.mono _ _
      | exact LeO.none _
      | refine LeO.ite ?_ ?_
      | refine LeO.bind ?_ (fun _ => ?_)
theorem impl_magAdd.mono : ∀ a0 a1 k, LeO (impl_magAdd.f k a0 a1) (impl_magAdd.f (k + 1) a0 a1) := by
  intro a0 a1 k
  have ih0 := impl_magAdd.mono_l k
  unfold impl_magAdd.f
  repeat' first
      | (with_reducible exact ih0 _ _ _ _ _ _ _)
      | (with_reducible exact impl_magTrim.mono _ _)
      | (with_reducible exact LeO.refl _)
      | (with_reducible exact LeO.none _)
      | (with_reducible refine LeO.ite ?_ ?_)
      | (with_reducible refine LeO.bind ?_ (fun _ => ?_))
      | exact ih0 _ _ _ _ _ _ _
      | exact impl_magTrim.mono _ _
      | exact LeO.none _
      | refine LeO.ite ?_ ?_
      | refine LeO.bind ?_ (fun _ => ?_)
set_option maxHeartbeats 8000000 in
set_option maxRecDepth 100000 in
theorem impl_magAdd.calls_ge (k : Nat) (A0 : Option Addr) (c0 : Nat) (l0 : List Int) (A1 : Option Addr) (c1 : Nat) (l1 : List Int) (r : List Int) (w : World) (hr0 : Kd.C (Kd.int .u32) w A0 l0.length l0) (hc0 : l0.length ≤ c0) (hr1 : Kd.C (Kd.int .u32) w A1 l1.length l1) (hc1 : l1.length ≤ c1) (hle : decide (l0.length < l1.length) = false) (h : impl_magAdd.f k l0 l1 = some r) :
    Calls Try.prog 73 #[.slice A0 l0.length c0, .slice A1 l1.length c1] w fun e w' => ∃ v0_ : Value, e = .returned (v0_) ∧ Kd.V (Kd.int .u32) 94 w' w.heap.size (fun k_ => (w.heap.size ≤ k_)) v0_ r ∧ Below w.heap.size w w' := by
  have HR0 := Aside0.mk hr0
  have HC0 := Aside0.mk hc0
  clear hr0 hc0
  have HR1 := Aside0.mk hr1
  have HC1 := Aside0.mk hc1
  clear hr1 hc1
  have HB := Aside0.mk (Below.refl w.heap.size w)
  have H : (if 0 ≤ (wrap64 ((l0.length : Int) + 1)) then (if (wrap64 ((l0.length : Int) + 1) : Int).toNat ≤ 70368744177664 then (impl_magAdd.l0 k l0 l1 (List.replicate (wrap64 ((l0.length : Int) + 1) : Int).toNat 0) 0 l0 (l0.length : Int) 0) else (none)) else (none)) = some r := h
  clear h
  obtain ⟨ji3, hji3⟩ : ∃ j_ : Int, (wrap64 ((l0.length : Int) + 1)) = j_ := ⟨_, rfl⟩
  replace H : (if 0 ≤ (ji3) then (if (ji3 : Int).toNat ≤ 70368744177664 then (impl_magAdd.l0 k l0 l1 (List.replicate (ji3 : Int).toNat 0) 0 l0 (l0.length : Int) 0) else (none)) else (none)) = some r := by first | (rw [hji3] at H; exact H) | (simp only [hji3] at H ⊢; exact H)
  have hji3w : (IntKind.i64.wrap ((l0.length : Int) + 1)) = ji3 := (i64_w _).trans hji3
  by_cases c4 : 0 ≤ (ji3)
  · rw [if_pos c4] at H
    have c4b0 := eq_true c4
    have c4b1 : decide (0 ≤ (ji3)) = true := decide_eq_true c4
    clear c4
    by_cases c5 : (ji3 : Int).toNat ≤ 70368744177664
    · rw [if_pos c5] at H
      have c5b0 := eq_true c5
      have c5b1 : decide ((ji3 : Int).toNat ≤ 70368744177664) = true := decide_eq_true c5
      clear c5
      obtain ⟨y292, hy292⟩ : ∃ y_ : List Int, y_ = (List.replicate (ji3 : Int).toNat 0) := ⟨_, rfl⟩
      replace H : (impl_magAdd.l0 k l0 l1 y292 0 l0 (l0.length : Int) 0) = some r := by first | (rw [hy292]; with_reducible exact H) | (have H2_ := (Option.bind_some _ _).symm.trans H; rw [hy292]; with_reducible exact H2_) | (have H2_ := (Option.bind_some _ _).symm.trans H; with_reducible exact H2_) | with_reducible exact H | (rw [hy292]; exact H) | exact H
      have Ny292 := Aside0.mk hy292
      clear hy292
      have H' := Aside0.mk H
      clear H
      go_enter Try.func73, Try.ntmps73
      go_wp2_with (first | ((with_reducible refine gate_dst (N := 19) rfl ?_); refine Kd.R_make (Kd.int .u32) _ 94 rfl (N := 19) rfl 55 _ _ rfl ji3 rfl rfl Try.underlying55 (.int .u32 0) 4 info94 rfl (by decide) (by omega) 0 (ok := fun _ => True) (okp := fun _ => True) rfl (fun _ hk => hk) trivial (of_decide_eq_true (by first | (with_reducible assumption) | assumption)) (Nat.le_trans (Nat.mul_le_mul_right _ (of_decide_eq_true (by first | (with_reducible assumption) | assumption) : ji3.toNat ≤ 70368744177664)) (by omega)) (Below.refl _ _) (Nat.le_refl _) ?_; intro v293 w6 ho7 hb hg_ hnew_; clear hg_ hnew_; (first | rw [← Ny292.out] at ho7 | (simp only [Int.reduceToNat] at ho7; rw [← Ny292.out] at ho7)); have n0_ := Aside0.mk (Kd.R_lower (Kd.R_newM (M := fun k_ => (w.heap.size ≤ k_)) ho7 (below_size (by repeat (first | (with_reducible first | exact HB.out | apply below_alloc | apply pw_below_drewN | apply below_drew1) | exact HB.out))) (fun k_ h_ => h_)) (below_size (by repeat (first | (with_reducible first | exact HB.out | apply below_alloc | apply pw_below_drewN | apply below_drew1) | exact HB.out)))); have n1_ := Aside0.mk (below_step (by repeat (first | (with_reducible first | exact HB.out | apply below_alloc | apply pw_below_drewN | apply below_drew1) | exact HB.out)) hb); clear HB; have HO294 := n0_; have HB := n1_; clear n0_ n1_; clear hb ho7))
      go_loopg [6, 22] k (fun kq v6 v22 w' => ∃ (x5_1 : List Int) (x6_1 : Int) (x22_1 : Int), v6 = .int .u64 x6_1 ∧ v22 = .int .i64 x22_1 ∧ Aside0 (impl_magAdd.l0 kq l0 l1 x5_1 x6_1 l0 (l0.length : Int) x22_1 = some r) ∧ Aside0 (kq ≤ k) ∧ Aside0 (Kd.R (Kd.int .u32) 94 w' w.heap.size (fun k_ => (w.heap.size ≤ k_)) v293 x5_1) ∧ Aside0 (Below w.heap.size w w'))
      case atStart => exact ⟨(y292), (0), (0), (by first | rfl | (simp; done) | (simp [*]; done)), (by first | rfl | (simp; done) | (simp [*]; done)), H', ⟨Nat.le_refl _⟩, ⟨by (with_reducible repeat (first | apply Kd.R_alloc | apply Kd.R_drewN | apply Kd.R_drew)); exact Kd.R_mono HO294.out (fun _ hk => hk.1)⟩, ⟨by repeat (first | (with_reducible first | exact HB.out | apply below_alloc | apply pw_below_drewN | apply below_drew1) | exact HB.out)⟩⟩
      case round =>
        clear H'
        try clear c1
        try clear p2
        try clear c4
        try clear c4b0
        try clear c4b1
        try clear c5
        try clear c5b0
        try clear c5b1
        try clear p6
        try clear c7
        obtain ⟨x5_1, x6_1, x22_1, rfl, rfl, HA, HK1, HO_5, HB⟩ := hrel
        cases gk with
        | zero => exact absurd HA.out (by simp [impl_magAdd.l0])
        | succ k1 =>
          have H := HA.out
          clear HA
          simp only [impl_magAdd.l0] at H
          by_cases c8 : x22_1 < (l0.length : Int)
          · rw [if_pos c8] at H
            have c8b0 : decide (x22_1 < (l0.length : Int)) = true := decide_eq_true c8
            clear c8
            by_cases c9 : 0 ≤ x22_1
            · rw [if_pos c9] at H
              have c9b0 : decide (0 ≤ x22_1) = true := decide_eq_true c9
              clear c9
              by_cases c10 : x22_1 < (l0.length : Int)
              · rw [if_pos c10] at H
                have c10b0 : decide (x22_1 < (l0.length : Int)) = true := decide_eq_true c10
                clear c10
                by_cases c11 : x22_1 < (l1.length : Int)
                · rw [if_pos c11] at H
                  have c11b0 : decide (x22_1 < (l1.length : Int)) = true := decide_eq_true c11
                  clear c11
                  by_cases c12 : x22_1 < (x5_1.length : Int)
                  · rw [if_pos c12] at H
                    have c12b0 : decide (x22_1 < (x5_1.length : Int)) = true := decide_eq_true c12
                    clear c12
                    obtain ⟨y297, hy297⟩ : ∃ y_ : List Int, y_ = (x5_1.set (x22_1 : Int).toNat ((IntKind.u64.wrap ((IntKind.u64.wrap (x6_1 + (IntKind.u64.wrap (rd l0 x22_1)))) + (IntKind.u64.wrap (rd l1 x22_1)))) % 4294967296)) := ⟨_, rfl⟩
                    replace H : (impl_magAdd.l0 k1 l0 l1 y297 ((IntKind.u64.wrap ((IntKind.u64.wrap (x6_1 + (IntKind.u64.wrap (rd l0 x22_1)))) + (IntKind.u64.wrap (rd l1 x22_1)))) / 4294967296) l0 (l0.length : Int) (wrap64 (x22_1 + 1))) = some r := by first | (rw [hy297]; with_reducible exact H) | (have H2_ := (Option.bind_some _ _).symm.trans H; rw [hy297]; with_reducible exact H2_) | (have H2_ := (Option.bind_some _ _).symm.trans H; with_reducible exact H2_) | with_reducible exact H | (rw [hy297]; exact H) | exact H
                    have Ny297 := Aside0.mk hy297
                    clear hy297
                    have H' := Aside0.mk H
                    clear H
                    have p295 : 0 ≤ (x22_1 : Int) := of_decide_eq_true (by first | (with_reducible assumption) | assumption)
                    have q295 : x22_1 < (l0.length : Int) := of_decide_eq_true (by first | (with_reducible assumption) | assumption)
                    obtain ⟨ad295, e295, hx295_0⟩ := Kd.at_int HR0.out x22_1 p295 q295
                    cases e295
                    replace hx295_0 := (HB.out.cell (World.block_lt_of_cell? w _ hx295_0)).trans hx295_0
                    replace p295 := eq_true p295
                    replace q295 := eq_true q295
                    have p296 : 0 ≤ (x22_1 : Int) := of_decide_eq_true (by first | (with_reducible assumption) | assumption)
                    have q296 : x22_1 < (l1.length : Int) := of_decide_eq_true (by first | (with_reducible assumption) | assumption)
                    obtain ⟨ad296, e296, hx296_0⟩ := Kd.at_int HR1.out x22_1 p296 q296
                    cases e296
                    replace hx296_0 := (HB.out.cell (World.block_lt_of_cell? w _ hx296_0)).trans hx296_0
                    replace p296 := eq_true p296
                    replace q296 := eq_true q296
                    have p13 : 0 ≤ (x22_1 : Int) := of_decide_eq_true (by first | (with_reducible assumption) | assumption)
                    have q13 : (x22_1 : Int) < ((x5_1.length : Int) : Int) := of_decide_eq_true (by first | (with_reducible assumption) | assumption)
                    obtain ⟨go13, co13, eo13, gb13, gl13, cl13, HG13⟩ := Kd.R_form HO_5.out (by omega)
                    (first | cases eo13 | (injection eo13 with ea_ en_ ec_; (first | subst ea_ | (injection ea_ with ea_; subst ea_)); subst ec_; clear en_))
                    have GB13 := Aside0.mk gb13
                    have GG13 := Aside0.mk HG13
                    clear gb13 gl13 HG13
                    obtain ⟨hx13_0, hf13_0⟩ := Kd.R_celln 0 HO_5.out (x22_1 : Int) p13 q13
                    replace p13 := eq_true p13
                    replace q13 := eq_true q13
                    have HP14 := Kd.R_putg HO_5.out (x22_1 : Int) ((IntKind.u64.wrap ((IntKind.u64.wrap (x6_1 + (IntKind.u64.wrap (rd l0 x22_1)))) + (IntKind.u64.wrap (rd l1 x22_1)))) % 4294967296)
                    go_wp2_with (first | ((with_reducible refine gate_store (t := 94) (p := 46) rfl ?_); refine store_event (t := 94) (p := 46) (v := ?vo_w15) (w1 := (wr.setCell ⟨go13, (x22_1 : Int).toNat, none⟩ (.int .u32 ((IntKind.u64.wrap ((IntKind.u64.wrap (x6_1 + (IntKind.u64.wrap (rd l0 x22_1)))) + (IntKind.u64.wrap (rd l1 x22_1)))) % 4294967296)))) ?hg ?ho ?hn ?hr ?_; (case ho => rfl); (case hg => rfl); (case hn => rfl); (case hr => first | (go_simp; done) | (go_simp; rfl)); intro w15 hw; have hg : wr.grownBy w15 (some go13) := (by rw [hw]; exact HP14.2); have hp_ : Kd.R (Kd.int .u32) 94 w15 w.heap.size (fun k_ => (w.heap.size ≤ k_)) (.slice (some ⟨go13, 0, none⟩) x5_1.length co13) y297 := (by rw [hw, Ny297.out]; exact HP14.1); clear HP14; have n0_ := Aside0.mk (hp_); have n1_ := Aside0.mk ((by rw [hw]; exact below_set (HB.out) GB13.out : Below w.heap.size w w15)); clear HO_5; clear HB; have HO_5 := n0_; have HB := n1_; clear n0_ n1_; clear hg hw hp_))
                    go_roundg k1
                    case measure => have := HK1.out; omega
                    case rel => exact ⟨(y297), ((IntKind.u64.wrap ((IntKind.u64.wrap (x6_1 + (IntKind.u64.wrap (rd l0 x22_1)))) + (IntKind.u64.wrap (rd l1 x22_1)))) / 4294967296), (wrap64 (x22_1 + 1)), (by first | rfl | (simp; done) | (simp [*]; done)), (by first | rfl | (simp; done) | (simp [*]; done)), H', ⟨by have := HK1.out; omega⟩, ⟨by (with_reducible repeat (first | apply Kd.R_alloc | apply Kd.R_drewN | apply Kd.R_drew)); exact HO_5.out⟩, ⟨by repeat (first | (with_reducible first | exact HB.out | apply below_alloc | apply pw_below_drewN | apply below_drew1) | exact HB.out)⟩⟩
                  · rw [if_neg c12] at H
                    exact absurd H (by simp)
                · rw [if_neg c11] at H
                  have c11b0 : decide (x22_1 < (l1.length : Int)) = false := decide_eq_false c11
                  clear c11
                  by_cases c16 : x22_1 < (x5_1.length : Int)
                  · rw [if_pos c16] at H
                    have c16b0 : decide (x22_1 < (x5_1.length : Int)) = true := decide_eq_true c16
                    clear c16
                    obtain ⟨y298, hy298⟩ : ∃ y_ : List Int, y_ = (x5_1.set (x22_1 : Int).toNat ((IntKind.u64.wrap (x6_1 + (IntKind.u64.wrap (rd l0 x22_1)))) % 4294967296)) := ⟨_, rfl⟩
                    replace H : (impl_magAdd.l0 k1 l0 l1 y298 ((IntKind.u64.wrap (x6_1 + (IntKind.u64.wrap (rd l0 x22_1)))) / 4294967296) l0 (l0.length : Int) (wrap64 (x22_1 + 1))) = some r := by first | (rw [hy298]; with_reducible exact H) | (have H2_ := (Option.bind_some _ _).symm.trans H; rw [hy298]; with_reducible exact H2_) | (have H2_ := (Option.bind_some _ _).symm.trans H; with_reducible exact H2_) | with_reducible exact H | (rw [hy298]; exact H) | exact H
                    have Ny298 := Aside0.mk hy298
                    clear hy298
                    have H' := Aside0.mk H
                    clear H
                    have p295 : 0 ≤ (x22_1 : Int) := of_decide_eq_true (by first | (with_reducible assumption) | assumption)
                    have q295 : x22_1 < (l0.length : Int) := of_decide_eq_true (by first | (with_reducible assumption) | assumption)
                    obtain ⟨ad295, e295, hx295_0⟩ := Kd.at_int HR0.out x22_1 p295 q295
                    cases e295
                    replace hx295_0 := (HB.out.cell (World.block_lt_of_cell? w _ hx295_0)).trans hx295_0
                    replace p295 := eq_true p295
                    replace q295 := eq_true q295
                    have p17 : 0 ≤ (x22_1 : Int) := of_decide_eq_true (by first | (with_reducible assumption) | assumption)
                    have q17 : (x22_1 : Int) < ((x5_1.length : Int) : Int) := of_decide_eq_true (by first | (with_reducible assumption) | assumption)
                    obtain ⟨go17, co17, eo17, gb17, gl17, cl17, HG17⟩ := Kd.R_form HO_5.out (by omega)
                    (first | cases eo17 | (injection eo17 with ea_ en_ ec_; (first | subst ea_ | (injection ea_ with ea_; subst ea_)); subst ec_; clear en_))
                    have GB17 := Aside0.mk gb17
                    have GG17 := Aside0.mk HG17
                    clear gb17 gl17 HG17
                    obtain ⟨hx17_0, hf17_0⟩ := Kd.R_celln 0 HO_5.out (x22_1 : Int) p17 q17
                    replace p17 := eq_true p17
                    replace q17 := eq_true q17
                    have HP18 := Kd.R_putg HO_5.out (x22_1 : Int) ((IntKind.u64.wrap (x6_1 + (IntKind.u64.wrap (rd l0 x22_1)))) % 4294967296)
                    go_wp2_with (first | ((with_reducible refine gate_store (t := 94) (p := 46) rfl ?_); refine store_event (t := 94) (p := 46) (v := ?vo_w19) (w1 := (wr.setCell ⟨go17, (x22_1 : Int).toNat, none⟩ (.int .u32 ((IntKind.u64.wrap (x6_1 + (IntKind.u64.wrap (rd l0 x22_1)))) % 4294967296)))) ?hg ?ho ?hn ?hr ?_; (case ho => rfl); (case hg => rfl); (case hn => rfl); (case hr => first | (go_simp; done) | (go_simp; rfl)); intro w19 hw; have hg : wr.grownBy w19 (some go17) := (by rw [hw]; exact HP18.2); have hp_ : Kd.R (Kd.int .u32) 94 w19 w.heap.size (fun k_ => (w.heap.size ≤ k_)) (.slice (some ⟨go17, 0, none⟩) x5_1.length co17) y298 := (by rw [hw, Ny298.out]; exact HP18.1); clear HP18; have n0_ := Aside0.mk (hp_); have n1_ := Aside0.mk ((by rw [hw]; exact below_set (HB.out) GB17.out : Below w.heap.size w w19)); clear HO_5; clear HB; have HO_5 := n0_; have HB := n1_; clear n0_ n1_; clear hg hw hp_))
                    go_roundg k1
                    case measure => have := HK1.out; omega
                    case rel => exact ⟨(y298), ((IntKind.u64.wrap (x6_1 + (IntKind.u64.wrap (rd l0 x22_1)))) / 4294967296), (wrap64 (x22_1 + 1)), (by first | rfl | (simp; done) | (simp [*]; done)), (by first | rfl | (simp; done) | (simp [*]; done)), H', ⟨by have := HK1.out; omega⟩, ⟨by (with_reducible repeat (first | apply Kd.R_alloc | apply Kd.R_drewN | apply Kd.R_drew)); exact HO_5.out⟩, ⟨by repeat (first | (with_reducible first | exact HB.out | apply below_alloc | apply pw_below_drewN | apply below_drew1) | exact HB.out)⟩⟩
                  · rw [if_neg c16] at H
                    exact absurd H (by simp)
              · rw [if_neg c10] at H
                exact absurd H (by simp)
            · rw [if_neg c9] at H
              exact absurd H (by simp)
          · rw [if_neg c8] at H
            have c8b0 : decide (x22_1 < (l0.length : Int)) = false := decide_eq_false c8
            clear c8
            by_cases c20 : 0 ≤ (l0.length : Int)
            · rw [if_pos c20] at H
              have c20b0 : decide (0 ≤ (l0.length : Int)) = true := decide_eq_true c20
              have c20b1 : decide (0 ≤ l0.length) = true := decide_eq_true (by omega)
              clear c20
              by_cases c21 : (l0.length : Int) < (x5_1.length : Int)
              · rw [if_pos c21] at H
                have c21b0 : decide ((l0.length : Int) < (x5_1.length : Int)) = true := decide_eq_true c21
                have c21b1 : decide (l0.length < x5_1.length) = true := decide_eq_true (Int.ofNat_lt.mp c21)
                clear c21
                obtain ⟨y299, hy299⟩ : ∃ y_ : List Int, y_ = (x5_1.set ((l0.length : Int) : Int).toNat ((x6_1) % 4294967296)) := ⟨_, rfl⟩
                replace H : ((impl_magTrim.f k1 y299).bind fun t300 => (some t300)) = some r := by first | (rw [hy299]; with_reducible exact H) | (have H2_ := (Option.bind_some _ _).symm.trans H; rw [hy299]; with_reducible exact H2_) | (have H2_ := (Option.bind_some _ _).symm.trans H; with_reducible exact H2_) | with_reducible exact H | (rw [hy299]; exact H) | exact H
                have Ny299 := Aside0.mk hy299
                clear hy299
                replace H := Option.bind_eq_some_iff.mp H
                obtain ⟨t300, A230, H⟩ := H
                replace H : (some t300) = some r := H
                have A23 := Aside0.mk A230
                clear A230
                obtain rfl := Option.some.inj H
                have p22 : 0 ≤ ((l0.length : Int) : Int) := of_decide_eq_true (by first | (with_reducible assumption) | assumption)
                have q22 : ((l0.length : Int) : Int) < ((x5_1.length : Int) : Int) := of_decide_eq_true (by first | (with_reducible assumption) | assumption)
                obtain ⟨go22, co22, eo22, gb22, gl22, cl22, HG22⟩ := Kd.R_form HO_5.out (by omega)
                (first | cases eo22 | (injection eo22 with ea_ en_ ec_; (first | subst ea_ | (injection ea_ with ea_; subst ea_)); subst ec_; clear en_))
                have GB22 := Aside0.mk gb22
                have GG22 := Aside0.mk HG22
                clear gb22 gl22 HG22
                obtain ⟨hx22_0, hf22_0⟩ := Kd.R_celln 0 HO_5.out ((l0.length : Int) : Int) p22 q22
                simp only [Int.toNat_natCast] at hx22_0 hf22_0
                replace p22 := eq_true p22
                replace q22 := eq_true q22
                have HP24 := Kd.R_putg HO_5.out ((l0.length : Int) : Int) ((x6_1) % 4294967296)
                go_wp2_with (first | ((with_reducible refine gate_store (t := 94) (p := 55) rfl ?_); refine store_event (t := 94) (p := 55) (v := ?vo_w25) (w1 := (wr.setCell ⟨go22, ((l0.length : Int) : Int).toNat, none⟩ (.int .u32 ((x6_1) % 4294967296)))) ?hg ?ho ?hn ?hr ?_; (case ho => rfl); (case hg => rfl); (case hn => rfl); (case hr => first | (go_simp; done) | (go_simp; rfl)); intro w25 hw; have hg : wr.grownBy w25 (some go22) := (by rw [hw]; exact HP24.2); have hp_ : Kd.R (Kd.int .u32) 94 w25 w.heap.size (fun k_ => (w.heap.size ≤ k_)) (.slice (some ⟨go22, 0, none⟩) x5_1.length co22) y299 := (by rw [hw, Ny299.out]; exact HP24.1); clear HP24; have n0_ := Aside0.mk (hp_); have n1_ := Aside0.mk ((by rw [hw]; exact below_set (HB.out) GB22.out : Below w.heap.size w w25)); clear HO_5; clear HB; have HO_5 := n0_; have HB := n1_; clear n0_ n1_; clear hg hw hp_) | ((with_reducible refine gate_callee (f := 75) rfl ?_); refine goesL_ (some 57) rfl rfl Try.func75 (by kernel_rfl) rfl #[.slice (some ⟨go22, 0, none⟩) y299.length co22] rfl (by (try simp only [List.map_toArray, List.map_cons, List.map_nil]); first | done | (rw [show y299.length = x5_1.length from (Kd.R_reads' HO_5.out).1.symm] <;> rfl) | rfl | (simp only [List.length_drop, List.length_take]; rfl)) ?_; (with_reducible refine (impl_magTrim.calls k1 (fun k_ => some k_ = (.slice (some ⟨go22, 0, none⟩) x5_1.length co22 : Value).ownBlock) _ _ y299 t300 _ ?side1 A23.out).mono ?_); (case side1 => rw [show y299.length = x5_1.length from (Kd.R_reads' HO_5.out).1.symm]; exact Kd.R_V (Kd.R_tight rfl (HO_5.out))); rintro e w26 ⟨v301, rfl, ho0, hb⟩; refine ⟨_, rfl, ?_⟩; have n0_ := Aside0.mk (Kd.R_below (by (with_reducible repeat (first | apply Kd.R_alloc | apply Kd.R_drewN | apply Kd.R_drew)); exact HO_5.out) hb); have n1_ := Aside0.mk (Kd.V_lower (Kd.V_mono (ok' := fun k_ => (w.heap.size ≤ k_)) ho0 (fun k_ hk_ => Or.elim hk_ (fun hs_ => ((HO_5.out).1 k_ hs_.symm)) (fun hn_ => (Nat.le_trans (below_size (by repeat (first | (with_reducible first | exact HB.out | apply below_alloc | apply pw_below_drewN | apply below_drew1) | exact HB.out))) hn_)))) (below_size (by repeat (first | (with_reducible first | exact HB.out | apply below_alloc | apply pw_below_drewN | apply below_drew1) | exact HB.out)))); have n2_ := Aside0.mk (below_step (by repeat (first | (with_reducible first | exact HB.out | apply below_alloc | apply pw_below_drewN | apply below_drew1) | exact HB.out)) hb); clear HO_5; clear HB; have HO_5 := n0_; have HO302 := n1_; have HB := n2_; clear n0_ n1_ n2_; (try clear hb); (try clear hb2); (try clear hk); (try clear hi); (try clear ho0)))
                go_ret
                exact ⟨_, by first | rfl | (simp [errW_none, errW_some] <;> rfl) | (simp only [← hji3]; first | rfl | (simp [errW_none, errW_some] <;> rfl)) | (simp [*, errW_none, errW_some] <;> rfl), by (with_reducible repeat (first | apply Kd.V_alloc | apply Kd.V_drewN | apply Kd.V_drew)); exact HO302.out, by repeat (first | (with_reducible first | exact HB.out | apply below_alloc | apply pw_below_drewN | apply below_drew1) | exact HB.out)⟩
              · rw [if_neg c21] at H
                exact absurd H (by simp)
            · rw [if_neg c20] at H
              exact absurd H (by simp)
    · rw [if_neg c5] at H
      exact absurd H (by simp)
  · rw [if_neg c4] at H
    exact absurd H (by simp)
set_option maxHeartbeats 8000000 in
set_option maxRecDepth 100000 in
theorem impl_magAdd.calls_lt (k : Nat) (A0 : Option Addr) (c0 : Nat) (l0 : List Int) (A1 : Option Addr) (c1 : Nat) (l1 : List Int) (r : List Int) (w : World) (hr0 : Kd.C (Kd.int .u32) w A0 l0.length l0) (hc0 : l0.length ≤ c0) (hr1 : Kd.C (Kd.int .u32) w A1 l1.length l1) (hc1 : l1.length ≤ c1) (hle : decide (l1.length < l0.length) = true) (h : impl_magAdd.f k l0 l1 = some r) :
    Calls Try.prog 73 #[.slice A1 l1.length c1, .slice A0 l0.length c0] w fun e w' => ∃ v0_ : Value, e = .returned (v0_) ∧ Kd.V (Kd.int .u32) 94 w' w.heap.size (fun k_ => (w.heap.size ≤ k_)) v0_ r ∧ Below w.heap.size w w' := by
  have HR0 := Aside0.mk hr0
  have HC0 := Aside0.mk hc0
  clear hr0 hc0
  have HR1 := Aside0.mk hr1
  have HC1 := Aside0.mk hc1
  clear hr1 hc1
  have HB := Aside0.mk (Below.refl w.heap.size w)
  have H : (if 0 ≤ (wrap64 ((l0.length : Int) + 1)) then (if (wrap64 ((l0.length : Int) + 1) : Int).toNat ≤ 70368744177664 then (impl_magAdd.l0 k l0 l1 (List.replicate (wrap64 ((l0.length : Int) + 1) : Int).toNat 0) 0 l0 (l0.length : Int) 0) else (none)) else (none)) = some r := h
  clear h
  obtain ⟨ji3, hji3⟩ : ∃ j_ : Int, (wrap64 ((l0.length : Int) + 1)) = j_ := ⟨_, rfl⟩
  replace H : (if 0 ≤ (ji3) then (if (ji3 : Int).toNat ≤ 70368744177664 then (impl_magAdd.l0 k l0 l1 (List.replicate (ji3 : Int).toNat 0) 0 l0 (l0.length : Int) 0) else (none)) else (none)) = some r := by first | (rw [hji3] at H; exact H) | (simp only [hji3] at H ⊢; exact H)
  have hji3w : (IntKind.i64.wrap ((l0.length : Int) + 1)) = ji3 := (i64_w _).trans hji3
  by_cases c4 : 0 ≤ (ji3)
  · rw [if_pos c4] at H
    have c4b0 := eq_true c4
    have c4b1 : decide (0 ≤ (ji3)) = true := decide_eq_true c4
    clear c4
    by_cases c5 : (ji3 : Int).toNat ≤ 70368744177664
    · rw [if_pos c5] at H
      have c5b0 := eq_true c5
      have c5b1 : decide ((ji3 : Int).toNat ≤ 70368744177664) = true := decide_eq_true c5
      clear c5
      obtain ⟨y292, hy292⟩ : ∃ y_ : List Int, y_ = (List.replicate (ji3 : Int).toNat 0) := ⟨_, rfl⟩
      replace H : (impl_magAdd.l0 k l0 l1 y292 0 l0 (l0.length : Int) 0) = some r := by first | (rw [hy292]; with_reducible exact H) | (have H2_ := (Option.bind_some _ _).symm.trans H; rw [hy292]; with_reducible exact H2_) | (have H2_ := (Option.bind_some _ _).symm.trans H; with_reducible exact H2_) | with_reducible exact H | (rw [hy292]; exact H) | exact H
      have Ny292 := Aside0.mk hy292
      clear hy292
      have H' := Aside0.mk H
      clear H
      go_enter Try.func73, Try.ntmps73
      go_wp2_with (first | ((with_reducible refine gate_dst (N := 19) rfl ?_); refine Kd.R_make (Kd.int .u32) _ 94 rfl (N := 19) rfl 55 _ _ rfl ji3 rfl rfl Try.underlying55 (.int .u32 0) 4 info94 rfl (by decide) (by omega) 0 (ok := fun _ => True) (okp := fun _ => True) rfl (fun _ hk => hk) trivial (of_decide_eq_true (by first | (with_reducible assumption) | assumption)) (Nat.le_trans (Nat.mul_le_mul_right _ (of_decide_eq_true (by first | (with_reducible assumption) | assumption) : ji3.toNat ≤ 70368744177664)) (by omega)) (Below.refl _ _) (Nat.le_refl _) ?_; intro v293 w6 ho7 hb hg_ hnew_; clear hg_ hnew_; (first | rw [← Ny292.out] at ho7 | (simp only [Int.reduceToNat] at ho7; rw [← Ny292.out] at ho7)); have n0_ := Aside0.mk (Kd.R_lower (Kd.R_newM (M := fun k_ => (w.heap.size ≤ k_)) ho7 (below_size (by repeat (first | (with_reducible first | exact HB.out | apply below_alloc | apply pw_below_drewN | apply below_drew1) | exact HB.out))) (fun k_ h_ => h_)) (below_size (by repeat (first | (with_reducible first | exact HB.out | apply below_alloc | apply pw_below_drewN | apply below_drew1) | exact HB.out)))); have n1_ := Aside0.mk (below_step (by repeat (first | (with_reducible first | exact HB.out | apply below_alloc | apply pw_below_drewN | apply below_drew1) | exact HB.out)) hb); clear HB; have HO294 := n0_; have HB := n1_; clear n0_ n1_; clear hb ho7))
      go_loopg [6, 22] k (fun kq v6 v22 w' => ∃ (x5_1 : List Int) (x6_1 : Int) (x22_1 : Int), v6 = .int .u64 x6_1 ∧ v22 = .int .i64 x22_1 ∧ Aside0 (impl_magAdd.l0 kq l0 l1 x5_1 x6_1 l0 (l0.length : Int) x22_1 = some r) ∧ Aside0 (kq ≤ k) ∧ Aside0 (Kd.R (Kd.int .u32) 94 w' w.heap.size (fun k_ => (w.heap.size ≤ k_)) v293 x5_1) ∧ Aside0 (Below w.heap.size w w'))
      case atStart => exact ⟨(y292), (0), (0), (by first | rfl | (simp; done) | (simp [*]; done)), (by first | rfl | (simp; done) | (simp [*]; done)), H', ⟨Nat.le_refl _⟩, ⟨by (with_reducible repeat (first | apply Kd.R_alloc | apply Kd.R_drewN | apply Kd.R_drew)); exact Kd.R_mono HO294.out (fun _ hk => hk.1)⟩, ⟨by repeat (first | (with_reducible first | exact HB.out | apply below_alloc | apply pw_below_drewN | apply below_drew1) | exact HB.out)⟩⟩
      case round =>
        clear H'
        try clear c1
        try clear p2
        try clear c4
        try clear c4b0
        try clear c4b1
        try clear c5
        try clear c5b0
        try clear c5b1
        try clear p6
        try clear c7
        obtain ⟨x5_1, x6_1, x22_1, rfl, rfl, HA, HK1, HO_5, HB⟩ := hrel
        cases gk with
        | zero => exact absurd HA.out (by simp [impl_magAdd.l0])
        | succ k1 =>
          have H := HA.out
          clear HA
          simp only [impl_magAdd.l0] at H
          by_cases c8 : x22_1 < (l0.length : Int)
          · rw [if_pos c8] at H
            have c8b0 : decide (x22_1 < (l0.length : Int)) = true := decide_eq_true c8
            clear c8
            by_cases c9 : 0 ≤ x22_1
            · rw [if_pos c9] at H
              have c9b0 : decide (0 ≤ x22_1) = true := decide_eq_true c9
              clear c9
              by_cases c10 : x22_1 < (l0.length : Int)
              · rw [if_pos c10] at H
                have c10b0 : decide (x22_1 < (l0.length : Int)) = true := decide_eq_true c10
                clear c10
                by_cases c11 : x22_1 < (l1.length : Int)
                · rw [if_pos c11] at H
                  have c11b0 : decide (x22_1 < (l1.length : Int)) = true := decide_eq_true c11
                  clear c11
                  by_cases c12 : x22_1 < (x5_1.length : Int)
                  · rw [if_pos c12] at H
                    have c12b0 : decide (x22_1 < (x5_1.length : Int)) = true := decide_eq_true c12
                    clear c12
                    obtain ⟨y297, hy297⟩ : ∃ y_ : List Int, y_ = (x5_1.set (x22_1 : Int).toNat ((IntKind.u64.wrap ((IntKind.u64.wrap (x6_1 + (IntKind.u64.wrap (rd l0 x22_1)))) + (IntKind.u64.wrap (rd l1 x22_1)))) % 4294967296)) := ⟨_, rfl⟩
                    replace H : (impl_magAdd.l0 k1 l0 l1 y297 ((IntKind.u64.wrap ((IntKind.u64.wrap (x6_1 + (IntKind.u64.wrap (rd l0 x22_1)))) + (IntKind.u64.wrap (rd l1 x22_1)))) / 4294967296) l0 (l0.length : Int) (wrap64 (x22_1 + 1))) = some r := by first | (rw [hy297]; with_reducible exact H) | (have H2_ := (Option.bind_some _ _).symm.trans H; rw [hy297]; with_reducible exact H2_) | (have H2_ := (Option.bind_some _ _).symm.trans H; with_reducible exact H2_) | with_reducible exact H | (rw [hy297]; exact H) | exact H
                    have Ny297 := Aside0.mk hy297
                    clear hy297
                    have H' := Aside0.mk H
                    clear H
                    have p295 : 0 ≤ (x22_1 : Int) := of_decide_eq_true (by first | (with_reducible assumption) | assumption)
                    have q295 : x22_1 < (l0.length : Int) := of_decide_eq_true (by first | (with_reducible assumption) | assumption)
                    obtain ⟨ad295, e295, hx295_0⟩ := Kd.at_int HR0.out x22_1 p295 q295
                    cases e295
                    replace hx295_0 := (HB.out.cell (World.block_lt_of_cell? w _ hx295_0)).trans hx295_0
                    replace p295 := eq_true p295
                    replace q295 := eq_true q295
                    have p296 : 0 ≤ (x22_1 : Int) := of_decide_eq_true (by first | (with_reducible assumption) | assumption)
                    have q296 : x22_1 < (l1.length : Int) := of_decide_eq_true (by first | (with_reducible assumption) | assumption)
                    obtain ⟨ad296, e296, hx296_0⟩ := Kd.at_int HR1.out x22_1 p296 q296
                    cases e296
                    replace hx296_0 := (HB.out.cell (World.block_lt_of_cell? w _ hx296_0)).trans hx296_0
                    replace p296 := eq_true p296
                    replace q296 := eq_true q296
                    have p13 : 0 ≤ (x22_1 : Int) := of_decide_eq_true (by first | (with_reducible assumption) | assumption)
                    have q13 : (x22_1 : Int) < ((x5_1.length : Int) : Int) := of_decide_eq_true (by first | (with_reducible assumption) | assumption)
                    obtain ⟨go13, co13, eo13, gb13, gl13, cl13, HG13⟩ := Kd.R_form HO_5.out (by omega)
                    (first | cases eo13 | (injection eo13 with ea_ en_ ec_; (first | subst ea_ | (injection ea_ with ea_; subst ea_)); subst ec_; clear en_))
                    have GB13 := Aside0.mk gb13
                    have GG13 := Aside0.mk HG13
                    clear gb13 gl13 HG13
                    obtain ⟨hx13_0, hf13_0⟩ := Kd.R_celln 0 HO_5.out (x22_1 : Int) p13 q13
                    replace p13 := eq_true p13
                    replace q13 := eq_true q13
                    have HP14 := Kd.R_putg HO_5.out (x22_1 : Int) ((IntKind.u64.wrap ((IntKind.u64.wrap (x6_1 + (IntKind.u64.wrap (rd l0 x22_1)))) + (IntKind.u64.wrap (rd l1 x22_1)))) % 4294967296)
                    go_wp2_with (first | ((with_reducible refine gate_store (t := 94) (p := 46) rfl ?_); refine store_event (t := 94) (p := 46) (v := ?vo_w15) (w1 := (wr.setCell ⟨go13, (x22_1 : Int).toNat, none⟩ (.int .u32 ((IntKind.u64.wrap ((IntKind.u64.wrap (x6_1 + (IntKind.u64.wrap (rd l0 x22_1)))) + (IntKind.u64.wrap (rd l1 x22_1)))) % 4294967296)))) ?hg ?ho ?hn ?hr ?_; (case ho => rfl); (case hg => rfl); (case hn => rfl); (case hr => first | (go_simp; done) | (go_simp; rfl)); intro w15 hw; have hg : wr.grownBy w15 (some go13) := (by rw [hw]; exact HP14.2); have hp_ : Kd.R (Kd.int .u32) 94 w15 w.heap.size (fun k_ => (w.heap.size ≤ k_)) (.slice (some ⟨go13, 0, none⟩) x5_1.length co13) y297 := (by rw [hw, Ny297.out]; exact HP14.1); clear HP14; have n0_ := Aside0.mk (hp_); have n1_ := Aside0.mk ((by rw [hw]; exact below_set (HB.out) GB13.out : Below w.heap.size w w15)); clear HO_5; clear HB; have HO_5 := n0_; have HB := n1_; clear n0_ n1_; clear hg hw hp_))
                    go_roundg k1
                    case measure => have := HK1.out; omega
                    case rel => exact ⟨(y297), ((IntKind.u64.wrap ((IntKind.u64.wrap (x6_1 + (IntKind.u64.wrap (rd l0 x22_1)))) + (IntKind.u64.wrap (rd l1 x22_1)))) / 4294967296), (wrap64 (x22_1 + 1)), (by first | rfl | (simp; done) | (simp [*]; done)), (by first | rfl | (simp; done) | (simp [*]; done)), H', ⟨by have := HK1.out; omega⟩, ⟨by (with_reducible repeat (first | apply Kd.R_alloc | apply Kd.R_drewN | apply Kd.R_drew)); exact HO_5.out⟩, ⟨by repeat (first | (with_reducible first | exact HB.out | apply below_alloc | apply pw_below_drewN | apply below_drew1) | exact HB.out)⟩⟩
                  · rw [if_neg c12] at H
                    exact absurd H (by simp)
                · rw [if_neg c11] at H
                  have c11b0 : decide (x22_1 < (l1.length : Int)) = false := decide_eq_false c11
                  clear c11
                  by_cases c16 : x22_1 < (x5_1.length : Int)
                  · rw [if_pos c16] at H
                    have c16b0 : decide (x22_1 < (x5_1.length : Int)) = true := decide_eq_true c16
                    clear c16
                    obtain ⟨y298, hy298⟩ : ∃ y_ : List Int, y_ = (x5_1.set (x22_1 : Int).toNat ((IntKind.u64.wrap (x6_1 + (IntKind.u64.wrap (rd l0 x22_1)))) % 4294967296)) := ⟨_, rfl⟩
                    replace H : (impl_magAdd.l0 k1 l0 l1 y298 ((IntKind.u64.wrap (x6_1 + (IntKind.u64.wrap (rd l0 x22_1)))) / 4294967296) l0 (l0.length : Int) (wrap64 (x22_1 + 1))) = some r := by first | (rw [hy298]; with_reducible exact H) | (have H2_ := (Option.bind_some _ _).symm.trans H; rw [hy298]; with_reducible exact H2_) | (have H2_ := (Option.bind_some _ _).symm.trans H; with_reducible exact H2_) | with_reducible exact H | (rw [hy298]; exact H) | exact H
                    have Ny298 := Aside0.mk hy298
                    clear hy298
                    have H' := Aside0.mk H
                    clear H
                    have p295 : 0 ≤ (x22_1 : Int) := of_decide_eq_true (by first | (with_reducible assumption) | assumption)
                    have q295 : x22_1 < (l0.length : Int) := of_decide_eq_true (by first | (with_reducible assumption) | assumption)
                    obtain ⟨ad295, e295, hx295_0⟩ := Kd.at_int HR0.out x22_1 p295 q295
                    cases e295
                    replace hx295_0 := (HB.out.cell (World.block_lt_of_cell? w _ hx295_0)).trans hx295_0
                    replace p295 := eq_true p295
                    replace q295 := eq_true q295
                    have p17 : 0 ≤ (x22_1 : Int) := of_decide_eq_true (by first | (with_reducible assumption) | assumption)
                    have q17 : (x22_1 : Int) < ((x5_1.length : Int) : Int) := of_decide_eq_true (by first | (with_reducible assumption) | assumption)
                    obtain ⟨go17, co17, eo17, gb17, gl17, cl17, HG17⟩ := Kd.R_form HO_5.out (by omega)
                    (first | cases eo17 | (injection eo17 with ea_ en_ ec_; (first | subst ea_ | (injection ea_ with ea_; subst ea_)); subst ec_; clear en_))
                    have GB17 := Aside0.mk gb17
                    have GG17 := Aside0.mk HG17
                    clear gb17 gl17 HG17
                    obtain ⟨hx17_0, hf17_0⟩ := Kd.R_celln 0 HO_5.out (x22_1 : Int) p17 q17
                    replace p17 := eq_true p17
                    replace q17 := eq_true q17
                    have HP18 := Kd.R_putg HO_5.out (x22_1 : Int) ((IntKind.u64.wrap (x6_1 + (IntKind.u64.wrap (rd l0 x22_1)))) % 4294967296)
                    go_wp2_with (first | ((with_reducible refine gate_store (t := 94) (p := 46) rfl ?_); refine store_event (t := 94) (p := 46) (v := ?vo_w19) (w1 := (wr.setCell ⟨go17, (x22_1 : Int).toNat, none⟩ (.int .u32 ((IntKind.u64.wrap (x6_1 + (IntKind.u64.wrap (rd l0 x22_1)))) % 4294967296)))) ?hg ?ho ?hn ?hr ?_; (case ho => rfl); (case hg => rfl); (case hn => rfl); (case hr => first | (go_simp; done) | (go_simp; rfl)); intro w19 hw; have hg : wr.grownBy w19 (some go17) := (by rw [hw]; exact HP18.2); have hp_ : Kd.R (Kd.int .u32) 94 w19 w.heap.size (fun k_ => (w.heap.size ≤ k_)) (.slice (some ⟨go17, 0, none⟩) x5_1.length co17) y298 := (by rw [hw, Ny298.out]; exact HP18.1); clear HP18; have n0_ := Aside0.mk (hp_); have n1_ := Aside0.mk ((by rw [hw]; exact below_set (HB.out) GB17.out : Below w.heap.size w w19)); clear HO_5; clear HB; have HO_5 := n0_; have HB := n1_; clear n0_ n1_; clear hg hw hp_))
                    go_roundg k1
                    case measure => have := HK1.out; omega
                    case rel => exact ⟨(y298), ((IntKind.u64.wrap (x6_1 + (IntKind.u64.wrap (rd l0 x22_1)))) / 4294967296), (wrap64 (x22_1 + 1)), (by first | rfl | (simp; done) | (simp [*]; done)), (by first | rfl | (simp; done) | (simp [*]; done)), H', ⟨by have := HK1.out; omega⟩, ⟨by (with_reducible repeat (first | apply Kd.R_alloc | apply Kd.R_drewN | apply Kd.R_drew)); exact HO_5.out⟩, ⟨by repeat (first | (with_reducible first | exact HB.out | apply below_alloc | apply pw_below_drewN | apply below_drew1) | exact HB.out)⟩⟩
                  · rw [if_neg c16] at H
                    exact absurd H (by simp)
              · rw [if_neg c10] at H
                exact absurd H (by simp)
            · rw [if_neg c9] at H
              exact absurd H (by simp)
          · rw [if_neg c8] at H
            have c8b0 : decide (x22_1 < (l0.length : Int)) = false := decide_eq_false c8
            clear c8
            by_cases c20 : 0 ≤ (l0.length : Int)
            · rw [if_pos c20] at H
              have c20b0 : decide (0 ≤ (l0.length : Int)) = true := decide_eq_true c20
              have c20b1 : decide (0 ≤ l0.length) = true := decide_eq_true (by omega)
              clear c20
              by_cases c21 : (l0.length : Int) < (x5_1.length : Int)
              · rw [if_pos c21] at H
                have c21b0 : decide ((l0.length : Int) < (x5_1.length : Int)) = true := decide_eq_true c21
                have c21b1 : decide (l0.length < x5_1.length) = true := decide_eq_true (Int.ofNat_lt.mp c21)
                clear c21
                obtain ⟨y299, hy299⟩ : ∃ y_ : List Int, y_ = (x5_1.set ((l0.length : Int) : Int).toNat ((x6_1) % 4294967296)) := ⟨_, rfl⟩
                replace H : ((impl_magTrim.f k1 y299).bind fun t300 => (some t300)) = some r := by first | (rw [hy299]; with_reducible exact H) | (have H2_ := (Option.bind_some _ _).symm.trans H; rw [hy299]; with_reducible exact H2_) | (have H2_ := (Option.bind_some _ _).symm.trans H; with_reducible exact H2_) | with_reducible exact H | (rw [hy299]; exact H) | exact H
                have Ny299 := Aside0.mk hy299
                clear hy299
                replace H := Option.bind_eq_some_iff.mp H
                obtain ⟨t300, A230, H⟩ := H
                replace H : (some t300) = some r := H
                have A23 := Aside0.mk A230
                clear A230
                obtain rfl := Option.some.inj H
                have p22 : 0 ≤ ((l0.length : Int) : Int) := of_decide_eq_true (by first | (with_reducible assumption) | assumption)
                have q22 : ((l0.length : Int) : Int) < ((x5_1.length : Int) : Int) := of_decide_eq_true (by first | (with_reducible assumption) | assumption)
                obtain ⟨go22, co22, eo22, gb22, gl22, cl22, HG22⟩ := Kd.R_form HO_5.out (by omega)
                (first | cases eo22 | (injection eo22 with ea_ en_ ec_; (first | subst ea_ | (injection ea_ with ea_; subst ea_)); subst ec_; clear en_))
                have GB22 := Aside0.mk gb22
                have GG22 := Aside0.mk HG22
                clear gb22 gl22 HG22
                obtain ⟨hx22_0, hf22_0⟩ := Kd.R_celln 0 HO_5.out ((l0.length : Int) : Int) p22 q22
                simp only [Int.toNat_natCast] at hx22_0 hf22_0
                replace p22 := eq_true p22
                replace q22 := eq_true q22
                have HP24 := Kd.R_putg HO_5.out ((l0.length : Int) : Int) ((x6_1) % 4294967296)
                go_wp2_with (first | ((with_reducible refine gate_store (t := 94) (p := 55) rfl ?_); refine store_event (t := 94) (p := 55) (v := ?vo_w25) (w1 := (wr.setCell ⟨go22, ((l0.length : Int) : Int).toNat, none⟩ (.int .u32 ((x6_1) % 4294967296)))) ?hg ?ho ?hn ?hr ?_; (case ho => rfl); (case hg => rfl); (case hn => rfl); (case hr => first | (go_simp; done) | (go_simp; rfl)); intro w25 hw; have hg : wr.grownBy w25 (some go22) := (by rw [hw]; exact HP24.2); have hp_ : Kd.R (Kd.int .u32) 94 w25 w.heap.size (fun k_ => (w.heap.size ≤ k_)) (.slice (some ⟨go22, 0, none⟩) x5_1.length co22) y299 := (by rw [hw, Ny299.out]; exact HP24.1); clear HP24; have n0_ := Aside0.mk (hp_); have n1_ := Aside0.mk ((by rw [hw]; exact below_set (HB.out) GB22.out : Below w.heap.size w w25)); clear HO_5; clear HB; have HO_5 := n0_; have HB := n1_; clear n0_ n1_; clear hg hw hp_) | ((with_reducible refine gate_callee (f := 75) rfl ?_); refine goesL_ (some 57) rfl rfl Try.func75 (by kernel_rfl) rfl #[.slice (some ⟨go22, 0, none⟩) y299.length co22] rfl (by (try simp only [List.map_toArray, List.map_cons, List.map_nil]); first | done | (rw [show y299.length = x5_1.length from (Kd.R_reads' HO_5.out).1.symm] <;> rfl) | rfl | (simp only [List.length_drop, List.length_take]; rfl)) ?_; (with_reducible refine (impl_magTrim.calls k1 (fun k_ => some k_ = (.slice (some ⟨go22, 0, none⟩) x5_1.length co22 : Value).ownBlock) _ _ y299 t300 _ ?side1 A23.out).mono ?_); (case side1 => rw [show y299.length = x5_1.length from (Kd.R_reads' HO_5.out).1.symm]; exact Kd.R_V (Kd.R_tight rfl (HO_5.out))); rintro e w26 ⟨v301, rfl, ho0, hb⟩; refine ⟨_, rfl, ?_⟩; have n0_ := Aside0.mk (Kd.R_below (by (with_reducible repeat (first | apply Kd.R_alloc | apply Kd.R_drewN | apply Kd.R_drew)); exact HO_5.out) hb); have n1_ := Aside0.mk (Kd.V_lower (Kd.V_mono (ok' := fun k_ => (w.heap.size ≤ k_)) ho0 (fun k_ hk_ => Or.elim hk_ (fun hs_ => ((HO_5.out).1 k_ hs_.symm)) (fun hn_ => (Nat.le_trans (below_size (by repeat (first | (with_reducible first | exact HB.out | apply below_alloc | apply pw_below_drewN | apply below_drew1) | exact HB.out))) hn_)))) (below_size (by repeat (first | (with_reducible first | exact HB.out | apply below_alloc | apply pw_below_drewN | apply below_drew1) | exact HB.out)))); have n2_ := Aside0.mk (below_step (by repeat (first | (with_reducible first | exact HB.out | apply below_alloc | apply pw_below_drewN | apply below_drew1) | exact HB.out)) hb); clear HO_5; clear HB; have HO_5 := n0_; have HO302 := n1_; have HB := n2_; clear n0_ n1_ n2_; (try clear hb); (try clear hb2); (try clear hk); (try clear hi); (try clear ho0)))
                go_ret
                exact ⟨_, by first | rfl | (simp [errW_none, errW_some] <;> rfl) | (simp only [← hji3]; first | rfl | (simp [errW_none, errW_some] <;> rfl)) | (simp [*, errW_none, errW_some] <;> rfl), by (with_reducible repeat (first | apply Kd.V_alloc | apply Kd.V_drewN | apply Kd.V_drew)); exact HO302.out, by repeat (first | (with_reducible first | exact HB.out | apply below_alloc | apply pw_below_drewN | apply below_drew1) | exact HB.out)⟩
              · rw [if_neg c21] at H
                exact absurd H (by simp)
            · rw [if_neg c20] at H
              exact absurd H (by simp)
    · rw [if_neg c5] at H
      exact absurd H (by simp)
  · rw [if_neg c4] at H
    exact absurd H (by simp)
end Go.Proofs.Ythanlckjfghnkaa.PW
end
section
namespace Go.Proofs.Ythanlckjfghnkaa.PW
open Go.RowKit Go.Proofs.YthanlckjfghnkaaW.PrintWords Go.Proofs.YthanlckjfghnkaaW.PrintLast Go.Proofs.YthanlckjfghnkaaW.PrintMore
attribute [local go_sem] max2_int min2_int max_two min_two max_three min_three max_four min_four   -- for this text's walks alone
set_option linter.unusedVariables false
set_option linter.unusedSimpArgs false
mutual
def impl_magMul.l0 : Nat → List Int → List Int → List Int → Int → Int → Option (List Int)
  | 0, _, _, _, _, _ => none
  | k + 1, x1, x5, x17, x18, x19 => if x19 < x18 then (if 0 ≤ x19 then (if x19 < (x17.length : Int) then (impl_magMul.l1 k x1 x5 x19 (rd x17 x19) 0 x17 x18 x19 x1 (x1.length : Int) 0) else (none)) else (none)) else ((impl_magTrim.f k x5).bind fun t434 => (some t434))
def impl_magMul.l1 : Nat → List Int → List Int → Int → Int → Int → List Int → Int → Int → List Int → Int → Int → Option (List Int)
  | 0, _, _, _, _, _, _, _, _, _, _, _ => none
  | k + 1, x1, x5, x6, x7, x8, x17, x18, x19, x24, x25, x26 => if x26 < x25 then (if 0 ≤ x26 then (if x26 < (x24.length : Int) then (if 0 ≤ (wrap64 (x6 + x26)) then (if (wrap64 (x6 + x26)) < (x5.length : Int) then (impl_magMul.l1 k x1 (x5.set ((wrap64 (x6 + x26)) : Int).toNat ((IntKind.u64.wrap (x8 + (IntKind.u64.wrap ((IntKind.u64.wrap ((IntKind.u64.wrap (x7)) * (IntKind.u64.wrap (rd x24 x26)))) + (IntKind.u64.wrap (rd x5 (wrap64 (x6 + x26)))))))) % 4294967296)) x6 x7 ((IntKind.u64.wrap (x8 + (IntKind.u64.wrap ((IntKind.u64.wrap ((IntKind.u64.wrap (x7)) * (IntKind.u64.wrap (rd x24 x26)))) + (IntKind.u64.wrap (rd x5 (wrap64 (x6 + x26)))))))) / 4294967296) x17 x18 x19 x24 x25 (wrap64 (x26 + 1))) else (none)) else (none)) else (none)) else (none)) else (if 0 ≤ (wrap64 (x6 + (x1.length : Int))) then (if (wrap64 (x6 + (x1.length : Int))) < (x5.length : Int) then (impl_magMul.l0 k x1 (x5.set ((wrap64 (x6 + (x1.length : Int))) : Int).toNat ((x8) % 4294967296)) x17 x18 (wrap64 (x19 + 1))) else (none)) else (none))
end
def impl_magMul.f (k : Nat) (l0 : List Int) (l1 : List Int) : Option (List Int) := if 0 ≤ (wrap64 ((l0.length : Int) + (l1.length : Int))) then (if (wrap64 ((l0.length : Int) + (l1.length : Int)) : Int).toNat ≤ 70368744177664 then (impl_magMul.l0 k l1 (List.replicate (wrap64 ((l0.length : Int) + (l1.length : Int)) : Int).toNat 0) l0 (l0.length : Int) 0) else (none)) else (none)
theorem impl_magMul.mono_l : ∀ k, (∀ y0 y1 y2 y3 y4, LeO (impl_magMul.l0 k y0 y1 y2 y3 y4) (impl_magMul.l0 (k + 1) y0 y1 y2 y3 y4)) ∧ (∀ y0 y1 y2 y3 y4 y5 y6 y7 y8 y9 y10, LeO (impl_magMul.l1 k y0 y1 y2 y3 y4 y5 y6 y7 y8 y9 y10) (impl_magMul.l1 (k + 1) y0 y1 y2 y3 y4 y5 y6 y7 y8 y9 y10))
  | 0 => ⟨fun _ _ _ _ _ r h => by simp [impl_magMul.l0] at h, fun _ _ _ _ _ _ _ _ _ _ _ r h => by simp [impl_magMul.l1] at h⟩
  | k + 1 => by
    obtain ⟨ih0, ih1⟩ := impl_magMul.mono_l k
    refine ⟨?_, ?_⟩
    · intro y0 y1 y2 y3 y4
      unfold impl_magMul.l0
      repeat' first
      | (with_reducible exact ih0 _ _ _ _ _)
      | (with_reducible exact ih1 _ _ _ _ _ _ _ _ _ _ _)
      | (with_reducible exact impl_magTrim.mono _ _)
      | (with_reducible exact LeO.refl _)
      | (with_reducible exact LeO.none _)
      | (with_reducible refine LeO.ite ?_ ?_)
      | (with_reducible refine LeO.bind ?_ (fun _ => ?_))
      | exact ih0 _ _ _ _ _
      | exact ih1 _ _ _ _ _ _ _ _ _ _ _
      | exact impl_magTrim.mono _ _
      | exact LeO.none _
      | refine LeO.ite ?_ ?_
      | refine LeO.bind ?_ (fun _ => ?_)
    · intro y0 y1 y2 y3 y4 y5 y6 y7 y8 y9 y10
      unfold impl_magMul.l1
      repeat' first
      | (with_reducible exact ih0 _ _ _ _ _)
      | (with_reducible exact ih1 _ _ _ _ _ _ _ _ _ _ _)
      | (with_reducible exact impl_magTrim.mono _ _)
      | (with_reducible exact LeO.refl _)
      | (with_reducible exact LeO.none _)
      | (with_reducible refine LeO.ite ?_ ?_)
      | (with_reducible refine LeO.bind ?_ (fun _ => ?_))
      | exact ih0 _ _ _ _ _
      | exact ih1 _ _ _ _ _ _ _ _ _ _ _
      | exact impl_magTrim.mono _ _
      | exact LeO.none _
      | refine LeO.ite ?_ ?_
      | refine LeO.bind ?_ (fun _ => ?_)
theorem impl_magMul.mono : ∀ a0 a1 k, LeO (impl_magMul.f k a0 a1) (impl_magMul.f (k + 1) a0 a1) := by
  intro a0 a1 k
  obtain ⟨ih0, ih1⟩ := impl_magMul.mono_l k
  unfold impl_magMul.f
  repeat' first
      | (with_reducible exact ih0 _ _ _ _ _)
      | (with_reducible exact ih1 _ _ _ _ _ _ _ _ _ _ _)
      | (with_reducible exact impl_magTrim.mono _ _)
      | (with_reducible exact LeO.refl _)
      | (with_reducible exact LeO.none _)
      | (with_reducible refine LeO.ite ?_ ?_)
      | (with_reducible refine LeO.bind ?_ (fun _ => ?_))
      | exact ih0 _ _ _ _ _
      | exact ih1 _ _ _ _ _ _ _ _ _ _ _
      | exact impl_magTrim.mono _ _
      | exact LeO.none _
      | refine LeO.ite ?_ ?_
      | refine LeO.bind ?_ (fun _ => ?_)
end Go.Proofs.Ythanlckjfghnkaa.PW
end
section
namespace Go.Proofs.Ythanlckjfghnkaa.PW
open Go.RowKit Go.Proofs.YthanlckjfghnkaaW.PrintWords Go.Proofs.YthanlckjfghnkaaW.PrintLast Go.Proofs.YthanlckjfghnkaaW.PrintMore
attribute [local go_sem] max2_int min2_int max_two min_two max_three min_three max_four min_four   -- for this text's walks alone
set_option linter.unusedVariables false
set_option linter.unusedSimpArgs false
def impl_magLeft.l0 : Nat → Int → List Int → List Int → Int → Int → Option (List Int)
  | 0, _, _, _, _, _ => none
  | k + 1, x1, x5, x20, x21, x22 => if x22 < x21 then (if 0 ≤ x22 then (if x22 < (x20.length : Int) then (if 0 ≤ (Int.tmod x1 32) then (if 0 ≤ (wrap64 ((wrap64 (IntKind.u64.wrap (Int.tdiv x1 32))) + x22)) then (if (wrap64 ((wrap64 (IntKind.u64.wrap (Int.tdiv x1 32))) + x22)) < (x5.length : Int) then (if 0 ≤ (wrap64 ((wrap64 ((wrap64 (IntKind.u64.wrap (Int.tdiv x1 32))) + x22)) + 1)) then (if (wrap64 ((wrap64 ((wrap64 (IntKind.u64.wrap (Int.tdiv x1 32))) + x22)) + 1)) < (x5.length : Int) then (impl_magLeft.l0 k x1 ((x5.set ((wrap64 ((wrap64 (IntKind.u64.wrap (Int.tdiv x1 32))) + x22)) : Int).toNat (Go.bits .or .u32 (rd x5 (wrap64 ((wrap64 (IntKind.u64.wrap (Int.tdiv x1 32))) + x22))) ((shl .u64 (IntKind.u64.wrap (rd x20 x22)) (Int.tmod x1 32)) % 4294967296))).set ((wrap64 ((wrap64 ((wrap64 (IntKind.u64.wrap (Int.tdiv x1 32))) + x22)) + 1)) : Int).toNat (((shl .u64 (IntKind.u64.wrap (rd x20 x22)) (Int.tmod x1 32)) / 4294967296) % 4294967296)) x20 x21 (wrap64 (x22 + 1))) else (none)) else (none)) else (none)) else (none)) else (none)) else (none)) else (none)) else ((impl_magTrim.f k x5).bind fun t338 => (some t338))
def impl_magLeft.f (k : Nat) (l0 : List Int) (a1 : Int) : Option (List Int) := if (l0.length : Int) = 0 then (some ([] : List Int)) else (if 0 ≤ (wrap64 ((wrap64 ((wrap64 (IntKind.u64.wrap (Int.tdiv a1 32))) + (l0.length : Int))) + 1)) then (if (wrap64 ((wrap64 ((wrap64 (IntKind.u64.wrap (Int.tdiv a1 32))) + (l0.length : Int))) + 1) : Int).toNat ≤ 70368744177664 then (impl_magLeft.l0 k a1 (List.replicate (wrap64 ((wrap64 ((wrap64 (IntKind.u64.wrap (Int.tdiv a1 32))) + (l0.length : Int))) + 1) : Int).toNat 0) l0 (l0.length : Int) 0) else (none)) else (none))
theorem impl_magLeft.mono_l : ∀ k, (∀ y0 y1 y2 y3 y4, LeO (impl_magLeft.l0 k y0 y1 y2 y3 y4) (impl_magLeft.l0 (k + 1) y0 y1 y2 y3 y4))
  | 0 => fun _ _ _ _ _ r h => by simp [impl_magLeft.l0] at h
  | k + 1 => by
    have ih0 := impl_magLeft.mono_l k
    · intro y0 y1 y2 y3 y4
      unfold impl_magLeft.l0
      repeat' first
      | (with_reducible exact ih0 _ _ _ _ _)
      | (with_reducible exact impl_magTrim.mono _ _)
      | (with_reducible exact LeO.refl _)
      | (with_reducible exact LeO.none _)
      | (with_reducible refine LeO.ite ?_ ?_)
      | (with_reducible refine LeO.bind ?_ (fun _ => ?_))
      | exact ih0 _ _ _ _ _
      | exact impl_magTrim.mono _ _
      | exact LeO.none _
      | refine LeO.ite ?_ ?_
      | refine LeO.bind ?_ (fun _ => ?_)
theorem impl_magLeft.mono : ∀ a0 a1 k, LeO (impl_magLeft.f k a0 a1) (impl_magLeft.f (k + 1) a0 a1) := by
  intro a0 a1 k
  have ih0 := impl_magLeft.mono_l k
  unfold impl_magLeft.f
  repeat' first
      | (with_reducible exact ih0 _ _ _ _ _)
      | (with_reducible exact impl_magTrim.mono _ _)
      | (with_reducible exact LeO.refl _)
      | (with_reducible exact LeO.none _)
      | (with_reducible refine LeO.ite ?_ ?_)
      | (with_reducible refine LeO.bind ?_ (fun _ => ?_))
      | exact ih0 _ _ _ _ _
      | exact impl_magTrim.mono _ _
      | exact LeO.none _
      | refine LeO.ite ?_ ?_
      | refine LeO.bind ?_ (fun _ => ?_)
set_option maxHeartbeats 8000000 in
set_option maxRecDepth 100000 in
theorem impl_magLeft.calls (k : Nat) (A0 : Option Addr) (c0 : Nat) (l0 : List Int) (a1 : Int) (r : List Int) (w : World) (hr0 : Kd.C (Kd.int .u32) w A0 l0.length l0) (hc0 : l0.length ≤ c0) (h : impl_magLeft.f k l0 a1 = some r) :
    Calls Try.prog 84 #[.slice A0 l0.length c0, .int .u64 a1] w fun e w' => ∃ v0_ : Value, e = .returned (v0_) ∧ Kd.V (Kd.int .u32) 94 w' w.heap.size (fun k_ => (w.heap.size ≤ k_)) v0_ r ∧ Below w.heap.size w w' := by
  have HR0 := Aside0.mk hr0
  have HC0 := Aside0.mk hc0
  clear hr0 hc0
  have HB := Aside0.mk (Below.refl w.heap.size w)
  have H : (if (l0.length : Int) = 0 then (some ([] : List Int)) else (if 0 ≤ (wrap64 ((wrap64 ((wrap64 (IntKind.u64.wrap (Int.tdiv a1 32))) + (l0.length : Int))) + 1)) then (if (wrap64 ((wrap64 ((wrap64 (IntKind.u64.wrap (Int.tdiv a1 32))) + (l0.length : Int))) + 1) : Int).toNat ≤ 70368744177664 then (impl_magLeft.l0 k a1 (List.replicate (wrap64 ((wrap64 ((wrap64 (IntKind.u64.wrap (Int.tdiv a1 32))) + (l0.length : Int))) + 1) : Int).toNat 0) l0 (l0.length : Int) 0) else (none)) else (none))) = some r := h
  clear h
  by_cases c3 : (l0.length : Int) = 0
  · rw [if_pos c3] at H
    have c3b0 : ((l0.length : Int) == 0) = true := beq_iff_eq.mpr c3
    have c3b1 : ((l0.length : Int) != 0) = false := bne_eq_false_iff_eq.mpr c3
    clear c3
    obtain rfl := Option.some.inj H
    go_enter Try.func84, Try.ntmps84
    go_wp2
    go_ret
    exact ⟨.slice none 0 0, by first | rfl | (simp [errW_none, errW_some] <;> rfl) | (simp [*, errW_none, errW_some] <;> rfl), Kd.V_nil _ _ _ _ _, by repeat (first | (with_reducible first | exact HB.out | apply below_alloc | apply pw_below_drewN | apply below_drew1) | exact HB.out)⟩
  · rw [if_neg c3] at H
    have c3b0 : ((l0.length : Int) == 0) = false := beq_eq_false_iff_ne.mpr c3
    have c3b1 : ((l0.length : Int) != 0) = true := bne_iff_ne.mpr c3
    have c3b2 : ¬ (l0 = []) := fun h_ => c3 (by rw [h_]; rfl)
    obtain ⟨ji4, hji4⟩ : ∃ j_ : Int, (wrap64 ((wrap64 ((wrap64 (IntKind.u64.wrap (Int.tdiv a1 32))) + (l0.length : Int))) + 1)) = j_ := ⟨_, rfl⟩
    replace H : (if 0 ≤ (ji4) then (if (ji4 : Int).toNat ≤ 70368744177664 then (impl_magLeft.l0 k a1 (List.replicate (ji4 : Int).toNat 0) l0 (l0.length : Int) 0) else (none)) else (none)) = some r := by first | (rw [hji4] at H; exact H) | (simp only [hji4] at H ⊢; exact H)
    have hji4w : (IntKind.i64.wrap ((wrap64 ((wrap64 (IntKind.u64.wrap (Int.tdiv a1 32))) + (l0.length : Int))) + 1)) = ji4 := (i64_w _).trans hji4
    by_cases c5 : 0 ≤ (ji4)
    · rw [if_pos c5] at H
      have c5b0 := eq_true c5
      have c5b1 : decide (0 ≤ (ji4)) = true := decide_eq_true c5
      clear c5
      by_cases c6 : (ji4 : Int).toNat ≤ 70368744177664
      · rw [if_pos c6] at H
        have c6b0 := eq_true c6
        have c6b1 : decide ((ji4 : Int).toNat ≤ 70368744177664) = true := decide_eq_true c6
        clear c6
        obtain ⟨y331, hy331⟩ : ∃ y_ : List Int, y_ = (List.replicate (ji4 : Int).toNat 0) := ⟨_, rfl⟩
        replace H : (impl_magLeft.l0 k a1 y331 l0 (l0.length : Int) 0) = some r := by first | (rw [hy331]; with_reducible exact H) | (have H2_ := (Option.bind_some _ _).symm.trans H; rw [hy331]; with_reducible exact H2_) | (have H2_ := (Option.bind_some _ _).symm.trans H; with_reducible exact H2_) | with_reducible exact H | (rw [hy331]; exact H) | exact H
        have Ny331 := Aside0.mk hy331
        clear hy331
        have H' := Aside0.mk H
        clear H
        go_enter Try.func84, Try.ntmps84
        go_wp2_with (first | ((with_reducible refine gate_dst (N := 19) rfl ?_); refine Kd.R_make (Kd.int .u32) _ 94 rfl (N := 19) rfl 55 _ _ rfl ji4 rfl rfl Try.underlying55 (.int .u32 0) 4 info94 rfl (by decide) (by omega) 0 (ok := fun _ => True) (okp := fun _ => True) rfl (fun _ hk => hk) trivial (of_decide_eq_true (by first | (with_reducible assumption) | assumption)) (Nat.le_trans (Nat.mul_le_mul_right _ (of_decide_eq_true (by first | (with_reducible assumption) | assumption) : ji4.toNat ≤ 70368744177664)) (by omega)) (Below.refl _ _) (Nat.le_refl _) ?_; intro v332 w7 ho8 hb hg_ hnew_; clear hg_ hnew_; (first | rw [← Ny331.out] at ho8 | (simp only [Int.reduceToNat] at ho8; rw [← Ny331.out] at ho8)); have n0_ := Aside0.mk (Kd.R_lower (Kd.R_newM (M := fun k_ => (w.heap.size ≤ k_)) ho8 (below_size (by repeat (first | (with_reducible first | exact HB.out | apply below_alloc | apply pw_below_drewN | apply below_drew1) | exact HB.out))) (fun k_ h_ => h_)) (below_size (by repeat (first | (with_reducible first | exact HB.out | apply below_alloc | apply pw_below_drewN | apply below_drew1) | exact HB.out)))); have n1_ := Aside0.mk (below_step (by repeat (first | (with_reducible first | exact HB.out | apply below_alloc | apply pw_below_drewN | apply below_drew1) | exact HB.out)) hb); clear HB; have HO333 := n0_; have HB := n1_; clear n0_ n1_; clear hb ho8))
        go_loopg [22] k (fun kq v22 w' => ∃ (x5_1 : List Int) (x22_1 : Int), v22 = .int .i64 x22_1 ∧ Aside0 (impl_magLeft.l0 kq a1 x5_1 l0 (l0.length : Int) x22_1 = some r) ∧ Aside0 (kq ≤ k) ∧ Aside0 (Kd.R (Kd.int .u32) 94 w' w.heap.size (fun k_ => (w.heap.size ≤ k_)) v332 x5_1) ∧ Aside0 (Below w.heap.size w w'))
        case atStart => exact ⟨(y331), (0), (by first | rfl | (simp; done) | (simp [*]; done)), H', ⟨Nat.le_refl _⟩, ⟨by (with_reducible repeat (first | apply Kd.R_alloc | apply Kd.R_drewN | apply Kd.R_drew)); exact Kd.R_mono HO333.out (fun _ hk => hk.1)⟩, ⟨by repeat (first | (with_reducible first | exact HB.out | apply below_alloc | apply pw_below_drewN | apply below_drew1) | exact HB.out)⟩⟩
        case round =>
          clear H'
          try clear p2
          try clear c3
          try clear c3b0
          try clear c3b1
          try clear c3b2
          try clear c5
          try clear c5b0
          try clear c5b1
          try clear c6
          try clear c6b0
          try clear c6b1
          try clear p6
          try clear c8
          obtain ⟨x5_1, x22_1, rfl, HA, HK1, HO_5, HB⟩ := hrel
          cases gk with
          | zero => exact absurd HA.out (by simp [impl_magLeft.l0])
          | succ k1 =>
            have H := HA.out
            clear HA
            simp only [impl_magLeft.l0] at H
            by_cases c9 : x22_1 < (l0.length : Int)
            · rw [if_pos c9] at H
              have c9b0 : decide (x22_1 < (l0.length : Int)) = true := decide_eq_true c9
              clear c9
              by_cases c10 : 0 ≤ x22_1
              · rw [if_pos c10] at H
                have c10b0 : decide (0 ≤ x22_1) = true := decide_eq_true c10
                clear c10
                by_cases c11 : x22_1 < (l0.length : Int)
                · rw [if_pos c11] at H
                  have c11b0 : decide (x22_1 < (l0.length : Int)) = true := decide_eq_true c11
                  clear c11
                  obtain ⟨ji12, hji12⟩ : ∃ j_ : Int, (Int.tmod a1 32) = j_ := ⟨_, rfl⟩
                  replace H : (if 0 ≤ (ji12) then (if 0 ≤ (wrap64 ((wrap64 (IntKind.u64.wrap (Int.tdiv a1 32))) + x22_1)) then (if (wrap64 ((wrap64 (IntKind.u64.wrap (Int.tdiv a1 32))) + x22_1)) < (x5_1.length : Int) then (if 0 ≤ (wrap64 ((wrap64 ((wrap64 (IntKind.u64.wrap (Int.tdiv a1 32))) + x22_1)) + 1)) then (if (wrap64 ((wrap64 ((wrap64 (IntKind.u64.wrap (Int.tdiv a1 32))) + x22_1)) + 1)) < (x5_1.length : Int) then (impl_magLeft.l0 k1 a1 ((x5_1.set ((wrap64 ((wrap64 (IntKind.u64.wrap (Int.tdiv a1 32))) + x22_1)) : Int).toNat (Go.bits .or .u32 (rd x5_1 (wrap64 ((wrap64 (IntKind.u64.wrap (Int.tdiv a1 32))) + x22_1))) ((shl .u64 (IntKind.u64.wrap (rd l0 x22_1)) (ji12)) % 4294967296))).set ((wrap64 ((wrap64 ((wrap64 (IntKind.u64.wrap (Int.tdiv a1 32))) + x22_1)) + 1)) : Int).toNat (((shl .u64 (IntKind.u64.wrap (rd l0 x22_1)) (ji12)) / 4294967296) % 4294967296)) l0 (l0.length : Int) (wrap64 (x22_1 + 1))) else (none)) else (none)) else (none)) else (none)) else (none)) = some r := by first | (rw [hji12] at H; exact H) | (simp only [hji12] at H ⊢; exact H)
                  by_cases c13 : 0 ≤ (ji12)
                  · rw [if_pos c13] at H
                    have c13b0 := eq_true c13
                    have c13b1 : decide (0 ≤ (ji12)) = true := decide_eq_true c13
                    clear c13
                    obtain ⟨ji14, hji14⟩ : ∃ j_ : Int, (shl .u64 (IntKind.u64.wrap (rd l0 x22_1)) (ji12)) = j_ := ⟨_, rfl⟩
                    replace H : (if 0 ≤ (wrap64 ((wrap64 (IntKind.u64.wrap (Int.tdiv a1 32))) + x22_1)) then (if (wrap64 ((wrap64 (IntKind.u64.wrap (Int.tdiv a1 32))) + x22_1)) < (x5_1.length : Int) then (if 0 ≤ (wrap64 ((wrap64 ((wrap64 (IntKind.u64.wrap (Int.tdiv a1 32))) + x22_1)) + 1)) then (if (wrap64 ((wrap64 ((wrap64 (IntKind.u64.wrap (Int.tdiv a1 32))) + x22_1)) + 1)) < (x5_1.length : Int) then (impl_magLeft.l0 k1 a1 ((x5_1.set ((wrap64 ((wrap64 (IntKind.u64.wrap (Int.tdiv a1 32))) + x22_1)) : Int).toNat (Go.bits .or .u32 (rd x5_1 (wrap64 ((wrap64 (IntKind.u64.wrap (Int.tdiv a1 32))) + x22_1))) ((ji14) % 4294967296))).set ((wrap64 ((wrap64 ((wrap64 (IntKind.u64.wrap (Int.tdiv a1 32))) + x22_1)) + 1)) : Int).toNat (((ji14) / 4294967296) % 4294967296)) l0 (l0.length : Int) (wrap64 (x22_1 + 1))) else (none)) else (none)) else (none)) else (none)) = some r := by first | (rw [hji14] at H; exact H) | (simp only [hji14] at H ⊢; exact H)
                    have hji14_ : (IntKind.u64.wrap ((IntKind.u64.wrap (rd l0 x22_1)) * 2 ^ min (ji12).toNat 64)) = ji14 := hji14
                    have hji14z : (ji12) ≤ 64 → (IntKind.u64.wrap ((IntKind.u64.wrap (rd l0 x22_1)) * 2 ^ (ji12).toNat)) = ji14 := shl_small hji14
                    obtain ⟨ji15, hji15⟩ : ∃ j_ : Int, (wrap64 ((wrap64 (IntKind.u64.wrap (Int.tdiv a1 32))) + x22_1)) = j_ := ⟨_, rfl⟩
                    replace H : (if 0 ≤ (ji15) then (if (ji15) < (x5_1.length : Int) then (if 0 ≤ (wrap64 ((ji15) + 1)) then (if (wrap64 ((ji15) + 1)) < (x5_1.length : Int) then (impl_magLeft.l0 k1 a1 ((x5_1.set ((ji15) : Int).toNat (Go.bits .or .u32 (rd x5_1 (ji15)) ((ji14) % 4294967296))).set ((wrap64 ((ji15) + 1)) : Int).toNat (((ji14) / 4294967296) % 4294967296)) l0 (l0.length : Int) (wrap64 (x22_1 + 1))) else (none)) else (none)) else (none)) else (none)) = some r := by first | (rw [hji15] at H; exact H) | (simp only [hji15] at H ⊢; exact H)
                    have hji15w : (IntKind.i64.wrap ((wrap64 (IntKind.u64.wrap (Int.tdiv a1 32))) + x22_1)) = ji15 := (i64_w _).trans hji15
                    by_cases c16 : 0 ≤ (ji15)
                    · rw [if_pos c16] at H
                      have c16b0 : decide (0 ≤ (ji15)) = true := decide_eq_true c16
                      clear c16
                      by_cases c17 : (ji15) < (x5_1.length : Int)
                      · rw [if_pos c17] at H
                        have c17b0 : decide ((ji15) < (x5_1.length : Int)) = true := decide_eq_true c17
                        clear c17
                        obtain ⟨y336, hy336⟩ : ∃ y_ : List Int, y_ = (x5_1.set ((ji15) : Int).toNat (Go.bits .or .u32 (rd x5_1 (ji15)) ((ji14) % 4294967296))) := ⟨_, rfl⟩
                        replace H : (if 0 ≤ (wrap64 ((ji15) + 1)) then (if (wrap64 ((ji15) + 1)) < (x5_1.length : Int) then (impl_magLeft.l0 k1 a1 (y336.set ((wrap64 ((ji15) + 1)) : Int).toNat (((ji14) / 4294967296) % 4294967296)) l0 (l0.length : Int) (wrap64 (x22_1 + 1))) else (none)) else (none)) = some r := by first | (rw [hy336]; with_reducible exact H) | (have H2_ := (Option.bind_some _ _).symm.trans H; rw [hy336]; with_reducible exact H2_) | (have H2_ := (Option.bind_some _ _).symm.trans H; with_reducible exact H2_) | with_reducible exact H | (rw [hy336]; exact H) | exact H
                        have Ny336 := Aside0.mk hy336
                        clear hy336
                        obtain ⟨ji19, hji19⟩ : ∃ j_ : Int, (wrap64 ((ji15) + 1)) = j_ := ⟨_, rfl⟩
                        replace H : (if 0 ≤ (ji19) then (if (ji19) < (x5_1.length : Int) then (impl_magLeft.l0 k1 a1 (y336.set ((ji19) : Int).toNat (((ji14) / 4294967296) % 4294967296)) l0 (l0.length : Int) (wrap64 (x22_1 + 1))) else (none)) else (none)) = some r := by first | (rw [hji19] at H; exact H) | (simp only [hji19] at H ⊢; exact H)
                        have hji19w : (IntKind.i64.wrap ((ji15) + 1)) = ji19 := (i64_w _).trans hji19
                        by_cases c20 : 0 ≤ (ji19)
                        · rw [if_pos c20] at H
                          have c20b0 : decide (0 ≤ (ji19)) = true := decide_eq_true c20
                          clear c20
                          by_cases c21 : (ji19) < (x5_1.length : Int)
                          · rw [if_pos c21] at H
                            have c21b0 : decide ((ji19) < (x5_1.length : Int)) = true := decide_eq_true c21
                            clear c21
                            obtain ⟨y337, hy337⟩ : ∃ y_ : List Int, y_ = (y336.set ((ji19) : Int).toNat (((ji14) / 4294967296) % 4294967296)) := ⟨_, rfl⟩
                            replace H : (impl_magLeft.l0 k1 a1 y337 l0 (l0.length : Int) (wrap64 (x22_1 + 1))) = some r := by first | (rw [hy337]; with_reducible exact H) | (have H2_ := (Option.bind_some _ _).symm.trans H; rw [hy337]; with_reducible exact H2_) | (have H2_ := (Option.bind_some _ _).symm.trans H; with_reducible exact H2_) | with_reducible exact H | (rw [hy337]; exact H) | exact H
                            have Ny337 := Aside0.mk hy337
                            clear hy337
                            have H' := Aside0.mk H
                            clear H
                            have p334 : 0 ≤ (x22_1 : Int) := of_decide_eq_true (by first | (with_reducible assumption) | assumption)
                            have q334 : x22_1 < (l0.length : Int) := of_decide_eq_true (by first | (with_reducible assumption) | assumption)
                            obtain ⟨ad334, e334, hx334_0⟩ := Kd.at_int HR0.out x22_1 p334 q334
                            cases e334
                            replace hx334_0 := (HB.out.cell (World.block_lt_of_cell? w _ hx334_0)).trans hx334_0
                            replace p334 := eq_true p334
                            replace q334 := eq_true q334
                            obtain ⟨Ao23, co23, eo23⟩ := Kd.R_slice HO_5.out
                            subst eo23
                            have p335 : 0 ≤ ((ji15) : Int) := of_decide_eq_true (by first | (with_reducible assumption) | assumption)
                            have q335 : (ji15) < (x5_1.length : Int) := of_decide_eq_true (by first | (with_reducible assumption) | assumption)
                            obtain ⟨ad335, e335, hx335_0⟩ := Kd.at_int (Kd.R_reads' HO_5.out).2.2 (ji15) p335 q335
                            cases e335
                            replace p335 := eq_true p335
                            replace q335 := eq_true q335
                            have p18 : 0 ≤ ((ji15) : Int) := of_decide_eq_true (by first | (with_reducible assumption) | assumption)
                            have q18 : ((ji15) : Int) < ((x5_1.length : Int) : Int) := of_decide_eq_true (by first | (with_reducible assumption) | assumption)
                            obtain ⟨go18, co18, eo18, gb18, gl18, cl18, HG18⟩ := Kd.R_form HO_5.out (by omega)
                            (first | cases eo18 | (injection eo18 with ea_ en_ ec_; (first | subst ea_ | (injection ea_ with ea_; subst ea_)); subst ec_; clear en_))
                            have GB18 := Aside0.mk gb18
                            have GG18 := Aside0.mk HG18
                            clear gb18 gl18 HG18
                            (first | simp only [add_plain] at hx335_0 | skip)
                            obtain ⟨hx18_0, hf18_0⟩ := Kd.R_celln 0 HO_5.out ((ji15) : Int) p18 q18
                            replace p18 := eq_true p18
                            replace q18 := eq_true q18
                            have HP24 := Kd.R_putg HO_5.out ((ji15) : Int) (Go.bits .or .u32 (rd x5_1 (ji15)) ((ji14) % 4294967296))
                            go_wp2_with (first | ((with_reducible refine gate_store (t := 94) (p := 43) rfl ?_); refine store_event (t := 94) (p := 43) (v := ?vo_w25) (w1 := (wr.setCell ⟨go18, ((ji15) : Int).toNat, none⟩ (.int .u32 (Go.bits .or .u32 (rd x5_1 (ji15)) ((ji14) % 4294967296))))) ?hg ?ho ?hn ?hr ?_; (case ho => rfl); (case hg => rfl); (case hn => rfl); (case hr => first | (go_simp; done) | (go_simp; rfl)); intro w25 hw; have hg : wr.grownBy w25 (some go18) := (by rw [hw]; exact HP24.2); have hp_ : Kd.R (Kd.int .u32) 94 w25 w.heap.size (fun k_ => (w.heap.size ≤ k_)) (.slice (some ⟨go18, 0, none⟩) x5_1.length co23) y336 := (by rw [hw, Ny336.out]; exact HP24.1); clear HP24; have n0_ := Aside0.mk (hp_); have n1_ := Aside0.mk ((by rw [hw]; exact below_set (HB.out) GB18.out : Below w.heap.size w w25)); clear HO_5; clear HB; have HO_5 := n0_; have HB := n1_; clear n0_ n1_; clear hg hw hp_; have p22 : 0 ≤ ((ji19) : Int) := of_decide_eq_true (by first | (with_reducible assumption) | assumption); have q22 : ((ji19) : Int) < ((x5_1.length : Int) : Int) := of_decide_eq_true (by first | (with_reducible assumption) | assumption); obtain ⟨hx22_0, hf22_0⟩ := Kd.R_celln 0 HO_5.out ((ji19) : Int) p22 q22; replace p22 := eq_true p22; replace q22 := eq_true q22; obtain ⟨hy26_, hz26_⟩ := Kd.R_celln 0 HO_5.out ((ji19) : Int) (of_decide_eq_true (by first | (with_reducible assumption) | assumption)) (of_decide_eq_true (by first | (with_reducible assumption) | assumption)); have HP26 := Kd.R_putg HO_5.out ((ji19) : Int) (((ji14) / 4294967296) % 4294967296)) | ((with_reducible refine gate_store (t := 94) (p := 54) rfl ?_); refine store_event (t := 94) (p := 54) (v := ?vo_w27) (w1 := (w25.setCell ⟨go18, ((ji19) : Int).toNat, none⟩ (.int .u32 (((ji14) / 4294967296) % 4294967296)))) ?hg ?ho ?hn ?hr ?_; (case ho => rfl); (case hg => rfl); (case hn => rfl); (case hr => first | (go_simp; done) | (go_simp; rfl)); intro w27 hw; have hg : w25.grownBy w27 (some go18) := (by rw [hw]; exact HP26.2); have hp_ : Kd.R (Kd.int .u32) 94 w27 w.heap.size (fun k_ => (w.heap.size ≤ k_)) (.slice (some ⟨go18, 0, none⟩) x5_1.length co23) y337 := (by rw [hw, Ny337.out]; exact HP26.1); clear HP26; have n0_ := Aside0.mk (hp_); have n1_ := Aside0.mk ((by rw [hw]; exact below_set (HB.out) GB18.out : Below w.heap.size w w27)); clear HO_5; clear HB; have HO_5 := n0_; have HB := n1_; clear n0_ n1_; clear hg hw hp_))
                            go_roundg k1
                            case measure => have := HK1.out; omega
                            case rel => exact ⟨(y337), (wrap64 (x22_1 + 1)), (by first | rfl | (simp; done) | (simp [*]; done)), H', ⟨by have := HK1.out; omega⟩, ⟨by (with_reducible repeat (first | apply Kd.R_alloc | apply Kd.R_drewN | apply Kd.R_drew)); exact HO_5.out⟩, ⟨by repeat (first | (with_reducible first | exact HB.out | apply below_alloc | apply pw_below_drewN | apply below_drew1) | exact HB.out)⟩⟩
                          · rw [if_neg c21] at H
                            exact absurd H (by simp)
                        · rw [if_neg c20] at H
                          exact absurd H (by simp)
                      · rw [if_neg c17] at H
                        exact absurd H (by simp)
                    · rw [if_neg c16] at H
                      exact absurd H (by simp)
                  · rw [if_neg c13] at H
                    exact absurd H (by simp)
                · rw [if_neg c11] at H
                  exact absurd H (by simp)
              · rw [if_neg c10] at H
                exact absurd H (by simp)
            · rw [if_neg c9] at H
              have c9b0 : decide (x22_1 < (l0.length : Int)) = false := decide_eq_false c9
              clear c9
              replace H := Option.bind_eq_some_iff.mp H
              obtain ⟨t338, A280, H⟩ := H
              replace H : (some t338) = some r := H
              have A28 := Aside0.mk A280
              clear A280
              obtain rfl := Option.some.inj H
              obtain ⟨Ao29, co29, eo29⟩ := Kd.R_slice HO_5.out
              subst eo29
              go_wp2_with (first | ((with_reducible refine gate_callee (f := 75) rfl ?_); refine goesL_ (some 57) rfl rfl Try.func75 (by kernel_rfl) rfl #[.slice Ao29 x5_1.length co29] rfl (by (try simp only [List.map_toArray, List.map_cons, List.map_nil]); first | done | rfl | (simp only [List.length_drop, List.length_take]; rfl)) ?_; (with_reducible refine (impl_magTrim.calls k1 (fun k_ => some k_ = (.slice Ao29 x5_1.length co29 : Value).ownBlock) _ _ x5_1 t338 _ ?side1 A28.out).mono ?_); (case side1 => exact Kd.R_V (Kd.R_tight rfl (HO_5.out))); rintro e w30 ⟨v339, rfl, ho0, hb⟩; refine ⟨_, rfl, ?_⟩; have n0_ := Aside0.mk (Kd.R_below (by (with_reducible repeat (first | apply Kd.R_alloc | apply Kd.R_drewN | apply Kd.R_drew)); exact HO_5.out) hb); have n1_ := Aside0.mk (Kd.V_lower (Kd.V_mono (ok' := fun k_ => (w.heap.size ≤ k_)) ho0 (fun k_ hk_ => Or.elim hk_ (fun hs_ => ((HO_5.out).1 k_ hs_.symm)) (fun hn_ => (Nat.le_trans (below_size (by repeat (first | (with_reducible first | exact HB.out | apply below_alloc | apply pw_below_drewN | apply below_drew1) | exact HB.out))) hn_)))) (below_size (by repeat (first | (with_reducible first | exact HB.out | apply below_alloc | apply pw_below_drewN | apply below_drew1) | exact HB.out)))); have n2_ := Aside0.mk (below_step (by repeat (first | (with_reducible first | exact HB.out | apply below_alloc | apply pw_below_drewN | apply below_drew1) | exact HB.out)) hb); clear HO_5; clear HB; have HO_5 := n0_; have HO340 := n1_; have HB := n2_; clear n0_ n1_ n2_; (try clear hb); (try clear hb2); (try clear hk); (try clear hi); (try clear ho0)))
              go_ret
              exact ⟨_, by first | rfl | (simp [errW_none, errW_some] <;> rfl) | (simp only [← hji4]; first | rfl | (simp [errW_none, errW_some] <;> rfl)) | (simp [*, errW_none, errW_some] <;> rfl), by (with_reducible repeat (first | apply Kd.V_alloc | apply Kd.V_drewN | apply Kd.V_drew)); exact HO340.out, by repeat (first | (with_reducible first | exact HB.out | apply below_alloc | apply pw_below_drewN | apply below_drew1) | exact HB.out)⟩
      · rw [if_neg c6] at H
        exact absurd H (by simp)
    · rw [if_neg c5] at H
      exact absurd H (by simp)
end Go.Proofs.Ythanlckjfghnkaa.PW
end
section
namespace Go.Proofs.Ythanlckjfghnkaa.PW
open Go.RowKit Go.Proofs.YthanlckjfghnkaaW.PrintWords Go.Proofs.YthanlckjfghnkaaW.PrintLast Go.Proofs.YthanlckjfghnkaaW.PrintMore
attribute [local go_sem] max2_int min2_int max_two min_two max_three min_three max_four min_four   -- for this text's walks alone
set_option linter.unusedVariables false
set_option linter.unusedSimpArgs false
def impl_magRight.l0 : Nat → List Int → Int → List Int → List Int → Int → Int → Option (List Int)
  | 0, _, _, _, _, _, _ => none
  | k + 1, x0, x1, x5, x22, x23, x24 => if x24 < x23 then (if 0 ≤ x24 then (if x24 < (x22.length : Int) then (if (wrap64 (x24 + 1)) < (x0.length : Int) then (if 0 ≤ (wrap64 (x24 + 1)) then (if 0 ≤ (Int.tmod x1 32) then (if x24 < (x5.length : Int) then (impl_magRight.l0 k x0 x1 (x5.set (x24 : Int).toNat ((shr .u64 (Go.bits .or .u64 (IntKind.u64.wrap (rd x22 x24)) (IntKind.u64.wrap ((IntKind.u64.wrap (rd x0 (wrap64 (x24 + 1)))) * 4294967296))) (Int.tmod x1 32)) % 4294967296)) x22 x23 (wrap64 (x24 + 1))) else (none)) else (none)) else (none)) else (if 0 ≤ (Int.tmod x1 32) then (if x24 < (x5.length : Int) then (impl_magRight.l0 k x0 x1 (x5.set (x24 : Int).toNat ((shr .u64 (IntKind.u64.wrap (rd x22 x24)) (Int.tmod x1 32)) % 4294967296)) x22 x23 (wrap64 (x24 + 1))) else (none)) else (none))) else (none)) else (none)) else ((impl_magTrim.f k x5).bind fun t311 => (some t311))
def impl_magRight.f (k : Nat) (l0 : List Int) (a1 : Int) : Option (List Int) := if (IntKind.u64.wrap ((l0.length : Int))) ≤ (IntKind.u64.wrap (Int.tdiv a1 32)) then (some ([] : List Int)) else (if 0 ≤ (IntKind.u64.wrap (Int.tdiv a1 32)) then (if (IntKind.u64.wrap (Int.tdiv a1 32)) ≤ (l0.length : Int) then (if 0 ≤ ((l0.drop ((IntKind.u64.wrap (Int.tdiv a1 32)) : Int).toNat).length : Int) then (if (((l0.drop ((IntKind.u64.wrap (Int.tdiv a1 32)) : Int).toNat).length : Int) : Int).toNat ≤ 70368744177664 then (impl_magRight.l0 k (l0.drop ((IntKind.u64.wrap (Int.tdiv a1 32)) : Int).toNat) a1 (List.replicate (((l0.drop ((IntKind.u64.wrap (Int.tdiv a1 32)) : Int).toNat).length : Int) : Int).toNat 0) (l0.drop ((IntKind.u64.wrap (Int.tdiv a1 32)) : Int).toNat) ((l0.drop ((IntKind.u64.wrap (Int.tdiv a1 32)) : Int).toNat).length : Int) 0) else (none)) else (none)) else (none)) else (none))
theorem impl_magRight.mono_l : ∀ k, (∀ y0 y1 y2 y3 y4 y5, LeO (impl_magRight.l0 k y0 y1 y2 y3 y4 y5) (impl_magRight.l0 (k + 1) y0 y1 y2 y3 y4 y5))
  | 0 => fun _ _ _ _ _ _ r h => by simp [impl_magRight.l0] at h
  | k + 1 => by
    have ih0 := impl_magRight.mono_l k
    · intro y0 y1 y2 y3 y4 y5
      unfold impl_magRight.l0
      repeat' first
      | (with_reducible exact ih0 _ _ _ _ _ _)
      | (with_reducible exact impl_magTrim.mono _ _)
      | (with_reducible exact LeO.refl _)
      | (with_reducible exact LeO.none _)
      | (with_reducible refine LeO.ite ?_ ?_)
      | (with_reducible refine LeO.bind ?_ (fun _ => ?_))
      | exact ih0 _ _ _ _ _ _
      | exact impl_magTrim.mono _ _
      | exact LeO.none _
      | refine LeO.ite ?_ ?_
      | refine LeO.bind ?_ (fun _ => ?_)
theorem impl_magRight.mono : ∀ a0 a1 k, LeO (impl_magRight.f k a0 a1) (impl_magRight.f (k + 1) a0 a1) := by
  intro a0 a1 k
  have ih0 := impl_magRight.mono_l k
  unfold impl_magRight.f
  repeat' first
      | (with_reducible exact ih0 _ _ _ _ _ _)
      | (with_reducible exact impl_magTrim.mono _ _)
      | (with_reducible exact LeO.refl _)
      | (with_reducible exact LeO.none _)
      | (with_reducible refine LeO.ite ?_ ?_)
      | (with_reducible refine LeO.bind ?_ (fun _ => ?_))
      | exact ih0 _ _ _ _ _ _
      | exact impl_magTrim.mono _ _
      | exact LeO.none _
      | refine LeO.ite ?_ ?_
      | refine LeO.bind ?_ (fun _ => ?_)
set_option maxHeartbeats 8000000 in
set_option maxRecDepth 100000 in
theorem impl_magRight.calls (k : Nat) (A0 : Option Addr) (c0 : Nat) (l0 : List Int) (a1 : Int) (r : List Int) (w : World) (hr0 : Kd.C (Kd.int .u32) w A0 l0.length l0) (hc0 : l0.length ≤ c0) (h : impl_magRight.f k l0 a1 = some r) :
    Calls Try.prog 91 #[.slice A0 l0.length c0, .int .u64 a1] w fun e w' => ∃ v0_ : Value, e = .returned (v0_) ∧ Kd.V (Kd.int .u32) 94 w' w.heap.size (fun k_ => (w.heap.size ≤ k_)) v0_ r ∧ Below w.heap.size w w' := by
  have HR0 := Aside0.mk hr0
  have HC0 := Aside0.mk hc0
  clear hr0 hc0
  have HB := Aside0.mk (Below.refl w.heap.size w)
  have H : (if (IntKind.u64.wrap ((l0.length : Int))) ≤ (IntKind.u64.wrap (Int.tdiv a1 32)) then (some ([] : List Int)) else (if 0 ≤ (IntKind.u64.wrap (Int.tdiv a1 32)) then (if (IntKind.u64.wrap (Int.tdiv a1 32)) ≤ (l0.length : Int) then (if 0 ≤ ((l0.drop ((IntKind.u64.wrap (Int.tdiv a1 32)) : Int).toNat).length : Int) then (if (((l0.drop ((IntKind.u64.wrap (Int.tdiv a1 32)) : Int).toNat).length : Int) : Int).toNat ≤ 70368744177664 then (impl_magRight.l0 k (l0.drop ((IntKind.u64.wrap (Int.tdiv a1 32)) : Int).toNat) a1 (List.replicate (((l0.drop ((IntKind.u64.wrap (Int.tdiv a1 32)) : Int).toNat).length : Int) : Int).toNat 0) (l0.drop ((IntKind.u64.wrap (Int.tdiv a1 32)) : Int).toNat) ((l0.drop ((IntKind.u64.wrap (Int.tdiv a1 32)) : Int).toNat).length : Int) 0) else (none)) else (none)) else (none)) else (none))) = some r := h
  clear h
  by_cases c3 : (IntKind.u64.wrap ((l0.length : Int))) ≤ (IntKind.u64.wrap (Int.tdiv a1 32))
  · rw [if_pos c3] at H
    have c3b0 : decide ((IntKind.u64.wrap ((l0.length : Int))) ≤ (IntKind.u64.wrap (Int.tdiv a1 32))) = true := decide_eq_true c3
    clear c3
    obtain rfl := Option.some.inj H
    go_enter Try.func91, Try.ntmps91
    go_wp2
    go_ret
    exact ⟨.slice none 0 0, by first | rfl | (simp [errW_none, errW_some] <;> rfl) | (simp [*, errW_none, errW_some] <;> rfl), Kd.V_nil _ _ _ _ _, by repeat (first | (with_reducible first | exact HB.out | apply below_alloc | apply pw_below_drewN | apply below_drew1) | exact HB.out)⟩
  · rw [if_neg c3] at H
    have c3b0 : decide ((IntKind.u64.wrap ((l0.length : Int))) ≤ (IntKind.u64.wrap (Int.tdiv a1 32))) = false := decide_eq_false c3
    clear c3
    obtain ⟨ji4, hji4⟩ : ∃ j_ : Int, (IntKind.u64.wrap (Int.tdiv a1 32)) = j_ := ⟨_, rfl⟩
    replace H : (if 0 ≤ (ji4) then (if (ji4) ≤ (l0.length : Int) then (if 0 ≤ ((l0.drop ((ji4) : Int).toNat).length : Int) then (if (((l0.drop ((ji4) : Int).toNat).length : Int) : Int).toNat ≤ 70368744177664 then (impl_magRight.l0 k (l0.drop ((ji4) : Int).toNat) a1 (List.replicate (((l0.drop ((ji4) : Int).toNat).length : Int) : Int).toNat 0) (l0.drop ((ji4) : Int).toNat) ((l0.drop ((ji4) : Int).toNat).length : Int) 0) else (none)) else (none)) else (none)) else (none)) = some r := by first | (rw [hji4] at H; exact H) | (simp only [hji4] at H ⊢; exact H)
    (try rw [hji4] at c3b0)
    by_cases c5 : 0 ≤ (ji4)
    · rw [if_pos c5] at H
      have c5b0 := eq_true c5
      have c5b1 : decide (0 ≤ (ji4)) = true := decide_eq_true c5
      clear c5
      by_cases c6 : (ji4) ≤ (l0.length : Int)
      · rw [if_pos c6] at H
        have c6b0 := eq_true c6
        have c6b1 : decide ((ji4) ≤ (l0.length : Int)) = true := decide_eq_true c6
        clear c6
        by_cases c7 : 0 ≤ ((l0.drop ((ji4) : Int).toNat).length : Int)
        · rw [if_pos c7] at H
          have c7b0 := eq_true c7
          have c7b1 : decide (0 ≤ ((l0.drop ((ji4) : Int).toNat).length : Int)) = true := decide_eq_true c7
          clear c7
          by_cases c8 : (((l0.drop ((ji4) : Int).toNat).length : Int) : Int).toNat ≤ 70368744177664
          · rw [if_pos c8] at H
            have c8b0 := eq_true c8
            have c8b1 : decide ((((l0.drop ((ji4) : Int).toNat).length : Int) : Int).toNat ≤ 70368744177664) = true := decide_eq_true c8
            clear c8
            obtain ⟨y304, hy304⟩ : ∃ y_ : List Int, y_ = (List.replicate (((l0.drop ((ji4) : Int).toNat).length : Int) : Int).toNat 0) := ⟨_, rfl⟩
            replace H : (impl_magRight.l0 k (l0.drop ((ji4) : Int).toNat) a1 y304 (l0.drop ((ji4) : Int).toNat) ((l0.drop ((ji4) : Int).toNat).length : Int) 0) = some r := by first | (rw [hy304]; with_reducible exact H) | (have H2_ := (Option.bind_some _ _).symm.trans H; rw [hy304]; with_reducible exact H2_) | (have H2_ := (Option.bind_some _ _).symm.trans H; with_reducible exact H2_) | with_reducible exact H | (rw [hy304]; exact H) | exact H
            have Ny304 := Aside0.mk hy304
            clear hy304
            have H' := Aside0.mk H
            clear H
            obtain ⟨i09, hi09, _, hsz9, _⟩ := info_parts info94
            obtain ⟨A9, hcut9, hA9, hC9⟩ := print_drop_of (P := Try.prog) (Value.int .u32) 0 55 94 .u64 Try.underlying55 hi09 hsz9 A0 c0 l0 (ji4) (of_decide_eq_true (by first | (with_reducible assumption) | assumption)) (of_decide_eq_true (by first | (with_reducible assumption) | assumption)) HC0.out
            have HR303 := Aside0.mk (Kd.C_of_reads (h1 := fun _ => rfl) (hA9 _ (Kd.reads_of_C HR0.out)))
            have HC303 := Aside0.mk hC9
            clear hA9 hC9 hi09 hsz9
            generalize hm0_ : l0.drop ((ji4) : Int).toNat = m0_ at *
            have Hm0_ := Aside0.mk hm0_
            clear hm0_
            go_enter Try.func91, Try.ntmps91
            go_wp2_with (first | ((with_reducible refine gate_dst (N := 21) rfl ?_); refine Kd.R_make (Kd.int .u32) _ 94 rfl (N := 21) rfl 55 _ _ rfl (m0_.length : Int) rfl rfl Try.underlying55 (.int .u32 0) 4 info94 rfl (by decide) (by omega) 0 (ok := fun _ => True) (okp := fun _ => True) rfl (fun _ hk => hk) trivial (of_decide_eq_true (by first | (with_reducible assumption) | assumption)) (Nat.le_trans (Nat.mul_le_mul_right _ (of_decide_eq_true (by first | (with_reducible assumption) | assumption) : (m0_.length : Int).toNat ≤ 70368744177664)) (by omega)) (Below.refl _ _) (Nat.le_refl _) ?_; intro v305 w10 ho11 hb hg_ hnew_; clear hg_ hnew_; (first | rw [← Ny304.out] at ho11 | (simp only [Int.reduceToNat] at ho11; rw [← Ny304.out] at ho11)); have n0_ := Aside0.mk (Kd.R_lower (Kd.R_newM (M := fun k_ => (w.heap.size ≤ k_)) ho11 (below_size (by repeat (first | (with_reducible first | exact HB.out | apply below_alloc | apply pw_below_drewN | apply below_drew1) | exact HB.out))) (fun k_ h_ => h_)) (below_size (by repeat (first | (with_reducible first | exact HB.out | apply below_alloc | apply pw_below_drewN | apply below_drew1) | exact HB.out)))); have n1_ := Aside0.mk (below_step (by repeat (first | (with_reducible first | exact HB.out | apply below_alloc | apply pw_below_drewN | apply below_drew1) | exact HB.out)) hb); clear HB; have HO306 := n0_; have HB := n1_; clear n0_ n1_; clear hb ho11))
            go_loopg [24] k (fun kq v24 w' => ∃ (x5_1 : List Int) (x24_1 : Int), v24 = .int .i64 x24_1 ∧ Aside0 (impl_magRight.l0 kq m0_ a1 x5_1 m0_ (m0_.length : Int) x24_1 = some r) ∧ Aside0 (kq ≤ k) ∧ Aside0 (Kd.R (Kd.int .u32) 94 w' w.heap.size (fun k_ => (w.heap.size ≤ k_)) v305 x5_1) ∧ Aside0 (Below w.heap.size w w'))
            case atStart => exact ⟨(y304), (0), (by first | rfl | (simp; done) | (simp [*]; done)), H', ⟨Nat.le_refl _⟩, ⟨by (with_reducible repeat (first | apply Kd.R_alloc | apply Kd.R_drewN | apply Kd.R_drew)); exact Kd.R_mono HO306.out (fun _ hk => hk.1)⟩, ⟨by repeat (first | (with_reducible first | exact HB.out | apply below_alloc | apply pw_below_drewN | apply below_drew1) | exact HB.out)⟩⟩
            case round =>
              clear H'
              try clear p2
              try clear c3
              try clear c3b0
              try clear c5
              try clear c5b0
              try clear c5b1
              try clear c6
              try clear c6b0
              try clear c6b1
              try clear c7
              try clear c7b0
              try clear c7b1
              try clear c8
              try clear c8b0
              try clear c8b1
              try clear c9
              obtain ⟨x5_1, x24_1, rfl, HA, HK1, HO_5, HB⟩ := hrel
              cases gk with
              | zero => exact absurd HA.out (by simp [impl_magRight.l0])
              | succ k1 =>
                have H := HA.out
                clear HA
                simp only [impl_magRight.l0] at H
                by_cases c12 : x24_1 < (m0_.length : Int)
                · rw [if_pos c12] at H
                  have c12b0 : decide (x24_1 < (m0_.length : Int)) = true := decide_eq_true c12
                  clear c12
                  by_cases c13 : 0 ≤ x24_1
                  · rw [if_pos c13] at H
                    have c13b0 : decide (0 ≤ x24_1) = true := decide_eq_true c13
                    clear c13
                    by_cases c14 : x24_1 < (m0_.length : Int)
                    · rw [if_pos c14] at H
                      have c14b0 : decide (x24_1 < (m0_.length : Int)) = true := decide_eq_true c14
                      clear c14
                      by_cases c15 : (wrap64 (x24_1 + 1)) < (m0_.length : Int)
                      · rw [if_pos c15] at H
                        have c15b0 : decide ((wrap64 (x24_1 + 1)) < (m0_.length : Int)) = true := decide_eq_true c15
                        clear c15
                        obtain ⟨ji16, hji16⟩ : ∃ j_ : Int, (wrap64 (x24_1 + 1)) = j_ := ⟨_, rfl⟩
                        replace H : (if 0 ≤ (ji16) then (if 0 ≤ (Int.tmod a1 32) then (if x24_1 < (x5_1.length : Int) then (impl_magRight.l0 k1 m0_ a1 (x5_1.set (x24_1 : Int).toNat ((shr .u64 (Go.bits .or .u64 (IntKind.u64.wrap (rd m0_ x24_1)) (IntKind.u64.wrap ((IntKind.u64.wrap (rd m0_ (ji16))) * 4294967296))) (Int.tmod a1 32)) % 4294967296)) m0_ (m0_.length : Int) ji16) else (none)) else (none)) else (none)) = some r := by first | (rw [hji16] at H; exact H) | (simp only [hji16] at H ⊢; exact H)
                        (try rw [hji16] at c15b0)
                        have hji16w : (IntKind.i64.wrap (x24_1 + 1)) = ji16 := (i64_w _).trans hji16
                        by_cases c17 : 0 ≤ (ji16)
                        · rw [if_pos c17] at H
                          have c17b0 : decide (0 ≤ (ji16)) = true := decide_eq_true c17
                          clear c17
                          obtain ⟨ji18, hji18⟩ : ∃ j_ : Int, (Int.tmod a1 32) = j_ := ⟨_, rfl⟩
                          replace H : (if 0 ≤ (ji18) then (if x24_1 < (x5_1.length : Int) then (impl_magRight.l0 k1 m0_ a1 (x5_1.set (x24_1 : Int).toNat ((shr .u64 (Go.bits .or .u64 (IntKind.u64.wrap (rd m0_ x24_1)) (IntKind.u64.wrap ((IntKind.u64.wrap (rd m0_ (ji16))) * 4294967296))) (ji18)) % 4294967296)) m0_ (m0_.length : Int) ji16) else (none)) else (none)) = some r := by first | (rw [hji18] at H; exact H) | (simp only [hji18] at H ⊢; exact H)
                          by_cases c19 : 0 ≤ (ji18)
                          · rw [if_pos c19] at H
                            have c19b0 := eq_true c19
                            have c19b1 : decide (0 ≤ (ji18)) = true := decide_eq_true c19
                            clear c19
                            obtain ⟨ji20, hji20⟩ : ∃ j_ : Int, (shr .u64 (Go.bits .or .u64 (IntKind.u64.wrap (rd m0_ x24_1)) (IntKind.u64.wrap ((IntKind.u64.wrap (rd m0_ (ji16))) * 4294967296))) (ji18)) = j_ := ⟨_, rfl⟩
                            replace H : (if x24_1 < (x5_1.length : Int) then (impl_magRight.l0 k1 m0_ a1 (x5_1.set (x24_1 : Int).toNat ((ji20) % 4294967296)) m0_ (m0_.length : Int) ji16) else (none)) = some r := by first | (rw [hji20] at H; exact H) | (simp only [hji20] at H ⊢; exact H)
                            have hji20_ : ((Go.bits .or .u64 (IntKind.u64.wrap (rd m0_ x24_1)) (IntKind.u64.wrap ((IntKind.u64.wrap (rd m0_ (ji16))) * 4294967296))) / 2 ^ min (ji18).toNat 64) = ji20 := hji20
                            have hji20z : (ji18) ≤ 64 → ((Go.bits .or .u64 (IntKind.u64.wrap (rd m0_ x24_1)) (IntKind.u64.wrap ((IntKind.u64.wrap (rd m0_ (ji16))) * 4294967296))) / 2 ^ (ji18).toNat) = ji20 := shr_small hji20
                            by_cases c21 : x24_1 < (x5_1.length : Int)
                            · rw [if_pos c21] at H
                              have c21b0 : decide (x24_1 < (x5_1.length : Int)) = true := decide_eq_true c21
                              clear c21
                              obtain ⟨y309, hy309⟩ : ∃ y_ : List Int, y_ = (x5_1.set (x24_1 : Int).toNat ((ji20) % 4294967296)) := ⟨_, rfl⟩
                              replace H : (impl_magRight.l0 k1 m0_ a1 y309 m0_ (m0_.length : Int) ji16) = some r := by first | (rw [hy309]; with_reducible exact H) | (have H2_ := (Option.bind_some _ _).symm.trans H; rw [hy309]; with_reducible exact H2_) | (have H2_ := (Option.bind_some _ _).symm.trans H; with_reducible exact H2_) | with_reducible exact H | (rw [hy309]; exact H) | exact H
                              have Ny309 := Aside0.mk hy309
                              clear hy309
                              have H' := Aside0.mk H
                              clear H
                              have p307 : 0 ≤ (x24_1 : Int) := of_decide_eq_true (by first | (with_reducible assumption) | assumption)
                              have q307 : x24_1 < (m0_.length : Int) := of_decide_eq_true (by first | (with_reducible assumption) | assumption)
                              obtain ⟨ad307, e307, hx307_0⟩ := Kd.at_int HR303.out x24_1 p307 q307
                              cases e307
                              replace hx307_0 := (HB.out.cell (World.block_lt_of_cell? w _ hx307_0)).trans hx307_0
                              replace p307 := eq_true p307
                              replace q307 := eq_true q307
                              have p308 : 0 ≤ ((ji16) : Int) := of_decide_eq_true (by first | (with_reducible assumption) | assumption)
                              have q308 : (ji16) < (m0_.length : Int) := of_decide_eq_true (by first | (with_reducible assumption) | assumption)
                              obtain ⟨ad308, e308, hx308_0⟩ := Kd.at_int HR303.out (ji16) p308 q308
                              obtain rfl : ad307 = ad308 := (by injection e308)
                              replace hx308_0 := (HB.out.cell (World.block_lt_of_cell? w _ hx308_0)).trans hx308_0
                              replace p308 := eq_true p308
                              replace q308 := eq_true q308
                              have p22 : 0 ≤ (x24_1 : Int) := of_decide_eq_true (by first | (with_reducible assumption) | assumption)
                              have q22 : (x24_1 : Int) < ((x5_1.length : Int) : Int) := of_decide_eq_true (by first | (with_reducible assumption) | assumption)
                              obtain ⟨go22, co22, eo22, gb22, gl22, cl22, HG22⟩ := Kd.R_form HO_5.out (by omega)
                              (first | cases eo22 | (injection eo22 with ea_ en_ ec_; (first | subst ea_ | (injection ea_ with ea_; subst ea_)); subst ec_; clear en_))
                              have GB22 := Aside0.mk gb22
                              have GG22 := Aside0.mk HG22
                              clear gb22 gl22 HG22
                              obtain ⟨hx22_0, hf22_0⟩ := Kd.R_celln 0 HO_5.out (x24_1 : Int) p22 q22
                              replace p22 := eq_true p22
                              replace q22 := eq_true q22
                              have HP23 := Kd.R_putg HO_5.out (x24_1 : Int) ((ji20) % 4294967296)
                              go_wp2_with (first | ((with_reducible refine gate_store (t := 94) (p := 52) rfl ?_); refine store_event (t := 94) (p := 52) (v := ?vo_w24) (w1 := (wr.setCell ⟨go22, (x24_1 : Int).toNat, none⟩ (.int .u32 ((ji20) % 4294967296)))) ?hg ?ho ?hn ?hr ?_; (case ho => rfl); (case hg => rfl); (case hn => rfl); (case hr => first | (go_simp; done) | (go_simp; rfl)); intro w24 hw; have hg : wr.grownBy w24 (some go22) := (by rw [hw]; exact HP23.2); have hp_ : Kd.R (Kd.int .u32) 94 w24 w.heap.size (fun k_ => (w.heap.size ≤ k_)) (.slice (some ⟨go22, 0, none⟩) x5_1.length co22) y309 := (by rw [hw, Ny309.out]; exact HP23.1); clear HP23; have n0_ := Aside0.mk (hp_); have n1_ := Aside0.mk ((by rw [hw]; exact below_set (HB.out) GB22.out : Below w.heap.size w w24)); clear HO_5; clear HB; have HO_5 := n0_; have HB := n1_; clear n0_ n1_; clear hg hw hp_))
                              go_roundg k1
                              case measure => have := HK1.out; omega
                              case rel => exact ⟨(y309), (ji16), (by first | rfl | (simp; done) | (simp only [← hji16] <;> (first | rfl | simp)) | (simp [*]; done)), H', ⟨by have := HK1.out; omega⟩, ⟨by (with_reducible repeat (first | apply Kd.R_alloc | apply Kd.R_drewN | apply Kd.R_drew)); exact HO_5.out⟩, ⟨by repeat (first | (with_reducible first | exact HB.out | apply below_alloc | apply pw_below_drewN | apply below_drew1) | exact HB.out)⟩⟩
                            · rw [if_neg c21] at H
                              exact absurd H (by simp)
                          · rw [if_neg c19] at H
                            exact absurd H (by simp)
                        · rw [if_neg c17] at H
                          exact absurd H (by simp)
                      · rw [if_neg c15] at H
                        have c15b0 : decide ((wrap64 (x24_1 + 1)) < (m0_.length : Int)) = false := decide_eq_false c15
                        clear c15
                        obtain ⟨ji25, hji25⟩ : ∃ j_ : Int, (Int.tmod a1 32) = j_ := ⟨_, rfl⟩
                        replace H : (if 0 ≤ (ji25) then (if x24_1 < (x5_1.length : Int) then (impl_magRight.l0 k1 m0_ a1 (x5_1.set (x24_1 : Int).toNat ((shr .u64 (IntKind.u64.wrap (rd m0_ x24_1)) (ji25)) % 4294967296)) m0_ (m0_.length : Int) (wrap64 (x24_1 + 1))) else (none)) else (none)) = some r := by first | (rw [hji25] at H; exact H) | (simp only [hji25] at H ⊢; exact H)
                        by_cases c26 : 0 ≤ (ji25)
                        · rw [if_pos c26] at H
                          have c26b0 := eq_true c26
                          have c26b1 : decide (0 ≤ (ji25)) = true := decide_eq_true c26
                          clear c26
                          obtain ⟨ji27, hji27⟩ : ∃ j_ : Int, (shr .u64 (IntKind.u64.wrap (rd m0_ x24_1)) (ji25)) = j_ := ⟨_, rfl⟩
                          replace H : (if x24_1 < (x5_1.length : Int) then (impl_magRight.l0 k1 m0_ a1 (x5_1.set (x24_1 : Int).toNat ((ji27) % 4294967296)) m0_ (m0_.length : Int) (wrap64 (x24_1 + 1))) else (none)) = some r := by first | (rw [hji27] at H; exact H) | (simp only [hji27] at H ⊢; exact H)
                          have hji27_ : ((IntKind.u64.wrap (rd m0_ x24_1)) / 2 ^ min (ji25).toNat 64) = ji27 := hji27
                          have hji27z : (ji25) ≤ 64 → ((IntKind.u64.wrap (rd m0_ x24_1)) / 2 ^ (ji25).toNat) = ji27 := shr_small hji27
                          by_cases c28 : x24_1 < (x5_1.length : Int)
                          · rw [if_pos c28] at H
                            have c28b0 : decide (x24_1 < (x5_1.length : Int)) = true := decide_eq_true c28
                            clear c28
                            obtain ⟨y310, hy310⟩ : ∃ y_ : List Int, y_ = (x5_1.set (x24_1 : Int).toNat ((ji27) % 4294967296)) := ⟨_, rfl⟩
                            replace H : (impl_magRight.l0 k1 m0_ a1 y310 m0_ (m0_.length : Int) (wrap64 (x24_1 + 1))) = some r := by first | (rw [hy310]; with_reducible exact H) | (have H2_ := (Option.bind_some _ _).symm.trans H; rw [hy310]; with_reducible exact H2_) | (have H2_ := (Option.bind_some _ _).symm.trans H; with_reducible exact H2_) | with_reducible exact H | (rw [hy310]; exact H) | exact H
                            have Ny310 := Aside0.mk hy310
                            clear hy310
                            have H' := Aside0.mk H
                            clear H
                            have p307 : 0 ≤ (x24_1 : Int) := of_decide_eq_true (by first | (with_reducible assumption) | assumption)
                            have q307 : x24_1 < (m0_.length : Int) := of_decide_eq_true (by first | (with_reducible assumption) | assumption)
                            obtain ⟨ad307, e307, hx307_0⟩ := Kd.at_int HR303.out x24_1 p307 q307
                            cases e307
                            replace hx307_0 := (HB.out.cell (World.block_lt_of_cell? w _ hx307_0)).trans hx307_0
                            replace p307 := eq_true p307
                            replace q307 := eq_true q307
                            have p29 : 0 ≤ (x24_1 : Int) := of_decide_eq_true (by first | (with_reducible assumption) | assumption)
                            have q29 : (x24_1 : Int) < ((x5_1.length : Int) : Int) := of_decide_eq_true (by first | (with_reducible assumption) | assumption)
                            obtain ⟨go29, co29, eo29, gb29, gl29, cl29, HG29⟩ := Kd.R_form HO_5.out (by omega)
                            (first | cases eo29 | (injection eo29 with ea_ en_ ec_; (first | subst ea_ | (injection ea_ with ea_; subst ea_)); subst ec_; clear en_))
                            have GB29 := Aside0.mk gb29
                            have GG29 := Aside0.mk HG29
                            clear gb29 gl29 HG29
                            obtain ⟨hx29_0, hf29_0⟩ := Kd.R_celln 0 HO_5.out (x24_1 : Int) p29 q29
                            replace p29 := eq_true p29
                            replace q29 := eq_true q29
                            have HP30 := Kd.R_putg HO_5.out (x24_1 : Int) ((ji27) % 4294967296)
                            go_wp2_with (first | ((with_reducible refine gate_store (t := 94) (p := 52) rfl ?_); refine store_event (t := 94) (p := 52) (v := ?vo_w31) (w1 := (wr.setCell ⟨go29, (x24_1 : Int).toNat, none⟩ (.int .u32 ((ji27) % 4294967296)))) ?hg ?ho ?hn ?hr ?_; (case ho => rfl); (case hg => rfl); (case hn => rfl); (case hr => first | (go_simp; done) | (go_simp; rfl)); intro w31 hw; have hg : wr.grownBy w31 (some go29) := (by rw [hw]; exact HP30.2); have hp_ : Kd.R (Kd.int .u32) 94 w31 w.heap.size (fun k_ => (w.heap.size ≤ k_)) (.slice (some ⟨go29, 0, none⟩) x5_1.length co29) y310 := (by rw [hw, Ny310.out]; exact HP30.1); clear HP30; have n0_ := Aside0.mk (hp_); have n1_ := Aside0.mk ((by rw [hw]; exact below_set (HB.out) GB29.out : Below w.heap.size w w31)); clear HO_5; clear HB; have HO_5 := n0_; have HB := n1_; clear n0_ n1_; clear hg hw hp_))
                            go_roundg k1
                            case measure => have := HK1.out; omega
                            case rel => exact ⟨(y310), (wrap64 (x24_1 + 1)), (by first | rfl | (simp; done) | (simp [*]; done)), H', ⟨by have := HK1.out; omega⟩, ⟨by (with_reducible repeat (first | apply Kd.R_alloc | apply Kd.R_drewN | apply Kd.R_drew)); exact HO_5.out⟩, ⟨by repeat (first | (with_reducible first | exact HB.out | apply below_alloc | apply pw_below_drewN | apply below_drew1) | exact HB.out)⟩⟩
                          · rw [if_neg c28] at H
                            exact absurd H (by simp)
                        · rw [if_neg c26] at H
                          exact absurd H (by simp)
                    · rw [if_neg c14] at H
                      exact absurd H (by simp)
                  · rw [if_neg c13] at H
                    exact absurd H (by simp)
                · rw [if_neg c12] at H
                  have c12b0 : decide (x24_1 < (m0_.length : Int)) = false := decide_eq_false c12
                  clear c12
                  replace H := Option.bind_eq_some_iff.mp H
                  obtain ⟨t311, A320, H⟩ := H
                  replace H : (some t311) = some r := H
                  have A32 := Aside0.mk A320
                  clear A320
                  obtain rfl := Option.some.inj H
                  obtain ⟨Ao33, co33, eo33⟩ := Kd.R_slice HO_5.out
                  subst eo33
                  go_wp2_with (first | ((with_reducible refine gate_callee (f := 75) rfl ?_); refine goesL_ (some 55) rfl rfl Try.func75 (by kernel_rfl) rfl #[.slice Ao33 x5_1.length co33] rfl (by (try simp only [List.map_toArray, List.map_cons, List.map_nil]); first | done | rfl | (simp only [List.length_drop, List.length_take]; rfl)) ?_; (with_reducible refine (impl_magTrim.calls k1 (fun k_ => some k_ = (.slice Ao33 x5_1.length co33 : Value).ownBlock) _ _ x5_1 t311 _ ?side1 A32.out).mono ?_); (case side1 => exact Kd.R_V (Kd.R_tight rfl (HO_5.out))); rintro e w34 ⟨v312, rfl, ho0, hb⟩; refine ⟨_, rfl, ?_⟩; have n0_ := Aside0.mk (Kd.R_below (by (with_reducible repeat (first | apply Kd.R_alloc | apply Kd.R_drewN | apply Kd.R_drew)); exact HO_5.out) hb); have n1_ := Aside0.mk (Kd.V_lower (Kd.V_mono (ok' := fun k_ => (w.heap.size ≤ k_)) ho0 (fun k_ hk_ => Or.elim hk_ (fun hs_ => ((HO_5.out).1 k_ hs_.symm)) (fun hn_ => (Nat.le_trans (below_size (by repeat (first | (with_reducible first | exact HB.out | apply below_alloc | apply pw_below_drewN | apply below_drew1) | exact HB.out))) hn_)))) (below_size (by repeat (first | (with_reducible first | exact HB.out | apply below_alloc | apply pw_below_drewN | apply below_drew1) | exact HB.out)))); have n2_ := Aside0.mk (below_step (by repeat (first | (with_reducible first | exact HB.out | apply below_alloc | apply pw_below_drewN | apply below_drew1) | exact HB.out)) hb); clear HO_5; clear HB; have HO_5 := n0_; have HO313 := n1_; have HB := n2_; clear n0_ n1_ n2_; (try clear hb); (try clear hb2); (try clear hk); (try clear hi); (try clear ho0)))
                  go_ret
                  exact ⟨_, by first | rfl | (simp [errW_none, errW_some] <;> rfl) | (simp only [← hji4]; first | rfl | (simp [errW_none, errW_some] <;> rfl)) | (simp [*, errW_none, errW_some] <;> rfl), by (with_reducible repeat (first | apply Kd.V_alloc | apply Kd.V_drewN | apply Kd.V_drew)); exact HO313.out, by repeat (first | (with_reducible first | exact HB.out | apply below_alloc | apply pw_below_drewN | apply below_drew1) | exact HB.out)⟩
          · rw [if_neg c8] at H
            exact absurd H (by simp)
        · rw [if_neg c7] at H
          exact absurd H (by simp)
      · rw [if_neg c6] at H
        exact absurd H (by simp)
    · rw [if_neg c5] at H
      exact absurd H (by simp)
end Go.Proofs.Ythanlckjfghnkaa.PW
end
section
namespace Go.Proofs.Ythanlckjfghnkaa.Pn
open Go.RowKit Go.Proofs.YthanlckjfghnkaaW.PrintWords Go.Proofs.YthanlckjfghnkaaW.PrintMore Go.Proofs.Ythanlckjfghnkaa.PW Go.Proofs.Ythanlckjfghnkaa.Pc Dg
set_option linter.unusedVariables false
set_option linter.unusedSimpArgs false
theorem u64_id {n : Int} (h0 : 0 ≤ n) (h1 : n < 18446744073709551616) : IntKind.u64.wrap n = n := by rw [IntKind.wrap_u64]; omega
theorem trimD {ys : List Int} {n : Nat} (hd : Dig 4294967296 ys) (hl : ys.length ≤ 1099511627776) (hv : val 4294967296 ys = n) : Ev (fun k => (impl_magTrim.f k ys).bind fun t => some t) (D n) := by
  have := Pm.trim _ ys rfl hd hl
  rw [hv, Int.toNat_natCast] at this
  exact Ev.bind (f := fun _ t => some t) this (ev_of fun _ => rfl)
theorem add_loop (a b : List Int) (ha : Dig 4294967296 a) (hb : Dig 4294967296 b) (hab : b.length ≤ a.length) (hm : a.length ≤ 1073741824) (s : Nat) (hs : val 4294967296 a + val 4294967296 b = s) (d : Nat) :
    ∀ (i : Nat) (ys : List Int) (c : Int), i + d = a.length → ys.length = a.length + 1 → Dig 4294967296 ys → 0 ≤ c → c ≤ 1 →
      val 4294967296 (ys.take i) + 4294967296 ^ i * c = val 4294967296 (a.take i) + val 4294967296 (b.take i) →
      Ev (fun k => impl_magAdd.l0 k a b ys c a (a.length : Int) (i : Int)) (D s) := by
  induction d with
  | zero =>
    intro i ys c hd hy hdy hc0 hc1 hinv
    have hi : i = a.length := by omega
    subst hi
    have hdig : Dig 4294967296 (ys.set a.length c) := hdy.set _ hc0 (by omega)
    have hval : val 4294967296 (ys.set a.length c) = s := by
      have h1 := val_set_take (B := 4294967296) (l := ys) (i := a.length) (by omega) c
      rw [List.take_of_length_le (by simp <;> omega)] at h1
      rw [h1]
      rw [List.take_length, val_take_ge hab, hs] at hinv
      exact hinv
    refine Ev.step (f := fun k => (impl_magTrim.f k (ys.set a.length c)).bind fun t => some t) (fun k => ?_) (trimD hdig (by simp <;> omega) hval)
    simp only [impl_magAdd.l0]
    rw [if_neg (by omega), if_pos (by omega), if_pos (by omega), Int.toNat_natCast, show c % 4294967296 = c by omega]
  | succ d ih =>
    intro i ys c hd hy hdy hc0 hc1 hinv
    have hai := ha.all0 (by decide) i
    have hbi := hb.all0 (by decide) i
    obtain ⟨x, hx⟩ : ∃ x, x = a.getD i 0 + b.getD i 0 + c := ⟨_, rfl⟩
    have hx0 : 0 ≤ x := by omega
    have hx1 : x ≤ 8589934591 := by omega
    have hstep := Ev.step (g := fun k => impl_magAdd.l0 k a b ys c a (a.length : Int) (i : Int)) (f := fun k => impl_magAdd.l0 k a b (ys.set i (x % 4294967296)) (x / 4294967296) a (a.length : Int) ((i + 1 : Nat) : Int)) (fun k => ?_)
      (ih (i + 1) _ (x / 4294967296) (by omega) (by simpa using hy) (hdy.set _ (by omega) (by omega)) (by omega) (by omega) ?_)
    · exact hstep
    · simp only [impl_magAdd.l0]
      rw [if_pos (by omega), if_pos (by omega), if_pos (by omega), rdN, rdN, wrapZ _ (by omega) (by omega)]
      by_cases hib : i < b.length
      · rw [if_pos (by omega), if_pos (by omega), u64_id (n := a.getD i 0) (by omega) (by omega), u64_id (n := c + _) (by omega) (by omega), u64_id (n := b.getD i 0) (by omega) (by omega), u64_id (by omega) (by omega)]
        rw [show c + a.getD i 0 + b.getD i 0 = x by omega]
        rfl
      · have hb0 : b.getD i 0 = 0 := getD_ge (by omega)
        rw [if_neg (by omega), if_pos (by omega), u64_id (n := a.getD i 0) (by omega) (by omega), u64_id (n := c + _) (by omega) (by omega)]
        rw [show c + a.getD i 0 = x by omega]
        rfl
    · rw [val_set_take (by omega), val_take_succ' a i, val_take_succ' b i]
      have := add_step (a := a.getD i 0) (b := b.getD i 0) (c := c) (x := x % 4294967296) (c' := x / 4294967296) (p := 4294967296) hinv (by omega)
      rw [Int.pow_succ]
      exact this
theorem add (a b : Nat) (hlen : (D b).length ≤ (D a).length) (ha : bl a ≤ 1073741823) : Ev (fun k => impl_magAdd.f k (D a) (D b)) (D (a + b)) := by
  have h1 := D_len a
  unfold impl_magAdd.f
  rw [wrapZ _ (by omega) (by omega)]
  refine ifp (by omega) (ifp (by omega) ?_)
  have := add_loop (D a) (D b) (D_dig a) (D_dig b) hlen (by omega) (a + b) (by rw [D_val, D_val]; omega) (D a).length 0 (List.replicate (((D a).length : Int) + 1).toNat 0) 0 (by omega) (by simp <;> omega) (dig_replicate (by decide) _) (by omega) (by omega) (by simp [val])
  exact this
theorem sub_loop (a b : List Int) (ha : Dig 4294967296 a) (hb : Dig 4294967296 b) (hab : b.length ≤ a.length) (hm : a.length ≤ 1073741824) (s : Nat) (hs : val 4294967296 a - val 4294967296 b = s) (d : Nat) :
    ∀ (i : Nat) (ys : List Int) (c : Int), i + d = a.length → ys.length = a.length → Dig 4294967296 ys → 0 ≤ c → c ≤ 1 →
      val 4294967296 (ys.take i) - 4294967296 ^ i * c = val 4294967296 (a.take i) - val 4294967296 (b.take i) →
      Ev (fun k => impl_magSub.l0 k b ys c a (a.length : Int) (i : Int)) (D s) := by
  induction d with
  | zero =>
    intro i ys c hd hy hdy hc0 hc1 hinv
    have hi : i = a.length := by omega
    subst hi
    rw [List.take_length, val_take_ge hab, val_take_ge (by omega), hs] at hinv
    have hlt := val_lt (by decide) hdy
    rw [hy] at hlt
    have hval : val 4294967296 ys = s := by
      have hc : c = 0 ∨ c = 1 := by omega
      rcases hc with rfl | rfl
      · omega
      · exfalso
        rw [Int.mul_one] at hinv
        have : ((4294967296 : Nat) : Int) ^ a.length = (4294967296 : Int) ^ a.length := rfl
        omega
    refine Ev.step (f := fun k => (impl_magTrim.f k ys).bind fun t => some t) (fun k => ?_) (trimD hdy (by omega) hval)
    simp only [impl_magSub.l0]
    rw [if_neg (by omega)]
  | succ d ih =>
    intro i ys c hd hy hdy hc0 hc1 hinv
    have hai := ha.all0 (by decide) i
    have hbi := hb.all0 (by decide) i
    obtain ⟨x, hx⟩ : ∃ x, x = IntKind.u64.wrap (a.getD i 0 - (b.getD i 0 + c)) := ⟨_, rfl⟩
    have hx' := hx
    rw [IntKind.wrap_u64] at hx'
    have hstep := Ev.step (g := fun k => impl_magSub.l0 k b ys c a (a.length : Int) (i : Int)) (f := fun k => impl_magSub.l0 k b (ys.set i (x % 4294967296)) (x / 9223372036854775808) a (a.length : Int) ((i + 1 : Nat) : Int)) (fun k => ?_)
      (ih (i + 1) _ (x / 9223372036854775808) (by omega) (by simpa using hy) (hdy.set _ (by omega) (by omega)) (by omega) (by omega) ?_)
    · exact hstep
    · simp only [impl_magSub.l0]
      rw [if_pos (by omega), if_pos (by omega), if_pos (by omega), rdN, rdN, wrapZ _ (by omega) (by omega)]
      by_cases hib : i < b.length
      · rw [if_pos (by omega), if_pos (by omega), u64_id (n := a.getD i 0) (by omega) (by omega), u64_id (n := b.getD i 0) (by omega) (by omega), u64_id (n := c + _) (by omega) (by omega)]
        rw [show c + b.getD i 0 = b.getD i 0 + c by omega, ← hx]
        rfl
      · have hb0 : b.getD i 0 = 0 := getD_ge (by omega)
        rw [if_neg (by omega), if_pos (by omega), u64_id (n := a.getD i 0) (by omega) (by omega)]
        rw [hb0, Int.zero_add] at hx
        rw [← hx]
        rfl
    · rw [val_set_take (by omega), val_take_succ' a i, val_take_succ' b i]
      have := sub_step (a := a.getD i 0) (b := b.getD i 0) (c := c) (x := x % 4294967296) (c' := x / 9223372036854775808) (p := 4294967296) hinv (by omega)
      rw [Int.pow_succ]
      exact this
theorem D_len_mono {a b : Nat} (h : b ≤ a) : (D b).length ≤ (D a).length := by
  rcases Nat.lt_or_ge (D a).length (D b).length with h1 | h1
  · have := val_lt_of_length (by decide) (D_dig a) (D_dig b) (D_top b) h1
    rw [D_val, D_val] at this
    omega
  · exact h1
theorem sub (a b : Nat) (hab : b ≤ a) (ha : bl a ≤ 1073741823) : Ev (fun k => impl_magSub.f k (D a) (D b)) (D (a - b)) := by
  have h1 := D_len a
  unfold impl_magSub.f
  refine ifp (by omega) (ifp (by omega) ?_)
  have := sub_loop (D a) (D b) (D_dig a) (D_dig b) (D_len_mono hab) (by omega) (a - b) (by rw [D_val, D_val]; omega) (D a).length 0 (List.replicate ((D a).length : Int).toNat 0) 0 (by omega) (by simp) (dig_replicate (by decide) _) (by omega) (by omega) (by simp [val])
  exact this
end Go.Proofs.Ythanlckjfghnkaa.Pn
end
section
namespace Go.Proofs.Ythanlckjfghnkaa.Po
open Go.RowKit Go.Proofs.YthanlckjfghnkaaW.PrintWords Go.Proofs.YthanlckjfghnkaaW.PrintMore Go.Proofs.Ythanlckjfghnkaa.PW Go.Proofs.Ythanlckjfghnkaa.Pc Go.Proofs.Ythanlckjfghnkaa.Pn Dg
set_option linter.unusedVariables false
set_option linter.unusedSimpArgs false
theorem tdiv32 (n : Nat) (h : n ≤ 1073741824) : IntKind.u64.wrap (Int.tdiv (n : Int) 32) = ((n / 32 : Nat) : Int) := by
  rw [Int.tdiv_eq_ediv_of_nonneg (by omega), u64_id (by omega) (by omega)]; rfl
theorem tmod32 (n : Nat) : Int.tmod (n : Int) 32 = ((n % 32 : Nat) : Int) := by
  rw [Int.tmod_eq_emod_of_nonneg (by omega)]; rfl
theorem pow_le32 {r : Nat} (h : r < 32) : 1 ≤ (2 : Int) ^ r ∧ (2 : Int) ^ r ≤ 2147483648 := by
  have h1 := Nat.pow_le_pow_right (n := 2) (by decide) (show r ≤ 31 by omega)
  have h2 := Nat.two_pow_pos r
  have e : ((2 : Int) ^ r) = ((2 ^ r : Nat) : Int) := by simp
  rw [e]; omega
theorem shl_id {x : Int} {r : Nat} (h0 : 0 ≤ x) (h1 : x < 4294967296) (hr : r < 32) : shl .u64 x (r : Int) = x * 2 ^ r ∧ 0 ≤ x * 2 ^ r ∧ x * 2 ^ r ≤ 4294967295 * 2147483648 := by
  have hp := pow_le32 hr
  have h2 : x * 2 ^ r ≤ 4294967295 * 2147483648 := Int.mul_le_mul (by omega) hp.2 (by omega) (by omega)
  have h3 : 0 ≤ x * 2 ^ r := Int.mul_nonneg h0 (by omega)
  refine ⟨?_, h3, h2⟩
  unfold shl
  rw [Int.toNat_natCast, Nat.min_eq_left (by show r ≤ 64; omega), u64_id h3 (by omega)]
theorem wraps_u32 (n : Int) (h₀ : 0 ≤ n) (h₁ : n < 2 ^ 32) : IntKind.u32.wrap n = n := by rw [IntKind.wrap_u32]; omega
theorem wraps_u64 (n : Int) (h₀ : 0 ≤ n) (h₁ : n < 2 ^ 64) : IntKind.u64.wrap n = n := by rw [IntKind.wrap_u64]; omega
theorem or_low {x y : Int} {r : Nat} (hr : r < 32) (hx0 : 0 ≤ x) (hx1 : x < 2 ^ r) (hy0 : 0 ≤ y) (hy1 : y < 4294967296) (hy : y % 2 ^ r = 0) : bits .or .u32 x y = x + y := by
  have hp := pow_le32 hr
  have hc : bits .or .u32 x y = bits .or .u32 y x := by
    obtain ⟨a, rfl⟩ := Int.eq_ofNat_of_zero_le hx0
    obtain ⟨b, rfl⟩ := Int.eq_ofNat_of_zero_le hy0
    have ha : a < 2 ^ 32 := by omega
    have hb : b < 2 ^ 32 := by omega
    rw [(bits_nat .u32 32 (by decide) wraps_u32 a b ha hb).2, (bits_nat .u32 32 (by decide) wraps_u32 b a hb ha).2, Nat.or_comm]
  rw [hc, bits_join .u32 32 (by decide) wraps_u32 r y x hy0 hy (by omega) hx0 hx1 (by omega)]
  omega
theorem low_mult {x : Int} {r : Nat} (hr : r < 32) : (x * 2 ^ r) % 4294967296 % 2 ^ r = 0 := by
  have e : (4294967296 : Int) = 2 ^ (32 - r) * 2 ^ r := by
    rw [← Int.pow_add, show 32 - r + r = 32 by omega]; rfl
  rw [e, Int.emod_emod_of_dvd _ (Int.dvd_mul_left _ _), Int.mul_emod_left]
theorem high_lt {x : Int} {r : Nat} (h0 : 0 ≤ x) (h1 : x < 4294967296) (hr : r < 32) : (x * 2 ^ r) / 4294967296 < 2 ^ r := by
  have hp := pow_le32 hr
  apply Int.ediv_lt_of_lt_mul (by decide)
  rw [Int.mul_comm]
  exact Int.mul_lt_mul_of_pos_left h1 (by omega)
theorem left_loop (a : List Int) (ha : Dig 4294967296 a) (n : Nat) (hm : a.length ≤ 536870912) (hn : n ≤ 536870912) (s : Nat) (hs : val 4294967296 a * 2 ^ (n % 32) * 4294967296 ^ (n / 32) = s) (d : Nat) :
    ∀ (i : Nat) (ys : List Int), i + d = a.length → ys.length = n / 32 + a.length + 1 → Dig 4294967296 ys → (∀ j, n / 32 + i < j → ys.getD j 0 = 0) → ys.getD (n / 32 + i) 0 < 2 ^ (n % 32) →
      val 4294967296 ys = val 4294967296 (a.take i) * 2 ^ (n % 32) * 4294967296 ^ (n / 32) →
      Ev (fun k => impl_magLeft.l0 k (n : Int) ys a (a.length : Int) (i : Int)) (D s) := by
  have hr : n % 32 < 32 := by omega
  have hq : n / 32 ≤ 536870912 := by omega
  have eq := tdiv32 n (by omega)
  have er := tmod32 n
  generalize n % 32 = r at *
  generalize n / 32 = q at *
  induction d with
  | zero =>
    intro i ys hd hy hdy hz hlt hinv
    have hi : i = a.length := by omega
    subst hi
    rw [List.take_length, hs] at hinv
    refine Ev.step (f := fun k => (impl_magTrim.f k ys).bind fun t => some t) (fun k => ?_) (trimD hdy (by omega) hinv)
    simp only [impl_magLeft.l0]
    rw [if_neg (by omega)]
  | succ d ih =>
    intro i ys hd hy hdy hz hlt hinv
    have hai := ha.all0 (by decide) i
    have hyi := hdy.all0 (by decide) (q + i)
    have hz1 := hz (q + i + 1) (by omega)
    obtain ⟨hs1, hs2, hs3⟩ := shl_id hai.1 hai.2 hr
    have hlow := low_mult (x := a.getD i 0) hr
    have hhigh := high_lt hai.1 hai.2 hr
    generalize hw : a.getD i 0 * 2 ^ r = w at *
    have hor := or_low hr hyi.1 hlt (y := w % 4294967296) (by omega) (by omega) hlow
    have hp := pow_le32 hr
    have hsum : ys.getD (q + i) 0 + w % 4294967296 < 4294967296 := by
      -- both below the base, one a multiple of the power
      have h1 : w % 4294967296 ≤ 4294967296 - 2 ^ r := by
        have e : (4294967296 : Int) % 2 ^ r = 0 := by
          have : (4294967296 : Int) = 2 ^ (32 - r) * 2 ^ r := by rw [← Int.pow_add, show 32 - r + r = 32 by omega]; rfl
          rw [this]; simp
        have h2 : (4294967296 - w % 4294967296) % 2 ^ r = 0 := by
          rw [Int.sub_emod, e, hlow]; simp
        have h3 : 0 < 4294967296 - w % 4294967296 := by omega
        have h4 := Int.emod_add_mul_ediv (4294967296 - w % 4294967296) (2 ^ r)
        rw [h2, Int.zero_add] at h4
        have h5 : 0 < (4294967296 - w % 4294967296) / 2 ^ r := by
          rcases Int.lt_or_le 0 ((4294967296 - w % 4294967296) / 2 ^ r) with h | h
          · exact h
          · have := Int.mul_nonneg (show (0 : Int) ≤ 2 ^ r by omega) (show 0 ≤ -((4294967296 - w % 4294967296) / 2 ^ r) by omega)
            rw [Int.mul_neg] at this
            omega
        have h6 : (2 : Int) ^ r * 1 ≤ 2 ^ r * ((4294967296 - w % 4294967296) / 2 ^ r) := Int.mul_le_mul_of_nonneg_left (by omega) (by omega)
        omega
      omega
    refine Ev.step (f := fun k => impl_magLeft.l0 k (n : Int) ((ys.set (q + i) (ys.getD (q + i) 0 + w % 4294967296)).set (q + i + 1) (w / 4294967296)) a (a.length : Int) ((i + 1 : Nat) : Int)) (fun k => ?_)
      (ih (i + 1) _ (by omega) (by simpa using hy) ((hdy.set _ (by omega) (by omega)).set _ (by omega) (by omega)) (fun j hj => ?_) ?_ ?_)
    · simp only [impl_magLeft.l0]
      rw [if_pos (by omega), if_pos (by omega), if_pos (by omega), er, eq, wrapZ (q : Int) (by omega) (by omega), wrapZ ((q : Int) + (i : Int)) (by omega) (by omega), wrapZ ((q : Int) + (i : Int) + 1) (by omega) (by omega),
        if_pos (by omega), if_pos (by omega), if_pos (by omega), if_pos (by omega), if_pos (by omega), rdN, show (q : Int) + (i : Int) = ((q + i : Nat) : Int) by omega, rdN, u64_id (n := a.getD i 0) (by omega) (by omega), hs1, hor,
        show (w / 4294967296) % 4294967296 = w / 4294967296 by omega, Int.toNat_natCast, show (((q + i : Nat) : Int) + 1).toNat = q + i + 1 by omega, wrapZ _ (by omega) (by omega)]
      rfl
    · rw [Dg.getD_set_ne (by omega), Dg.getD_set_ne (by omega)]; exact hz j (by omega)
    · rw [show q + (i + 1) = q + i + 1 by omega, Dg.getD_set_eq (by simp <;> omega)]; exact hhigh
    · rw [val_set (by simp <;> omega), val_set (by omega), Dg.getD_set_ne (by omega), hz1, val_take_succ' a i, hinv, Int.pow_succ]
      have h1 : w = w % 4294967296 + 4294967296 * (w / 4294967296) := by omega
      have e : ((4294967296 : Nat) : Int) = 4294967296 := rfl
      rw [e, Int.pow_add]
      generalize (4294967296 : Int) ^ i = P at *
      generalize (4294967296 : Int) ^ q = Q at *
      generalize w % 4294967296 = lo at *
      generalize w / 4294967296 = hi at *
      generalize a.getD i 0 = ai at *
      generalize (2 : Int) ^ r = R at *
      generalize val 4294967296 (List.take i a) = Va at *
      generalize ys.getD (q + i) 0 = y0 at *
      clear ih hlow hhigh hsum hor
      grind
theorem pow_split (n : Nat) : (2 : Int) ^ (n % 32) * 4294967296 ^ (n / 32) = 2 ^ n := by
  rw [show (4294967296 : Int) = 2 ^ 32 from rfl, ← Int.pow_mul, ← Int.pow_add]
  congr 1
  omega
theorem left (a n : Nat) (ha : bl a ≤ 536870912) (hn : n ≤ 536870912) : Ev (fun k => impl_magLeft.f k (D a) (n : Int)) (D (a * 2 ^ n)) := by
  have h1 := D_len a
  unfold impl_magLeft.f
  by_cases h0 : a = 0
  · subst h0
    rw [Nat.zero_mul, D_zero]
    exact ifp rfl (ev_of fun _ => rfl)
  · have hp := D_pos h0
    refine ifn (by omega) ?_
    rw [tdiv32 n (by omega), wrapZ ((n / 32 : Nat) : Int) (by omega) (by omega), wrapZ (((n / 32 : Nat) : Int) + ((D a).length : Int)) (by omega) (by omega), wrapZ _ (by omega) (by omega)]
    refine ifp (by omega) (ifp (by omega) ?_)
    have := left_loop (D a) (D_dig a) n (by omega) hn (a * 2 ^ n) (by
      rw [D_val, Int.mul_assoc, pow_split]; simp) (D a).length 0 (List.replicate (((n / 32 : Nat) : Int) + ((D a).length : Int) + 1).toNat 0) (by omega) (by simp <;> omega) (dig_replicate (by decide) _)
      (fun j _ => by simp [List.getD, List.getElem?_replicate]; split <;> rfl) (by
        have : (List.replicate (((n / 32 : Nat) : Int) + ((D a).length : Int) + 1).toNat (0 : Int)).getD (n / 32 + 0) 0 = 0 := by simp [List.getD, List.getElem?_replicate]; split <;> rfl
        rw [this]
        have := (pow_le32 (show n % 32 < 32 by omega)).1
        omega) (by rw [List.take_zero, val_nil, val_zeros]; simp)
    exact this
theorem or_high {x y : Int} (hx0 : 0 ≤ x) (hx1 : x < 4294967296) (hy0 : 0 ≤ y) (hy1 : y < 4294967296) : bits .or .u64 x (y * 4294967296) = x + 4294967296 * y := by
  have hc : bits .or .u64 x (y * 4294967296) = bits .or .u64 (y * 4294967296) x := by
    obtain ⟨a, rfl⟩ := Int.eq_ofNat_of_zero_le hx0
    obtain ⟨b, rfl⟩ := Int.eq_ofNat_of_zero_le hy0
    have e : (b : Int) * 4294967296 = ((b * 4294967296 : Nat) : Int) := by simp
    have ha : a < 2 ^ 64 := by omega
    have hb : b * 4294967296 < 2 ^ 64 := by omega
    rw [e, (bits_nat .u64 64 (by decide) wraps_u64 a _ ha hb).2, (bits_nat .u64 64 (by decide) wraps_u64 _ a hb ha).2, Nat.or_comm]
  rw [hc, bits_join .u64 64 (by decide) wraps_u64 32 (y * 4294967296) x (by omega) (by omega) (by omega) hx0 (by omega) (by omega)]
  omega
theorem right_digit (X r : Nat) (hr : r < 32) : (X % 4294967296 + 4294967296 * (X / 4294967296 % 4294967296)) / 2 ^ r % 4294967296 = X / 2 ^ r % 4294967296 := by
  have h1 := Nat.mod_mul (a := 4294967296) (b := 4294967296) (x := X)
  rw [← h1]
  have e : (4294967296 * 4294967296 : Nat) = 2 ^ r * 2 ^ (64 - r) := by
    rw [← Nat.pow_add, show r + (64 - r) = 64 by omega]
  rw [e, Nat.mod_mul_right_div_self, Nat.mod_mod_of_dvd]
  rw [show (4294967296 : Nat) = 2 ^ 32 from rfl]
  exact Nat.pow_dvd_pow 2 (by omega)
theorem shr_id {x : Int} {r : Nat} (hr : r < 32) : shr .u64 x (r : Int) = x / 2 ^ r := by
  unfold shr
  rw [Int.toNat_natCast, Nat.min_eq_left (by show r ≤ 64; omega)]
theorem right_loop (m : List Int) (M n : Nat) (hm : m.length ≤ 1073741824) (hM : ∀ j, m.getD j 0 = ((M / 4294967296 ^ j % 4294967296 : Nat) : Int)) (hl : M < 4294967296 ^ m.length) (d : Nat) :
    ∀ (i : Nat) (ys : List Int), i + d = m.length → ys.length = m.length → Dig 4294967296 ys → (∀ j, j < i → ys.getD j 0 = ((M / 2 ^ (n % 32) / 4294967296 ^ j % 4294967296 : Nat) : Int)) →
      Ev (fun k => impl_magRight.l0 k m (n : Int) ys m (m.length : Int) (i : Int)) (D (M / 2 ^ (n % 32))) := by
  have hr : n % 32 < 32 := by omega
  have er := tmod32 n
  generalize n % 32 = r at *
  induction d with
  | zero =>
    intro i ys hd hy hdy hdig
    have hi : i = m.length := by omega
    subst hi
    have hv := val_digits (by decide) ys (M / 2 ^ r) (fun j hj => hdig j (by omega))
    have hlt : M / 2 ^ r < 4294967296 ^ ys.length := by rw [hy]; exact Nat.lt_of_le_of_lt (Nat.div_le_self _ _) hl
    rw [Nat.mod_eq_of_lt hlt] at hv
    refine Ev.step (f := fun k => (impl_magTrim.f k ys).bind fun t => some t) (fun k => ?_) (trimD hdy (by omega) hv)
    simp only [impl_magRight.l0]
    rw [if_neg (by omega)]
  | succ d ih =>
    intro i ys hd hy hdy hdig
    have hmi := hM i
    have hmj := hM (i + 1)
    obtain ⟨X, hX⟩ : ∃ X, X = M / 4294967296 ^ i := ⟨_, rfl⟩
    have hX2 : M / 4294967296 ^ (i + 1) = X / 4294967296 := by rw [hX, Nat.pow_succ, Nat.div_div_eq_div_mul]
    rw [← hX] at hmi
    rw [hX2] at hmj
    have hd0 := right_digit X r hr
    have hX3 : M / 2 ^ r / 4294967296 ^ i = X / 2 ^ r := by rw [hX, Nat.div_div_eq_div_mul, Nat.div_div_eq_div_mul, Nat.mul_comm]
    have hpw : ((2 : Int) ^ r) = ((2 ^ r : Nat) : Int) := by simp
    obtain ⟨v, hv⟩ : ∃ v : Nat, v = X / 2 ^ r % 4294967296 := ⟨_, rfl⟩
    refine Ev.step (f := fun k => impl_magRight.l0 k m (n : Int) (ys.set i (v : Int)) m (m.length : Int) ((i + 1 : Nat) : Int)) (fun k => ?_)
      (ih (i + 1) _ (by omega) (by simpa using hy) (hdy.set _ (by omega) (by omega)) (fun j hj => ?_))
    · simp only [impl_magRight.l0]
      rw [if_pos (by omega), if_pos (by omega), if_pos (by omega), er, rdN, wrapZ _ (by omega) (by omega), hmi]
      by_cases hj : i + 1 < m.length
      · rw [if_pos (by omega), if_pos (by omega), if_pos (by omega), if_pos (by omega), show (i : Int) + 1 = ((i + 1 : Nat) : Int) by omega, rdN, hmj, u64_id (n := ((X % 4294967296 : Nat) : Int)) (by omega) (by omega),
          u64_id (n := ((X / 4294967296 % 4294967296 : Nat) : Int)) (by omega) (by omega), u64_id (n := _ * 4294967296) (by omega) (by omega), or_high (by omega) (by omega) (by omega) (by omega), shr_id hr, hpw, Int.toNat_natCast]
        rw [hv, ← hd0]
        rfl
      · have h0 : m.getD (i + 1) 0 = 0 := getD_ge (by omega)
        rw [hmj] at h0
        have h1 : X / 4294967296 % 4294967296 = 0 := by omega
        rw [h1, Nat.mul_zero, Nat.add_zero] at hd0
        rw [if_neg (by omega), if_pos (by omega), if_pos (by omega), u64_id (n := ((X % 4294967296 : Nat) : Int)) (by omega) (by omega), shr_id hr, hpw, Int.toNat_natCast]
        rw [hv, ← hd0]
        rfl
    · by_cases hji : j = i
      · subst hji
        rw [Dg.getD_set_eq (by omega), hX3, hv]
      · rw [Dg.getD_set_ne (by omega)]
        exact hdig j (by omega)
theorem right (a n : Nat) (ha : bl a ≤ 536870912) (hn : n ≤ 536870912) : Ev (fun k => impl_magRight.f k (D a) (n : Int)) (D (a / 2 ^ n)) := by
  have h1 := D_len a
  have hpow : (2 : Nat) ^ n = 4294967296 ^ (n / 32) * 2 ^ (n % 32) := by
    rw [show (4294967296 : Nat) = 2 ^ 32 from rfl, ← Nat.pow_mul, ← Nat.pow_add]
    congr 1
    omega
  unfold impl_magRight.f
  rw [tdiv32 n (by omega), u64_id (n := ((D a).length : Int)) (by omega) (by omega)]
  by_cases hq : (D a).length ≤ n / 32
  · have hlt : a < 4294967296 ^ (D a).length := lt_of_dg_length _
    have h2 := Nat.pow_le_pow_right (n := 4294967296) (by decide) hq
    have h3 : a / 2 ^ n = 0 := by
      rw [hpow, ← Nat.div_div_eq_div_mul, Nat.div_eq_of_lt (Nat.lt_of_lt_of_le hlt h2), Nat.zero_div]
    rw [h3, D_zero]
    exact ifp (by omega) (ev_of fun _ => rfl)
  · refine ifn (by omega) (ifp (by omega) (ifp (by omega) (ifp (by omega) ?_)))
    simp only [Int.toNat_natCast]
    have hlen : ((D a).drop (n / 32)).length = (D a).length - n / 32 := List.length_drop
    refine ifp (by omega) ?_
    obtain ⟨M, hM⟩ : ∃ M, M = a / 4294967296 ^ (n / 32) := ⟨_, rfl⟩
    have hfin : a / 2 ^ n = M / 2 ^ (n % 32) := by rw [hpow, hM, Nat.div_div_eq_div_mul]
    rw [hfin]
    have hlt : a < 4294967296 ^ (D a).length := lt_of_dg_length _
    exact right_loop ((D a).drop (n / 32)) M n (by omega) (fun j => by
      have e : ((D a).drop (n / 32)).getD j 0 = (D a).getD (n / 32 + j) 0 := by simp [List.getD, List.getElem?_drop]
      rw [e, D_getD, hM, Nat.div_div_eq_div_mul, ← Nat.pow_add]) (by
      rw [hlen, hM]
      apply Nat.div_lt_of_lt_mul
      rw [← Nat.pow_add, show n / 32 + ((D a).length - n / 32) = (D a).length by omega]
      exact hlt) ((D a).drop (n / 32)).length 0 _ (by omega) (by simp) (dig_replicate (by decide) _) (fun j hj => by omega)
end Go.Proofs.Ythanlckjfghnkaa.Po
end
section
namespace Go.Proofs.Ythanlckjfghnkaa.PW
open Go.RowKit Go.Proofs.YthanlckjfghnkaaW.PrintWords Go.Proofs.YthanlckjfghnkaaW.PrintLast Go.Proofs.YthanlckjfghnkaaW.PrintMore
attribute [local go_sem] max2_int min2_int max_two min_two max_three min_three max_four min_four   -- for this text's walks alone
set_option linter.unusedVariables false
set_option linter.unusedSimpArgs false
mutual
def impl_IsWhole.j0 : Nat → Int → Bool → Int → List Int → Option (Bool)
  | 0, _, _, _, _ => none
  | k + 1, x3, x28, x281000, x281001 => if x28 = true then (some false) else (impl_IsWhole.l0 k x3 x281001 (x281001.length : Int) 0 x281000 x281001)
def impl_IsWhole.l0 : Nat → Int → List Int → Int → Int → Int → List Int → Option (Bool)
  | 0, _, _, _, _, _, _ => none
  | k + 1, x3, x30, x31, x32, x281000, x281001 => if x32 < x31 then (if 0 ≤ x32 then (if x32 < (x30.length : Int) then (if (rd x30 x32) < 0 then (some false) else (if (rd x30 x32) > 16777215 then (some false) else (impl_IsWhole.l0 k x3 x30 x31 (wrap64 (x32 + 1)) x281000 x281001))) else (none)) else (none)) else (if x3 = 0 then (some true) else (if 0 ≤ (wrap64 (x3 - 1)) then (if (wrap64 (x3 - 1)) < (x281001.length : Int) then (some ((rd x281001 (wrap64 (x3 - 1))) != 0)) else (none)) else (none)))
end
def impl_IsWhole.f (k : Nat) (a0_0 : Int) (l0_1 : List Int) : Option (Bool) := if (l0_1.length : Int) > 100 then (impl_IsWhole.j0 k (l0_1.length : Int) true a0_0 l0_1) else (if a0_0 < (-1) then (impl_IsWhole.j0 k (l0_1.length : Int) true a0_0 l0_1) else (if a0_0 > 1 then (impl_IsWhole.j0 k (l0_1.length : Int) true a0_0 l0_1) else (impl_IsWhole.j0 k (l0_1.length : Int) ((a0_0 == 0) != ((l0_1.length : Int) == 0)) a0_0 l0_1)))
theorem impl_IsWhole.mono_l : ∀ k, (∀ y0 y1 y2 y3, LeO (impl_IsWhole.j0 k y0 y1 y2 y3) (impl_IsWhole.j0 (k + 1) y0 y1 y2 y3)) ∧ (∀ y0 y1 y2 y3 y4 y5, LeO (impl_IsWhole.l0 k y0 y1 y2 y3 y4 y5) (impl_IsWhole.l0 (k + 1) y0 y1 y2 y3 y4 y5))
  | 0 => ⟨fun _ _ _ _ r h => by simp [impl_IsWhole.j0] at h, fun _ _ _ _ _ _ r h => by simp [impl_IsWhole.l0] at h⟩
  | k + 1 => by
    obtain ⟨ih0, ih1⟩ := impl_IsWhole.mono_l k
    refine ⟨?_, ?_⟩
    · intro y0 y1 y2 y3
      unfold impl_IsWhole.j0
      repeat' first
      | (with_reducible exact ih0 _ _ _ _)
      | (with_reducible exact ih1 _ _ _ _ _ _)
      | (with_reducible exact LeO.refl _)
      | (with_reducible exact LeO.none _)
      | (with_reducible refine LeO.ite ?_ ?_)
      | (with_reducible refine LeO.bind ?_ (fun _ => ?_))
      | exact ih0 _ _ _ _
      | exact ih1 _ _ _ _ _ _
      | exact LeO.none _
      | refine LeO.ite ?_ ?_
      | refine LeO.bind ?_ (fun _ => ?_)
    · intro y0 y1 y2 y3 y4 y5
      unfold impl_IsWhole.l0
      repeat' first
      | (with_reducible exact ih0 _ _ _ _)
      | (with_reducible exact ih1 _ _ _ _ _ _)
      | (with_reducible exact LeO.refl _)
      | (with_reducible exact LeO.none _)
      | (with_reducible refine LeO.ite ?_ ?_)
      | (with_reducible refine LeO.bind ?_ (fun _ => ?_))
      | exact ih0 _ _ _ _
      | exact ih1 _ _ _ _ _ _
      | exact LeO.none _
      | refine LeO.ite ?_ ?_
      | refine LeO.bind ?_ (fun _ => ?_)
theorem impl_IsWhole.mono : ∀ a0 a1 k, LeO (impl_IsWhole.f k a0 a1) (impl_IsWhole.f (k + 1) a0 a1) := by
  intro a0 a1 k
  obtain ⟨ih0, ih1⟩ := impl_IsWhole.mono_l k
  unfold impl_IsWhole.f
  repeat' first
      | (with_reducible exact ih0 _ _ _ _)
      | (with_reducible exact ih1 _ _ _ _ _ _)
      | (with_reducible exact LeO.refl _)
      | (with_reducible exact LeO.none _)
      | (with_reducible refine LeO.ite ?_ ?_)
      | (with_reducible refine LeO.bind ?_ (fun _ => ?_))
      | exact ih0 _ _ _ _
      | exact ih1 _ _ _ _ _ _
      | exact LeO.none _
      | refine LeO.ite ?_ ?_
      | refine LeO.bind ?_ (fun _ => ?_)
set_option maxHeartbeats 8000000 in
set_option maxRecDepth 100000 in
theorem impl_IsWhole.calls (k : Nat) (a0_0 : Int) (A0_1 : Option Addr) (c0_1 : Nat) (l0_1 : List Int) (r : Bool) (w : World) (hr0_1 : Kd.C (Kd.int .i64) w A0_1 l0_1.length l0_1) (hc0_1 : l0_1.length ≤ c0_1) (h : impl_IsWhole.f k a0_0 l0_1 = some r) :
    Calls Try.prog 29 #[.agg #[.int .i64 a0_0, .slice A0_1 l0_1.length c0_1]] w fun e w' => e = .returned (.bool r) ∧ Below w.heap.size w w' := by
  have hu26 := Try.underlying26
  have HR0_1 := Aside0.mk hr0_1
  have HC0_1 := Aside0.mk hc0_1
  clear hr0_1 hc0_1
  have HB := Aside0.mk (Below.refl w.heap.size w)
  have H : (if (l0_1.length : Int) > 100 then (impl_IsWhole.j0 k (l0_1.length : Int) true a0_0 l0_1) else (if a0_0 < (-1) then (impl_IsWhole.j0 k (l0_1.length : Int) true a0_0 l0_1) else (if a0_0 > 1 then (impl_IsWhole.j0 k (l0_1.length : Int) true a0_0 l0_1) else (impl_IsWhole.j0 k (l0_1.length : Int) ((a0_0 == 0) != ((l0_1.length : Int) == 0)) a0_0 l0_1)))) = some r := h
  clear h
  have HC2 := Aside0.mk H
  clear H
  go_enter Try.func29, Try.ntmps29
  go_upto_region 2 with (first | ((with_reducible refine gate_dst (N := 1) rfl ?_); refine box_event ?hg (N := 1) ?hd (cs := #[.int .i64 a0_0, .slice A0_1 l0_1.length c0_1]) (t := 26) ?hr ?_; (case hd => rfl); (case hg => rfl); (case hr => first | (go_simp; done) | (go_simp; rfl)); intro gb280 hg w3 hbox hb; have n0_ := Aside0.mk (below_step (by repeat (first | (with_reducible first | exact HB.out | apply below_alloc | apply pw_below_drewN | apply below_drew1) | exact HB.out)) hb); have n1_ := Aside0.mk (hbox); have n2_ := Aside0.mk ((by rw [hg]; exact (below_size (by repeat (first | (with_reducible first | exact HB.out | apply below_alloc | apply pw_below_drewN | apply below_drew1) | exact HB.out))) : w.heap.size ≤ gb280)); have n3_ := Aside0.mk ((by rw [hg]; exact (below_size (by repeat (first | (with_reducible first | exact HB.out | apply below_alloc | apply pw_below_drewN | apply below_drew1) | exact HB.out))) : w.heap.size ≤ gb280)); clear HB; have HB := n0_; have BK280 := n1_; have GW280 := n2_; have GE280 := n3_; clear n0_ n1_ n2_ n3_; clear hb hbox hg; have hcz4_0 : w3.cell? ⟨gb280, 0, none⟩ = some (.int .i64 a0_0) := (blk_cell BK280.out 0).trans rfl; have hcz4_1 : w3.cell? ⟨gb280, 1, none⟩ = some (.slice A0_1 l0_1.length c0_1) := (blk_cell BK280.out 1).trans rfl; have hfz4_0 := blk_frozen BK280.out 0; have hfz4_1 := blk_frozen BK280.out 1))
  (try simp only [Act.put, List.setIfInBounds_toArray, List.set_cons_zero, List.set_cons_succ])
  go_cut [28] (fun v28 wc => ∃ (kq : Nat) (x28_1 : Bool), v28 = .bool x28_1 ∧ Aside0 (impl_IsWhole.j0 kq (l0_1.length : Int) x28_1 a0_0 l0_1 = some r) ∧ Aside0 (kq ≤ k) ∧ Aside0 (wc.heap[gb280]? = some (.cells #[.int .i64 a0_0, (.slice A0_1 l0_1.length c0_1)] 26 (0, 0))) ∧ Aside0 (Below w.heap.size w wc))
  case first =>
    have H := HC2.out
    clear HC2
    by_cases c5 : (l0_1.length : Int) > 100
    · rw [if_pos c5] at H
      have c5b0 : decide (100 < (l0_1.length : Int)) = true := decide_eq_true c5
      have c5b1 : decide (100 < l0_1.length) = true := decide_eq_true (by omega)
      clear c5
      (first | rw [c5b0] | (simp only [i64_w, i32_w]; rw [c5b0]) | skip)
      have H' := Aside0.mk H
      clear H
      go_wp2
      go_meet
      case rel => exact ⟨_, (true), (by first | rfl | (simp; done) | (simp [*]; done)), H', ⟨by first | omega | exact Nat.le_refl _⟩, ⟨by (with_reducible repeat (first | refine blk_drewN ?_ _ | refine blk_drew ?_ | refine blk_alloc ?_ _)); exact BK280.out⟩, ⟨by repeat (first | (with_reducible first | exact HB.out | apply below_alloc | apply pw_below_drewN | apply below_drew1 | refine below_set ?_ GE280.out) | exact HB.out)⟩⟩
    · rw [if_neg c5] at H
      have c5b0 : decide (100 < (l0_1.length : Int)) = false := decide_eq_false c5
      have c5b1 : decide (100 < l0_1.length) = false := decide_eq_false (by omega)
      clear c5
      (first | rw [c5b0] | (simp only [i64_w, i32_w]; rw [c5b0]) | skip)
      by_cases c6 : a0_0 < (-1)
      · rw [if_pos c6] at H
        have c6b0 : decide (a0_0 < (-1)) = true := decide_eq_true c6
        clear c6
        have H' := Aside0.mk H
        clear H
        have hcz7_0 : w3.cell? ⟨gb280, 0, none⟩ = some (.int .i64 a0_0) := (blk_cell BK280.out 0).trans rfl
        have hcz7_1 : w3.cell? ⟨gb280, 1, none⟩ = some (.slice A0_1 l0_1.length c0_1) := (blk_cell BK280.out 1).trans rfl
        have hfz7_0 := blk_frozen BK280.out 0
        have hfz7_1 := blk_frozen BK280.out 1
        go_wp2
        go_meet
        case rel => exact ⟨_, (true), (by first | rfl | (simp; done) | (simp [*]; done)), H', ⟨by first | omega | exact Nat.le_refl _⟩, ⟨by (with_reducible repeat (first | refine blk_drewN ?_ _ | refine blk_drew ?_ | refine blk_alloc ?_ _)); exact BK280.out⟩, ⟨by repeat (first | (with_reducible first | exact HB.out | apply below_alloc | apply pw_below_drewN | apply below_drew1 | refine below_set ?_ GE280.out) | exact HB.out)⟩⟩
      · rw [if_neg c6] at H
        have c6b0 : decide (a0_0 < (-1)) = false := decide_eq_false c6
        clear c6
        by_cases c8 : a0_0 > 1
        · rw [if_pos c8] at H
          have c8b0 : decide (1 < a0_0) = true := decide_eq_true c8
          clear c8
          have H' := Aside0.mk H
          clear H
          have hcz9_0 : w3.cell? ⟨gb280, 0, none⟩ = some (.int .i64 a0_0) := (blk_cell BK280.out 0).trans rfl
          have hcz9_1 : w3.cell? ⟨gb280, 1, none⟩ = some (.slice A0_1 l0_1.length c0_1) := (blk_cell BK280.out 1).trans rfl
          have hfz9_0 := blk_frozen BK280.out 0
          have hfz9_1 := blk_frozen BK280.out 1
          go_wp2
          go_meet
          case rel => exact ⟨_, (true), (by first | rfl | (simp; done) | (simp [*]; done)), H', ⟨by first | omega | exact Nat.le_refl _⟩, ⟨by (with_reducible repeat (first | refine blk_drewN ?_ _ | refine blk_drew ?_ | refine blk_alloc ?_ _)); exact BK280.out⟩, ⟨by repeat (first | (with_reducible first | exact HB.out | apply below_alloc | apply pw_below_drewN | apply below_drew1 | refine below_set ?_ GE280.out) | exact HB.out)⟩⟩
        · rw [if_neg c8] at H
          have c8b0 : decide (1 < a0_0) = false := decide_eq_false c8
          clear c8
          have H' := Aside0.mk H
          clear H
          have hcz10_0 : w3.cell? ⟨gb280, 0, none⟩ = some (.int .i64 a0_0) := (blk_cell BK280.out 0).trans rfl
          have hcz10_1 : w3.cell? ⟨gb280, 1, none⟩ = some (.slice A0_1 l0_1.length c0_1) := (blk_cell BK280.out 1).trans rfl
          have hfz10_0 := blk_frozen BK280.out 0
          have hfz10_1 := blk_frozen BK280.out 1
          go_wp2
          go_meet
          case rel => exact ⟨_, (((a0_0 == 0) != ((l0_1.length : Int) == 0))), (by first | rfl | (simp; done) | (simp [*]; done)), H', ⟨by first | omega | exact Nat.le_refl _⟩, ⟨by (with_reducible repeat (first | refine blk_drewN ?_ _ | refine blk_drew ?_ | refine blk_alloc ?_ _)); exact BK280.out⟩, ⟨by repeat (first | (with_reducible first | exact HB.out | apply below_alloc | apply pw_below_drewN | apply below_drew1 | refine below_set ?_ GE280.out) | exact HB.out)⟩⟩
  case rest =>
    clear HC2
    try clear c2
    try clear p2
    try clear c5
    try clear c5b0
    try clear c5b1
    try clear c6
    try clear c6b0
    try clear c8
    try clear c8b0
    try clear hcz10_0
    try clear hcz10_1
    try clear hcz4_0
    try clear hcz4_1
    try clear hcz7_0
    try clear hcz7_1
    try clear hcz9_0
    try clear hcz9_1
    try clear hfz10_0
    try clear hfz10_1
    try clear hfz4_0
    try clear hfz4_1
    try clear hfz7_0
    try clear hfz7_1
    try clear hfz9_0
    try clear hfz9_1
    obtain ⟨kq, x28_1, rfl, HA, HJ1, BK280, HB⟩ := hcut
    cases kq with
    | zero => exact absurd HA.out (by simp [impl_IsWhole.j0])
    | succ kj1 =>
      have H := HA.out
      clear HA
      simp only [impl_IsWhole.j0] at H
      by_cases c11 : x28_1 = true
      · subst c11
        have H1 : (some false) = some r := by rw [if_pos rfl] at H; exact H
        clear H
        have H := H1
        clear H1
        obtain rfl := Option.some.inj H
        go_wp2
        go_ret
        exact ⟨by first | rfl | (simp [errW_none, errW_some] <;> rfl) | (simp [*, errW_none, errW_some] <;> rfl), by repeat (first | (with_reducible first | exact HB.out | apply below_alloc | apply pw_below_drewN | apply below_drew1 | refine below_set ?_ GE280.out) | exact HB.out)⟩
      · replace c11 := Bool.eq_false_iff.mpr c11
        subst c11
        have H1 : (impl_IsWhole.l0 kj1 (l0_1.length : Int) l0_1 (l0_1.length : Int) 0 a0_0 l0_1) = some r := by rw [if_neg (show ¬ (false = true) by decide)] at H; exact H
        clear H
        have H := H1
        clear H1
        have H' := Aside0.mk H
        clear H
        have hcz12_0 : wc.cell? ⟨gb280, 0, none⟩ = some (.int .i64 a0_0) := (blk_cell BK280.out 0).trans rfl
        have hcz12_1 : wc.cell? ⟨gb280, 1, none⟩ = some (.slice A0_1 l0_1.length c0_1) := (blk_cell BK280.out 1).trans rfl
        have hfz12_0 := blk_frozen BK280.out 0
        have hfz12_1 := blk_frozen BK280.out 1
        go_wp2
        go_loopg [32] kj1 (fun kq v32 w' => ∃ (x32_2 : Int), v32 = .int .i64 x32_2 ∧ Aside0 (impl_IsWhole.l0 kq (l0_1.length : Int) l0_1 (l0_1.length : Int) x32_2 a0_0 l0_1 = some r) ∧ Aside0 (kq ≤ kj1) ∧ Aside0 (w'.heap[gb280]? = some (.cells #[.int .i64 a0_0, (.slice A0_1 l0_1.length c0_1)] 26 (0, 0))) ∧ Aside0 (Below w.heap.size w w'))
        case atStart => exact ⟨(0), (by first | rfl | (simp; done) | (simp [*]; done)), H', ⟨Nat.le_refl _⟩, ⟨by (with_reducible repeat (first | refine blk_drewN ?_ _ | refine blk_drew ?_ | refine blk_alloc ?_ _)); exact BK280.out⟩, ⟨by repeat (first | (with_reducible first | exact HB.out | apply below_alloc | apply pw_below_drewN | apply below_drew1 | refine below_set ?_ GE280.out) | exact HB.out)⟩⟩
        case round =>
          clear H'
          try clear c1
          try clear c2
          try clear p2
          try clear c5
          try clear c5b0
          try clear c5b1
          try clear c6
          try clear c6b0
          try clear c8
          try clear c8b0
          try clear c11
          try clear hcz10_0
          try clear hcz10_1
          try clear hcz12_0
          try clear hcz12_1
          try clear hcz4_0
          try clear hcz4_1
          try clear hcz7_0
          try clear hcz7_1
          try clear hcz9_0
          try clear hcz9_1
          try clear hfz10_0
          try clear hfz10_1
          try clear hfz12_0
          try clear hfz12_1
          try clear hfz4_0
          try clear hfz4_1
          try clear hfz7_0
          try clear hfz7_1
          try clear hfz9_0
          try clear hfz9_1
          try clear p2
          obtain ⟨x32_2, rfl, HA, HK2, BK280, HB⟩ := hrel
          cases gk with
          | zero => exact absurd HA.out (by simp [impl_IsWhole.l0])
          | succ k2 =>
            have H := HA.out
            clear HA
            simp only [impl_IsWhole.l0] at H
            by_cases c13 : x32_2 < (l0_1.length : Int)
            · rw [if_pos c13] at H
              have c13b0 : decide (x32_2 < (l0_1.length : Int)) = true := decide_eq_true c13
              clear c13
              by_cases c14 : 0 ≤ x32_2
              · rw [if_pos c14] at H
                have c14b0 : decide (0 ≤ x32_2) = true := decide_eq_true c14
                clear c14
                by_cases c15 : x32_2 < (l0_1.length : Int)
                · rw [if_pos c15] at H
                  have c15b0 : decide (x32_2 < (l0_1.length : Int)) = true := decide_eq_true c15
                  clear c15
                  by_cases c16 : (rd l0_1 x32_2) < 0
                  · rw [if_pos c16] at H
                    have c16b0 : decide ((rd l0_1 x32_2) < 0) = true := decide_eq_true c16
                    clear c16
                    obtain rfl := Option.some.inj H
                    have p281 : 0 ≤ (x32_2 : Int) := of_decide_eq_true (by first | (with_reducible assumption) | assumption)
                    have q281 : x32_2 < (l0_1.length : Int) := of_decide_eq_true (by first | (with_reducible assumption) | assumption)
                    obtain ⟨ad281, e281, hx281_0⟩ := Kd.at_int HR0_1.out x32_2 p281 q281
                    cases e281
                    replace hx281_0 := (HB.out.cell (World.block_lt_of_cell? w _ hx281_0)).trans hx281_0
                    replace p281 := eq_true p281
                    replace q281 := eq_true q281
                    go_wp2
                    go_ret
                    exact ⟨by first | rfl | (simp [errW_none, errW_some] <;> rfl) | (simp [*, errW_none, errW_some] <;> rfl), by repeat (first | (with_reducible first | exact HB.out | apply below_alloc | apply pw_below_drewN | apply below_drew1 | refine below_set ?_ GE280.out) | exact HB.out)⟩
                  · rw [if_neg c16] at H
                    have c16b0 : decide ((rd l0_1 x32_2) < 0) = false := decide_eq_false c16
                    clear c16
                    by_cases c17 : (rd l0_1 x32_2) > 16777215
                    · rw [if_pos c17] at H
                      have c17b0 : decide (16777215 < (rd l0_1 x32_2)) = true := decide_eq_true c17
                      clear c17
                      obtain rfl := Option.some.inj H
                      have p281 : 0 ≤ (x32_2 : Int) := of_decide_eq_true (by first | (with_reducible assumption) | assumption)
                      have q281 : x32_2 < (l0_1.length : Int) := of_decide_eq_true (by first | (with_reducible assumption) | assumption)
                      obtain ⟨ad281, e281, hx281_0⟩ := Kd.at_int HR0_1.out x32_2 p281 q281
                      cases e281
                      replace hx281_0 := (HB.out.cell (World.block_lt_of_cell? w _ hx281_0)).trans hx281_0
                      replace p281 := eq_true p281
                      replace q281 := eq_true q281
                      go_wp2
                      go_ret
                      exact ⟨by first | rfl | (simp [errW_none, errW_some] <;> rfl) | (simp [*, errW_none, errW_some] <;> rfl), by repeat (first | (with_reducible first | exact HB.out | apply below_alloc | apply pw_below_drewN | apply below_drew1 | refine below_set ?_ GE280.out) | exact HB.out)⟩
                    · rw [if_neg c17] at H
                      have c17b0 : decide (16777215 < (rd l0_1 x32_2)) = false := decide_eq_false c17
                      clear c17
                      have H' := Aside0.mk H
                      clear H
                      have p281 : 0 ≤ (x32_2 : Int) := of_decide_eq_true (by first | (with_reducible assumption) | assumption)
                      have q281 : x32_2 < (l0_1.length : Int) := of_decide_eq_true (by first | (with_reducible assumption) | assumption)
                      obtain ⟨ad281, e281, hx281_0⟩ := Kd.at_int HR0_1.out x32_2 p281 q281
                      cases e281
                      replace hx281_0 := (HB.out.cell (World.block_lt_of_cell? w _ hx281_0)).trans hx281_0
                      replace p281 := eq_true p281
                      replace q281 := eq_true q281
                      go_wp2
                      go_roundg k2
                      case measure => have := HJ1.out; have := HK2.out; omega
                      case rel => exact ⟨(wrap64 (x32_2 + 1)), (by first | rfl | (simp; done) | (simp [*]; done)), H', ⟨by have := HJ1.out; have := HK2.out; omega⟩, ⟨by (with_reducible repeat (first | refine blk_drewN ?_ _ | refine blk_drew ?_ | refine blk_alloc ?_ _)); exact BK280.out⟩, ⟨by repeat (first | (with_reducible first | exact HB.out | apply below_alloc | apply pw_below_drewN | apply below_drew1 | refine below_set ?_ GE280.out) | exact HB.out)⟩⟩
                · rw [if_neg c15] at H
                  exact absurd H (by simp)
              · rw [if_neg c14] at H
                exact absurd H (by simp)
            · rw [if_neg c13] at H
              have c13b0 : decide (x32_2 < (l0_1.length : Int)) = false := decide_eq_false c13
              clear c13
              by_cases c18 : (l0_1.length : Int) = 0
              · rw [if_pos c18] at H
                have c18b0 : ((l0_1.length : Int) == 0) = true := beq_iff_eq.mpr c18
                have c18b1 : ((l0_1.length : Int) != 0) = false := bne_eq_false_iff_eq.mpr c18
                clear c18
                obtain rfl := Option.some.inj H
                go_wp2
                go_ret
                exact ⟨by first | rfl | (simp [errW_none, errW_some] <;> rfl) | (simp [*, errW_none, errW_some] <;> rfl), by repeat (first | (with_reducible first | exact HB.out | apply below_alloc | apply pw_below_drewN | apply below_drew1 | refine below_set ?_ GE280.out) | exact HB.out)⟩
              · rw [if_neg c18] at H
                have c18b0 : ((l0_1.length : Int) == 0) = false := beq_eq_false_iff_ne.mpr c18
                have c18b1 : ((l0_1.length : Int) != 0) = true := bne_iff_ne.mpr c18
                have c18b2 : ¬ (l0_1 = []) := fun h_ => c18 (by rw [h_]; rfl)
                obtain ⟨ji19, hji19⟩ : ∃ j_ : Int, (wrap64 ((l0_1.length : Int) - 1)) = j_ := ⟨_, rfl⟩
                replace H : (if 0 ≤ (ji19) then (if (ji19) < (l0_1.length : Int) then (some ((rd l0_1 (ji19)) != 0)) else (none)) else (none)) = some r := by first | (rw [hji19] at H; exact H) | (simp only [hji19] at H ⊢; exact H)
                have hji19w : (IntKind.i64.wrap ((l0_1.length : Int) - 1)) = ji19 := (i64_w _).trans hji19
                by_cases c20 : 0 ≤ (ji19)
                · rw [if_pos c20] at H
                  have c20b0 : decide (0 ≤ (ji19)) = true := decide_eq_true c20
                  clear c20
                  by_cases c21 : (ji19) < (l0_1.length : Int)
                  · rw [if_pos c21] at H
                    have c21b0 : decide ((ji19) < (l0_1.length : Int)) = true := decide_eq_true c21
                    clear c21
                    obtain rfl := Option.some.inj H
                    have hcz22_0 : wr.cell? ⟨gb280, 0, none⟩ = some (.int .i64 a0_0) := (blk_cell BK280.out 0).trans rfl
                    have hcz22_1 : wr.cell? ⟨gb280, 1, none⟩ = some (.slice A0_1 l0_1.length c0_1) := (blk_cell BK280.out 1).trans rfl
                    have hfz22_0 := blk_frozen BK280.out 0
                    have hfz22_1 := blk_frozen BK280.out 1
                    have p282 : 0 ≤ ((ji19) : Int) := of_decide_eq_true (by first | (with_reducible assumption) | assumption)
                    have q282 : (ji19) < (l0_1.length : Int) := of_decide_eq_true (by first | (with_reducible assumption) | assumption)
                    obtain ⟨ad282, e282, hx282_0⟩ := Kd.at_int HR0_1.out (ji19) p282 q282
                    cases e282
                    replace hx282_0 := (HB.out.cell (World.block_lt_of_cell? w _ hx282_0)).trans hx282_0
                    replace p282 := eq_true p282
                    replace q282 := eq_true q282
                    go_wp2
                    go_ret
                    exact ⟨by first | rfl | (simp [errW_none, errW_some] <;> rfl) | (simp only [← hji19]; first | rfl | (simp [errW_none, errW_some] <;> rfl)) | (simp [*, errW_none, errW_some] <;> rfl), by repeat (first | (with_reducible first | exact HB.out | apply below_alloc | apply pw_below_drewN | apply below_drew1 | refine below_set ?_ GE280.out) | exact HB.out)⟩
                  · rw [if_neg c21] at H
                    exact absurd H (by simp)
                · rw [if_neg c20] at H
                  exact absurd H (by simp)
end Go.Proofs.Ythanlckjfghnkaa.PW
end
section
namespace Go.Proofs.Ythanlckjfghnkaa.Pb
open Go.RowKit Go.Proofs.YthanlckjfghnkaaW.PrintWords Go.Proofs.Ythanlckjfghnkaa.PW Go.Proofs.Ythanlckjfghnkaa.Pc
set_option linter.unusedVariables false
set_option linter.unusedSimpArgs false
theorem sz_le (s : Int) (l : List Int) (n : Int) (h : (l.length : Int) ≤ n) (hn : n ≤ 1048576) : laws_szWhole.f s l n = some (n - l.length) := by
  unfold laws_szWhole.f laws_szInt64S.f
  rw [wrapZ _ (by omega) (by omega), if_neg (by omega)]
  simp only [Option.bind_some]
  rw [if_neg (by omega)]
theorem sz_gt (s : Int) (l : List Int) (n : Int) (hm : l.length ≤ 9223372036854775807) (hn : n ≤ 1048576) (h : n < (l.length : Int)) (h0 : 0 ≤ n) : laws_szWhole.f s l n = some (-1) := by
  unfold laws_szWhole.f laws_szInt64S.f
  rw [wrapZ _ (by omega) (by omega), if_pos (by omega)]
  rfl
theorem take_step {l ys : List Int} {i : Nat} (hi : i < l.length) (hy : ys.length = l.length) (h : ys.take i = l.take i) : (ys.set i (l.getD i 0)).take (i + 1) = l.take (i + 1) := by
  rw [List.take_succ_eq_append_getElem (by simp; omega), List.take_succ_eq_append_getElem hi, Dg.take_set, h]
  simp [hi]
theorem toInt64S_loop (l : List Int) (hl : l.length ≤ 1048576) (d : Nat) : ∀ (i : Nat) (ys : List Int), i + d = l.length → ys.length = l.length → ys.take i = l.take i → Ev (fun k => laws_toInt64S.l0 k l ys (i : Int)) l := by
  induction d with
  | zero =>
    intro i ys hd hy h
    refine Ev.step (f := fun k => some l) (fun k => ?_) (ev_of fun _ => rfl)
    simp only [laws_toInt64S.l0]
    rw [if_neg (by omega)]
    rw [List.take_of_length_le (by omega), List.take_of_length_le (by omega)] at h
    rw [h]
  | succ d ih =>
    intro i ys hd hy h
    refine Ev.step (f := fun k => laws_toInt64S.l0 k l (ys.set i (l.getD i 0)) ((i + 1 : Nat) : Int)) (fun k => ?_) (ih (i + 1) _ (by omega) (by simpa using hy) (take_step (by omega) hy h))
    simp only [laws_toInt64S.l0]
    rw [if_pos (by omega), if_pos (by omega), if_pos (by omega), wrapN i (by omega), rdN, Int.toNat_natCast]
theorem toWhole (s : Int) (l : List Int) (hl : l.length ≤ 1048576) : Ev (fun k => laws_toWhole.f k s l) (s, l) := by
  unfold laws_toWhole.f laws_toInt64S.f
  refine Ev.bind (f := fun _ t => some (s, t)) (ifp (by omega) (ifp (by omega) ?_)) (ev_of fun _ => rfl)
  exact (toInt64S_loop l hl l.length 0 _ (by omega) (by simp) (by simp))
theorem eqInt64S_loop (l : List Int) (hl : l.length ≤ 9223372036854775807) (d : Nat) : ∀ (i : Nat), i + d = l.length → Ev (fun k => laws_eqInt64S.l0 k l l (i : Int)) true := by
  induction d with
  | zero =>
    intro i hd
    refine Ev.step (f := fun k => some true) (fun k => ?_) (ev_of fun _ => rfl)
    simp only [laws_eqInt64S.l0]
    rw [if_neg (by omega)]
  | succ d ih =>
    intro i hd
    refine Ev.step (f := fun k => laws_eqInt64S.l0 k l l ((i + 1 : Nat) : Int)) (fun k => ?_) (ih (i + 1) (by omega))
    simp only [laws_eqInt64S.l0]
    rw [if_pos (by omega), if_pos (by omega), if_pos (by omega), if_pos trivial, wrapZ _ (by omega) (by omega)]
    rfl
theorem eqWhole_self (s : Int) (l : List Int) (hl : l.length ≤ 9223372036854775807) : Ev (fun k => laws_eqWhole.f k s l s l) true := by
  unfold laws_eqWhole.f laws_eqInt64S.f
  exact ifp rfl (Ev.bind (f := fun _ (t : Bool) => if t = true then some true else some false) (ifp rfl (eqInt64S_loop l hl l.length 0 (by omega))) (ev_of fun _ => rfl))
def digB (l : List Int) : Bool := l.all fun x => decide (0 ≤ x) && decide (x ≤ 16777215)
def isW (s : Int) (l : List Int) : Bool :=
  digB l && (if l.length = 0 then s == 0 else decide (l.length ≤ 100) && (l.getD (l.length - 1) 0 != 0) && (s == 1 || s == -1))
theorem l02Is_loop (s : Int) (l : List Int) (hl : l.length ≤ 9223372036854775807) (d : Nat) : ∀ (i : Nat), i + d = l.length →
    Ev (fun k => spec_l02Is.l0 k (l.length : Int) (i : Int) s l) (digB (l.drop i) && (if l.length = 0 then s == 0 else decide (l.length ≤ 100) && (l.getD (l.length - 1) 0 != 0) && (s == 1 || s == -1))) := by
  induction d with
  | zero =>
    intro i hd
    have hi : i = l.length := by omega
    subst hi
    refine Ev.step (f := fun k => some _) (fun k => ?_) (ev_of fun _ => rfl)
    simp only [spec_l02Is.l0]
    rw [if_neg (by omega), List.drop_length]
    simp only [digB, List.all_nil, Bool.true_and]
    by_cases h0 : l.length = 0
    · rw [if_pos (by omega), if_pos h0]
    · rw [if_neg (by omega), if_neg h0]
      by_cases h1 : l.length ≤ 100
      · rw [if_pos (by omega), wrapZ _ (by omega) (by omega), if_pos (by omega), if_pos (by omega), show ((l.length : Int) - 1) = ((l.length - 1 : Nat) : Int) by omega, rdN]
        simp only [h1, decide_true, Bool.true_and]
        by_cases h2 : l.getD (l.length - 1) 0 = 0
        · rw [if_pos h2, h2]; simp
        · rw [if_neg h2]
          have h4 : (l.getD (l.length - 1) 0 != 0) = true := by rw [bne_iff_ne]; exact h2
          rw [h4]
          by_cases h3 : s = 1
          · rw [if_pos h3]; simp [h3]
          · rw [if_neg h3]; simp [h3]
      · rw [if_neg (by omega)]; simp [h1]
  | succ d ih =>
    intro i hd
    have hlt : i < l.length := by omega
    have hdrop : l.drop i = l.getD i 0 :: l.drop (i + 1) := by rw [List.drop_eq_getElem_cons hlt, Dg.getD_lt hlt]
    by_cases hx : 0 ≤ l.getD i 0 ∧ l.getD i 0 ≤ 16777215
    · have e : digB (l.drop i) = digB (l.drop (i + 1)) := by rw [hdrop]; simp only [digB, List.all_cons, hx.1, hx.2, decide_true, Bool.true_and]
      rw [e]
      refine Ev.step (f := fun k => spec_l02Is.l0 k (l.length : Int) ((i + 1 : Nat) : Int) s l) (fun k => ?_) (ih (i + 1) (by omega))
      simp only [spec_l02Is.l0]
      rw [if_pos (by omega), if_pos (by omega), if_pos (by omega), rdN]
      unfold spec_l01In.f
      rw [if_pos hx.1]
      simp only [Option.bind_some, hx.2, decide_true, if_true]
      rw [wrapZ _ (by omega) (by omega)]
      rfl
    · have e : digB (l.drop i) = false := by rw [hdrop]; simp only [digB, List.all_cons, Bool.and_eq_false_iff, decide_eq_false_iff_not]; omega
      rw [e, Bool.false_and]
      refine Ev.step (f := fun k => some false) (fun k => ?_) (ev_of fun _ => rfl)
      simp only [spec_l02Is.l0]
      rw [if_pos (by omega), if_pos (by omega), if_pos (by omega), rdN]
      unfold spec_l01In.f
      by_cases h1 : 0 ≤ l.getD i 0
      · rw [if_pos h1]
        have h2 : ¬ l.getD i 0 ≤ 16777215 := fun h => hx ⟨h1, h⟩
        simp only [h2, decide_false, Option.bind_some]; rfl
      · rw [if_neg h1]; rfl
theorem l02Is (s : Int) (l : List Int) (hl : l.length ≤ 9223372036854775807) : Ev (fun k => spec_l02Is.f k s l) (isW s l) := by
  have := l02Is_loop s l hl l.length 0 (by omega)
  rw [List.drop_zero] at this
  exact this
theorem impl_loop (s : Int) (l : List Int) (hl : l.length ≤ 9223372036854775807) (d : Nat) : ∀ (i : Nat), i + d = l.length →
    Ev (fun k => impl_IsWhole.l0 k (l.length : Int) l (l.length : Int) (i : Int) s l) (digB (l.drop i) && (decide (l.length = 0) || (l.getD (l.length - 1) 0 != 0))) := by
  induction d with
  | zero =>
    intro i hd
    have hi : i = l.length := by omega
    subst hi
    refine Ev.step (f := fun k => some _) (fun k => ?_) (ev_of fun _ => rfl)
    simp only [impl_IsWhole.l0]
    rw [if_neg (by omega), List.drop_length]
    simp only [digB, List.all_nil, Bool.true_and]
    by_cases h0 : l.length = 0
    · rw [if_pos (by omega)]; simp [h0]
    · rw [if_neg (by omega), wrapZ _ (by omega) (by omega), if_pos (by omega), if_pos (by omega), show ((l.length : Int) - 1) = ((l.length - 1 : Nat) : Int) by omega, rdN]
      simp [h0]
  | succ d ih =>
    intro i hd
    have hlt : i < l.length := by omega
    have hdrop : l.drop i = l.getD i 0 :: l.drop (i + 1) := by rw [List.drop_eq_getElem_cons hlt, Dg.getD_lt hlt]
    by_cases hx : 0 ≤ l.getD i 0 ∧ l.getD i 0 ≤ 16777215
    · have e : digB (l.drop i) = digB (l.drop (i + 1)) := by rw [hdrop]; simp only [digB, List.all_cons, hx.1, hx.2, decide_true, Bool.true_and]
      rw [e]
      refine Ev.step (f := fun k => impl_IsWhole.l0 k (l.length : Int) l (l.length : Int) ((i + 1 : Nat) : Int) s l) (fun k => ?_) (ih (i + 1) (by omega))
      simp only [impl_IsWhole.l0]
      rw [if_pos (by omega), if_pos (by omega), if_pos (by omega), rdN, if_neg (by omega), if_neg (by omega), wrapZ _ (by omega) (by omega)]
      rfl
    · have e : digB (l.drop i) = false := by rw [hdrop]; simp only [digB, List.all_cons, Bool.and_eq_false_iff, decide_eq_false_iff_not]; omega
      rw [e, Bool.false_and]
      refine Ev.step (f := fun k => some false) (fun k => ?_) (ev_of fun _ => rfl)
      simp only [impl_IsWhole.l0]
      rw [if_pos (by omega), if_pos (by omega), if_pos (by omega), rdN]
      by_cases h1 : l.getD i 0 < 0
      · rw [if_pos h1]
      · rw [if_neg h1, if_pos (by omega)]
theorem j0_true (n s : Int) (l : List Int) : Ev (fun k => impl_IsWhole.j0 k n true s l) false :=
  Ev.step (f := fun _ => some false) (fun k => by simp only [impl_IsWhole.j0]; rw [if_pos trivial]) (ev_of fun _ => rfl)
theorem iIs (s : Int) (l : List Int) (hl : l.length ≤ 9223372036854775807) : Ev (fun k => impl_IsWhole.f k s l) (isW s l) := by
  unfold impl_IsWhole.f
  by_cases h1 : (l.length : Int) > 100
  · have : isW s l = false := by unfold isW; rw [if_neg (by omega), show decide (l.length ≤ 100) = false by simp; omega]; simp
    rw [this]; exact ifp h1 (j0_true _ _ _)
  · refine ifn h1 ?_
    by_cases h2 : s < -1
    · have : isW s l = false := by
        unfold isW
        have e1 : (s == 0) = false := by simp; omega
        have e2 : (s == 1 || s == -1) = false := by simp; omega
        rw [e1, e2]; split <;> simp
      rw [this]; exact ifp h2 (j0_true _ _ _)
    · refine ifn h2 ?_
      by_cases h3 : s > 1
      · have : isW s l = false := by
          unfold isW
          have e1 : (s == 0) = false := by simp; omega
          have e2 : (s == 1 || s == -1) = false := by simp; omega
          rw [e1, e2]; split <;> simp
        rw [this]; exact ifp h3 (j0_true _ _ _)
      · refine ifn h3 ?_
        by_cases h0 : l.length = 0
        · have e0 : ((l.length : Int) == 0) = true := beq_iff_eq.2 (by omega)
          rw [e0]
          by_cases hs : s = 0
          · subst hs
            have := impl_loop 0 l hl l.length 0 (by omega)
            rw [List.drop_zero] at this
            have e : isW 0 l = (digB l && (decide (l.length = 0) || (l.getD (l.length - 1) 0 != 0))) := by
              unfold isW; rw [if_pos h0]; simp only [h0, decide_true, Bool.true_or]; rfl
            rw [e]
            exact Ev.step (f := fun k => impl_IsWhole.l0 k (l.length : Int) l (l.length : Int) 0 0 l) (fun k => by simp only [impl_IsWhole.j0]; rw [if_neg (by simp)]) this
          · have e1 : (s == 0) = false := by simp; omega
            have : isW s l = false := by unfold isW; rw [if_pos h0, e1]; simp
            rw [this, e1]; exact j0_true _ _ _
        · have e0 : ((l.length : Int) == 0) = false := beq_eq_false_iff_ne.2 (by omega)
          rw [e0]
          by_cases hs : s = 0
          · subst hs
            have : isW 0 l = false := by unfold isW; rw [if_neg h0]; simp
            rw [this]; exact j0_true _ _ _
          · have e1 : (s == 0) = false := by simp; omega
            rw [e1]
            have := impl_loop s l hl l.length 0 (by omega)
            rw [List.drop_zero] at this
            have e2 : (s == 1 || s == -1) = true := by simp; omega
            have e : isW s l = (digB l && (decide (l.length = 0) || (l.getD (l.length - 1) 0 != 0))) := by
              unfold isW; rw [if_neg h0, e2, show decide (l.length ≤ 100) = true by simp; omega, decide_eq_false h0]; simp only [Bool.true_and, Bool.and_true, Bool.false_or]
            rw [e]
            exact Ev.step (f := fun k => impl_IsWhole.l0 k (l.length : Int) l (l.length : Int) 0 s l) (fun k => by simp only [impl_IsWhole.j0]; rw [if_neg (by simp)]) this
end Go.Proofs.Ythanlckjfghnkaa.Pb
end
section
namespace Go.Proofs.Ythanlckjfghnkaa.Pw
open Go.RowKit Go.Proofs.YthanlckjfghnkaaW.PrintWords Go.Proofs.Ythanlckjfghnkaa.Pb Go.Proofs.Ythanlckjfghnkaa.Pc Go.Proofs.Ythanlckjfghnkaa.Pm Dg
set_option linter.unusedVariables false
set_option linter.unusedSimpArgs false
def wv (s : Int) (l : List Int) : Int := if s < 0 then -(val 16777216 l) else val 16777216 l
theorem digB_iff {l : List Int} : digB l = true ↔ Dig 16777216 l := by
  unfold digB Dig
  rw [List.all_eq_true]
  constructor
  · intro h d hd
    have := h d hd
    simp at this
    omega
  · intro h d hd
    have := h d hd
    simp
    omega
theorem isW_spec {s : Int} {l : List Int} (h : isW s l = true) : Dig 16777216 l ∧ l.length ≤ 100 ∧ Top l ∧ (l = [] ∧ s = 0 ∨ l ≠ [] ∧ (s = 1 ∨ s = -1)) := by
  unfold isW at h
  rw [Bool.and_eq_true] at h
  refine ⟨digB_iff.1 h.1, ?_⟩
  have h2 := h.2
  by_cases h0 : l.length = 0
  · rw [if_pos h0] at h2
    have hl : l = [] := List.length_eq_zero_iff.1 h0
    refine ⟨by omega, fun hne => absurd hl hne, .inl ⟨hl, by simpa using h2⟩⟩
  · rw [if_neg h0, Bool.and_eq_true, Bool.and_eq_true] at h2
    obtain ⟨⟨h3, h4⟩, h5⟩ := h2
    have hl : l ≠ [] := by rintro rfl; simp at h0
    refine ⟨by simpa using h3, top_iff.2 (.inr (by rw [bne_iff_ne] at h4; exact h4)), .inr ⟨hl, ?_⟩⟩
    rw [Bool.or_eq_true, beq_iff_eq, beq_iff_eq] at h5
    exact h5
theorem isW_eq {s : Int} {l : List Int} (h : isW s l = true) : s = sgn (wv s l) ∧ l = L (wv s l).natAbs ∧ bl (wv s l).natAbs ≤ 2400 := by
  obtain ⟨hd, hl, ht, hs⟩ := isW_spec h
  have h0 := val_nonneg hd
  have habs : (wv s l).natAbs = (val 16777216 l).toNat := by unfold wv; split <;> omega
  have hL : l = L (wv s l).natAbs := by rw [habs]; exact (L_of hd ht).symm
  refine ⟨?_, hL, ?_⟩
  · rcases hs with ⟨rfl, rfl⟩ | ⟨hne, hs⟩
    · rfl
    · have hp := val_pos hd ht hne (by decide)
      rcases hs with rfl | rfl
      · have e : wv 1 l = val 16777216 l := by unfold wv; rw [if_neg (by decide)]
        rw [e]; unfold sgn; rw [if_neg (by omega), if_neg (by omega)]
      · have e : wv (-1) l = -(val 16777216 l) := by unfold wv; rw [if_pos (by decide)]
        rw [e]; unfold sgn; rw [if_pos (by omega)]
  · have := (L_len_iff (wv s l).natAbs 100).1 (by rw [← hL]; exact hl)
    omega
def fit (z : Int) : Int × List Int × Int := if bl z.natAbs ≤ 2400 then (sgn z, L z.natAbs, 0) else (0, [], 3)
end Go.Proofs.Ythanlckjfghnkaa.Pw
end
section
set_option linter.unusedVariables false
set_option linter.unusedSimpArgs false
namespace Go.Proofs.Ythanlckjfghnkaa.Dy
open Go.RowKit Go.Proofs.YthanlckjfghnkaaW.PrintWords Go.Proofs.YthanlckjfghnkaaW.PrintMore Go.Proofs.Ythanlckjfghnkaa.PW Go.Proofs.Ythanlckjfghnkaa.Pc Go.Proofs.Ythanlckjfghnkaa.Pn Go.Proofs.Ythanlckjfghnkaa.Po Dg Go.Proofs.Ythanlckjfghnkaa.Dw Go.Proofs.Ythanlckjfghnkaa.Dx
theorem trimmed {xs : List Int} (hd : Dig 4294967296 xs) {m : Nat} (hm : m ≤ xs.length) (hz : ∀ j, m ≤ j → xs.getD j 0 = 0) (ht : m = 0 ∨ xs.getD (m - 1) 0 ≠ 0) : D (val 4294967296 xs).toNat = xs.take m := by
  have e := val_take_drop (B := 4294967296) xs m hm
  have : xs.drop m = List.replicate (xs.length - m) 0 := by
    apply List.ext_getElem (by simp)
    intro j h1 h2
    have := hz (m + j) (by omega)
    rw [List.getD, List.getElem?_eq_getElem (by simp at h1; omega)] at this
    simpa using this
  rw [this, val_zeros, Int.mul_zero, Int.add_zero] at e
  rw [e]
  exact D_of (hd.take m) (top_take_of hm ht)
structure Lf (a : List Int) (n i : Nat) (ys : List Int) : Prop where
  len : ys.length = a.length + 1
  dig : Dig 4294967296 ys
  z : ∀ j, i < j → ys.getD j 0 = 0
  lt : ys.getD i 0 < 2 ^ n
  inv : val 4294967296 ys = val 4294967296 (a.take i) * 2 ^ n
theorem Lf.start (a : List Int) (n : Nat) : Lf a n 0 (List.replicate (a.length + 1) 0) := by
  have hz : ∀ j, (List.replicate (a.length + 1) (0 : Int)).getD j 0 = 0 := fun j => by simp [List.getD, List.getElem?_replicate]; split <;> rfl
  refine ⟨by simp, dig_replicate (by decide) _, fun j _ => hz j, ?_, ?_⟩
  · rw [hz]; exact Int.pow_pos (by decide)
  · rw [val_zeros, List.take_zero, val_nil, Int.zero_mul]
theorem Lf.step {a ys : List Int} {n i : Nat} {w : Int} (h : Lf a n i ys) (ha : Dig 4294967296 a) (hn : n < 32) (hi : i < a.length) (hw : w = a.getD i 0 * 2 ^ n) :
    Lf a n (i + 1) ((ys.set i (ys.getD i 0 + w % 4294967296)).set (i + 1) (w / 4294967296)) ∧ shl .u64 (a.getD i 0) (n : Int) = w ∧ bits .or .u32 (ys.getD i 0) (w % 4294967296) = ys.getD i 0 + w % 4294967296 ∧
    0 ≤ w ∧ w < 18446744073709551616 ∧ 0 ≤ ys.getD i 0 + w % 4294967296 ∧ ys.getD i 0 + w % 4294967296 < 4294967296 ∧ 0 ≤ w / 4294967296 ∧ w / 4294967296 < 4294967296 := by
  have hai := ha.all0 (by decide) i
  have hyi := h.dig.all0 (by decide) i
  have hz1 := h.z (i + 1) (by omega)
  have hlen := h.len
  rw [castB] at hai hyi
  obtain ⟨hs1, hs2, hs3⟩ := shl_id hai.1 hai.2 hn
  have hlow := low_mult (x := a.getD i 0) hn
  have hhigh := high_lt hai.1 hai.2 hn
  rw [← hw] at hs1 hs2 hs3 hlow hhigh
  have hor := or_low hn hyi.1 h.lt (y := w % 4294967296) (by omega) (by omega) hlow
  have hp := pow_le32 hn
  have hsum : ys.getD i 0 + w % 4294967296 < 4294967296 := by
    have h1 : w % 4294967296 ≤ 4294967296 - 2 ^ n := by
      have e : (4294967296 : Int) % 2 ^ n = 0 := by
        have : (4294967296 : Int) = 2 ^ (32 - n) * 2 ^ n := by rw [← Int.pow_add, show 32 - n + n = 32 by omega]; rfl
        rw [this]; simp
      have h2 : (4294967296 - w % 4294967296) % 2 ^ n = 0 := by
        rw [Int.sub_emod, e, hlow]; simp
      have h3 : 0 < 4294967296 - w % 4294967296 := by omega
      have h4 := Int.emod_add_mul_ediv (4294967296 - w % 4294967296) (2 ^ n)
      rw [h2, Int.zero_add] at h4
      have h5 : 0 < (4294967296 - w % 4294967296) / 2 ^ n := by
        rcases Int.lt_or_le 0 ((4294967296 - w % 4294967296) / 2 ^ n) with h | h
        · exact h
        · have := Int.mul_nonneg (show (0 : Int) ≤ 2 ^ n by omega) (show 0 ≤ -((4294967296 - w % 4294967296) / 2 ^ n) by omega)
          rw [Int.mul_neg] at this
          omega
      have h6 : (2 : Int) ^ n * 1 ≤ 2 ^ n * ((4294967296 - w % 4294967296) / 2 ^ n) := Int.mul_le_mul_of_nonneg_left (by omega) (by omega)
      omega
    have := h.lt
    omega
  refine ⟨⟨by simpa using hlen, (h.dig.set _ (by omega) (by omega)).set _ (by omega) (by omega), fun j hj => ?_, ?_, ?_⟩, hs1, hor, hs2, by omega, by omega, hsum, by omega, by omega⟩
  · rw [Dg.getD_set_ne (by omega), Dg.getD_set_ne (by omega)]; exact h.z j (by omega)
  · rw [Dg.getD_set_eq (by simp <;> omega)]; exact hhigh
  · rw [val_set (by simp <;> omega), val_set (by omega), Dg.getD_set_ne (by omega), hz1, val_take_succ' a i, h.inv, Int.pow_succ, castB]
    have h1 : w = w % 4294967296 + 4294967296 * (w / 4294967296) := by omega
    generalize (4294967296 : Int) ^ i = P at *
    generalize w % 4294967296 = lo at *
    generalize w / 4294967296 = hi at *
    generalize a.getD i 0 = ai at *
    generalize (2 : Int) ^ n = R at *
    generalize val 4294967296 (List.take i a) = Va at *
    generalize ys.getD i 0 = y0 at *
    clear h hlow hhigh hsum hor hs1 hs2 hs3
    have h2 : ai * R = lo + 4294967296 * hi := by rw [← hw]; exact h1
    have h3 : P * (ai * R) = P * (lo + 4294967296 * hi) := by rw [h2]
    clear hw h1 h2 hp hai hyi
    grind
theorem Lf.done {a n : Nat} {ys : List Int} (h : Lf (D a) n (D a).length ys) : (val 4294967296 ys).toNat = a * 2 ^ n := by
  have := h.inv
  rw [List.take_length, D_val] at this
  rw [this]
  have e : ((a : Int) * 2 ^ n) = ((a * 2 ^ n : Nat) : Int) := by simp
  rw [e, Int.toNat_natCast]
end Go.Proofs.Ythanlckjfghnkaa.Dy
end
section
namespace Go.Proofs.Ythanlckjfghnkaa.PW
open Go.RowKit Go.Proofs.YthanlckjfghnkaaW.PrintWords Go.Proofs.YthanlckjfghnkaaW.PrintLast Go.Proofs.YthanlckjfghnkaaW.PrintMore
attribute [local go_sem] max2_int min2_int max_two min_two max_three min_three max_four min_four   -- for this text's walks alone
set_option linter.unusedVariables false
set_option linter.unusedSimpArgs false
def spec_l02Left.l0 : Nat → Int → List Int → Int → Int → Int → List Int → Option (Int × List Int)
  | 0, _, _, _, _, _, _ => none
  | k + 1, x1, x5, x6, x7, x212000, x212001 => if x7 < (x212001.length : Int) then (if 0 ≤ x7 then (if 0 ≤ (IntKind.u64.wrap (Int.tmod x1 24)) then (if x5.length < 17592186044416 then (spec_l02Left.l0 k x1 (x5 ++ [Int.tmod (wrap64 (x6 + (shl .i64 (rd x212001 x7) (IntKind.u64.wrap (Int.tmod x1 24))))) 16777216]) (wrap64 (Int.tdiv (wrap64 (x6 + (shl .i64 (rd x212001 x7) (IntKind.u64.wrap (Int.tmod x1 24))))) 16777216)) (wrap64 (x7 + 1)) x212000 x212001) else (none)) else (none)) else (none)) else (if x5.length < 17592186044416 then ((spec_l02Make.f k x212000 (x5 ++ [x6])).bind fun bt223 => (some (bt223.1, bt223.2))) else (none))
def spec_l02Left.f (k : Nat) (a0_0 : Int) (l0_1 : List Int) (a1 : Int) : Option (Int × List Int) := if 0 ≤ (wrap64 (Int.tdiv a1 24)) then (if (wrap64 (Int.tdiv a1 24) : Int).toNat ≤ 35184372088832 then (spec_l02Left.l0 k a1 (List.replicate (wrap64 (Int.tdiv a1 24) : Int).toNat 0) 0 0 a0_0 l0_1) else (none)) else (none)
theorem spec_l02Left.mono_l : ∀ k, (∀ y0 y1 y2 y3 y4 y5, LeO (spec_l02Left.l0 k y0 y1 y2 y3 y4 y5) (spec_l02Left.l0 (k + 1) y0 y1 y2 y3 y4 y5))
  | 0 => fun _ _ _ _ _ _ r h => by simp [spec_l02Left.l0] at h
  | k + 1 => by
    have ih0 := spec_l02Left.mono_l k
    · intro y0 y1 y2 y3 y4 y5
      unfold spec_l02Left.l0
      repeat' first
      | (with_reducible exact ih0 _ _ _ _ _ _)
      | (with_reducible exact spec_l02Make.mono _ _ _)
      | (with_reducible exact LeO.refl _)
      | (with_reducible exact LeO.none _)
      | (with_reducible refine LeO.ite ?_ ?_)
      | (with_reducible refine LeO.bind ?_ (fun _ => ?_))
      | exact ih0 _ _ _ _ _ _
      | exact spec_l02Make.mono _ _ _
      | exact LeO.none _
      | refine LeO.ite ?_ ?_
      | refine LeO.bind ?_ (fun _ => ?_)
theorem spec_l02Left.mono : ∀ a0 a1 a2 k, LeO (spec_l02Left.f k a0 a1 a2) (spec_l02Left.f (k + 1) a0 a1 a2) := by
  intro a0 a1 a2 k
  have ih0 := spec_l02Left.mono_l k
  unfold spec_l02Left.f
  repeat' first
      | (with_reducible exact ih0 _ _ _ _ _ _)
      | (with_reducible exact spec_l02Make.mono _ _ _)
      | (with_reducible exact LeO.refl _)
      | (with_reducible exact LeO.none _)
      | (with_reducible refine LeO.ite ?_ ?_)
      | (with_reducible refine LeO.bind ?_ (fun _ => ?_))
      | exact ih0 _ _ _ _ _ _
      | exact spec_l02Make.mono _ _ _
      | exact LeO.none _
      | refine LeO.ite ?_ ?_
      | refine LeO.bind ?_ (fun _ => ?_)
end Go.Proofs.Ythanlckjfghnkaa.PW
end
section
namespace Go.Proofs.Ythanlckjfghnkaa.PW
open Go.RowKit Go.Proofs.YthanlckjfghnkaaW.PrintWords Go.Proofs.YthanlckjfghnkaaW.PrintLast Go.Proofs.YthanlckjfghnkaaW.PrintMore
attribute [local go_sem] max2_int min2_int max_two min_two max_three min_three max_four min_four   -- for this text's walks alone
set_option linter.unusedVariables false
set_option linter.unusedSimpArgs false
def spec_l02Cut.l0 : Nat → Int → List Int → Int → Int → List Int → Option (Int × List Int)
  | 0, _, _, _, _, _ => none
  | k + 1, x1, x5, x6, x580000, x580001 => if x6 < (x580001.length : Int) then (if 0 ≤ x6 then (if 0 ≤ (IntKind.u64.wrap (Int.tmod x1 24)) then (if (wrap64 (x6 + 1)) < (x580001.length : Int) then (if 0 ≤ (wrap64 (x6 + 1)) then (if 0 ≤ (IntKind.u64.wrap (wrap64 (24 - (Int.tmod x1 24)))) then (if x5.length < 17592186044416 then (spec_l02Cut.l0 k x1 (x5 ++ [Int.tmod (wrap64 ((shr .i64 (rd x580001 x6) (IntKind.u64.wrap (Int.tmod x1 24))) + (shl .i64 (rd x580001 (wrap64 (x6 + 1))) (IntKind.u64.wrap (wrap64 (24 - (Int.tmod x1 24))))))) 16777216]) (wrap64 (x6 + 1)) x580000 x580001) else (none)) else (none)) else (none)) else (if x5.length < 17592186044416 then (spec_l02Cut.l0 k x1 (x5 ++ [shr .i64 (rd x580001 x6) (IntKind.u64.wrap (Int.tmod x1 24))]) (wrap64 (x6 + 1)) x580000 x580001) else (none))) else (none)) else (none)) else ((spec_l02Make.f k x580000 x5).bind fun bt592 => (some (bt592.1, bt592.2)))
def spec_l02Cut.f (k : Nat) (a0_0 : Int) (l0_1 : List Int) (a1 : Int) : Option (Int × List Int) := spec_l02Cut.l0 k a1 (([] : List Int)) (wrap64 (Int.tdiv a1 24)) a0_0 l0_1
theorem spec_l02Cut.mono_l : ∀ k, (∀ y0 y1 y2 y3 y4, LeO (spec_l02Cut.l0 k y0 y1 y2 y3 y4) (spec_l02Cut.l0 (k + 1) y0 y1 y2 y3 y4))
  | 0 => fun _ _ _ _ _ r h => by simp [spec_l02Cut.l0] at h
  | k + 1 => by
    have ih0 := spec_l02Cut.mono_l k
    · intro y0 y1 y2 y3 y4
      unfold spec_l02Cut.l0
      repeat' first
      | (with_reducible exact ih0 _ _ _ _ _)
      | (with_reducible exact spec_l02Make.mono _ _ _)
      | (with_reducible exact LeO.refl _)
      | (with_reducible exact LeO.none _)
      | (with_reducible refine LeO.ite ?_ ?_)
      | (with_reducible refine LeO.bind ?_ (fun _ => ?_))
      | exact ih0 _ _ _ _ _
      | exact spec_l02Make.mono _ _ _
      | exact LeO.none _
      | refine LeO.ite ?_ ?_
      | refine LeO.bind ?_ (fun _ => ?_)
theorem spec_l02Cut.mono : ∀ a0 a1 a2 k, LeO (spec_l02Cut.f k a0 a1 a2) (spec_l02Cut.f (k + 1) a0 a1 a2) := by
  intro a0 a1 a2 k
  have ih0 := spec_l02Cut.mono_l k
  unfold spec_l02Cut.f
  repeat' first
      | (with_reducible exact ih0 _ _ _ _ _)
      | (with_reducible exact spec_l02Make.mono _ _ _)
      | (with_reducible exact LeO.refl _)
      | (with_reducible exact LeO.none _)
      | (with_reducible refine LeO.ite ?_ ?_)
      | (with_reducible refine LeO.bind ?_ (fun _ => ?_))
      | exact ih0 _ _ _ _ _
      | exact spec_l02Make.mono _ _ _
      | exact LeO.none _
      | refine LeO.ite ?_ ?_
      | refine LeO.bind ?_ (fun _ => ?_)
end Go.Proofs.Ythanlckjfghnkaa.PW
end
section
namespace Go.Proofs.Ythanlckjfghnkaa.PW
open Go.RowKit Go.Proofs.YthanlckjfghnkaaW.PrintWords Go.Proofs.YthanlckjfghnkaaW.PrintLast Go.Proofs.YthanlckjfghnkaaW.PrintMore
attribute [local go_sem] max2_int min2_int max_two min_two max_three min_three max_four min_four   -- for this text's walks alone
set_option linter.unusedVariables false
set_option linter.unusedSimpArgs false
def spec_l02Twos.l0 : Nat → Int → Int → List Int → Option (Int)
  | 0, _, _, _ => none
  | k + 1, x3, x578000, x578001 => (spec_l02Bit.f x578000 x578001 x3).bind fun t578 => (if t578 = 0 then (spec_l02Twos.l0 k (wrap64 (x3 + 1)) x578000 x578001) else (some x3))
def spec_l02Twos.f (k : Nat) (a0_0 : Int) (l0_1 : List Int) : Option (Int) := spec_l02Twos.l0 k 0 a0_0 l0_1
theorem spec_l02Twos.mono_l : ∀ k, (∀ y0 y1 y2, LeO (spec_l02Twos.l0 k y0 y1 y2) (spec_l02Twos.l0 (k + 1) y0 y1 y2))
  | 0 => fun _ _ _ r h => by simp [spec_l02Twos.l0] at h
  | k + 1 => by
    have ih0 := spec_l02Twos.mono_l k
    · intro y0 y1 y2
      unfold spec_l02Twos.l0
      repeat' first
      | (with_reducible exact ih0 _ _ _)
      | (with_reducible exact LeO.refl _)
      | (with_reducible exact LeO.none _)
      | (with_reducible refine LeO.ite ?_ ?_)
      | (with_reducible refine LeO.bind ?_ (fun _ => ?_))
      | exact ih0 _ _ _
      | exact LeO.none _
      | refine LeO.ite ?_ ?_
      | refine LeO.bind ?_ (fun _ => ?_)
theorem spec_l02Twos.mono : ∀ a0 a1 k, LeO (spec_l02Twos.f k a0 a1) (spec_l02Twos.f (k + 1) a0 a1) := by
  intro a0 a1 k
  have ih0 := spec_l02Twos.mono_l k
  unfold spec_l02Twos.f
  repeat' first
      | (with_reducible exact ih0 _ _ _)
      | (with_reducible exact LeO.refl _)
      | (with_reducible exact LeO.none _)
      | (with_reducible refine LeO.ite ?_ ?_)
      | (with_reducible refine LeO.bind ?_ (fun _ => ?_))
      | exact ih0 _ _ _
      | exact LeO.none _
      | refine LeO.ite ?_ ?_
      | refine LeO.bind ?_ (fun _ => ?_)
end Go.Proofs.Ythanlckjfghnkaa.PW
end
section
namespace Go.Proofs.Ythanlckjfghnkaa.PW
open Go.RowKit Go.Proofs.YthanlckjfghnkaaW.PrintWords Go.Proofs.YthanlckjfghnkaaW.PrintLast Go.Proofs.YthanlckjfghnkaaW.PrintMore
attribute [local go_sem] max2_int min2_int max_two min_two max_three min_three max_four min_four   -- for this text's walks alone
set_option linter.unusedVariables false
set_option linter.unusedSimpArgs false
mutual
def spec_l02Plus.l0 : Nat → List Int → List Int → List Int → Int → Int → Option (List Int)
  | 0, _, _, _, _, _ => none
  | k + 1, x0, x1, x5, x6, x7 => if x7 < (x0.length : Int) then (spec_l02Plus.j1 k x0 x1 x5 x6 x7 true) else (if x7 < (x1.length : Int) then (spec_l02Plus.j1 k x0 x1 x5 x6 x7 true) else (spec_l02Plus.j1 k x0 x1 x5 x6 x7 (decide (x6 > 0))))
def spec_l02Plus.j1 : Nat → List Int → List Int → List Int → Int → Int → Bool → Option (List Int)
  | 0, _, _, _, _, _, _ => none
  | k + 1, x0, x1, x5, x6, x7, x22 => if x22 = true then (if x7 < (x0.length : Int) then (if 0 ≤ x7 then (if x7 < (x1.length : Int) then (if x5.length < 17592186044416 then (spec_l02Plus.l0 k x0 x1 (x5 ++ [Int.tmod (wrap64 ((wrap64 (x6 + (rd x0 x7))) + (rd x1 x7))) 16777216]) (wrap64 (Int.tdiv (wrap64 ((wrap64 (x6 + (rd x0 x7))) + (rd x1 x7))) 16777216)) (wrap64 (x7 + 1))) else (none)) else (if x5.length < 17592186044416 then (spec_l02Plus.l0 k x0 x1 (x5 ++ [Int.tmod (wrap64 (x6 + (rd x0 x7))) 16777216]) (wrap64 (Int.tdiv (wrap64 (x6 + (rd x0 x7))) 16777216)) (wrap64 (x7 + 1))) else (none))) else (none)) else (if x7 < (x1.length : Int) then (if 0 ≤ x7 then (if x5.length < 17592186044416 then (spec_l02Plus.l0 k x0 x1 (x5 ++ [Int.tmod (wrap64 (x6 + (rd x1 x7))) 16777216]) (wrap64 (Int.tdiv (wrap64 (x6 + (rd x1 x7))) 16777216)) (wrap64 (x7 + 1))) else (none)) else (none)) else (if x5.length < 17592186044416 then (spec_l02Plus.l0 k x0 x1 (x5 ++ [Int.tmod x6 16777216]) (wrap64 (Int.tdiv x6 16777216)) (wrap64 (x7 + 1))) else (none)))) else (some x5)
end
def spec_l02Plus.f (k : Nat) (l0 : List Int) (l1 : List Int) : Option (List Int) := spec_l02Plus.l0 k l0 l1 (([] : List Int)) 0 0
theorem spec_l02Plus.mono_l : ∀ k, (∀ y0 y1 y2 y3 y4, LeO (spec_l02Plus.l0 k y0 y1 y2 y3 y4) (spec_l02Plus.l0 (k + 1) y0 y1 y2 y3 y4)) ∧ (∀ y0 y1 y2 y3 y4 y5, LeO (spec_l02Plus.j1 k y0 y1 y2 y3 y4 y5) (spec_l02Plus.j1 (k + 1) y0 y1 y2 y3 y4 y5))
  | 0 => ⟨fun _ _ _ _ _ r h => by simp [spec_l02Plus.l0] at h, fun _ _ _ _ _ _ r h => by simp [spec_l02Plus.j1] at h⟩
  | k + 1 => by
    obtain ⟨ih0, ih1⟩ := spec_l02Plus.mono_l k
    refine ⟨?_, ?_⟩
    · intro y0 y1 y2 y3 y4
      unfold spec_l02Plus.l0
      repeat' first
      | (with_reducible exact ih0 _ _ _ _ _)
      | (with_reducible exact ih1 _ _ _ _ _ _)
      | (with_reducible exact LeO.refl _)
      | (with_reducible exact LeO.none _)
      | (with_reducible refine LeO.ite ?_ ?_)
      | (with_reducible refine LeO.bind ?_ (fun _ => ?_))
      | exact ih0 _ _ _ _ _
      | exact ih1 _ _ _ _ _ _
      | exact LeO.none _
      | refine LeO.ite ?_ ?_
      | refine LeO.bind ?_ (fun _ => ?_)
    · intro y0 y1 y2 y3 y4 y5
      unfold spec_l02Plus.j1
      repeat' first
      | (with_reducible exact ih0 _ _ _ _ _)
      | (with_reducible exact ih1 _ _ _ _ _ _)
      | (with_reducible exact LeO.refl _)
      | (with_reducible exact LeO.none _)
      | (with_reducible refine LeO.ite ?_ ?_)
      | (with_reducible refine LeO.bind ?_ (fun _ => ?_))
      | exact ih0 _ _ _ _ _
      | exact ih1 _ _ _ _ _ _
      | exact LeO.none _
      | refine LeO.ite ?_ ?_
      | refine LeO.bind ?_ (fun _ => ?_)
theorem spec_l02Plus.mono : ∀ a0 a1 k, LeO (spec_l02Plus.f k a0 a1) (spec_l02Plus.f (k + 1) a0 a1) := by
  intro a0 a1 k
  obtain ⟨ih0, ih1⟩ := spec_l02Plus.mono_l k
  unfold spec_l02Plus.f
  repeat' first
      | (with_reducible exact ih0 _ _ _ _ _)
      | (with_reducible exact ih1 _ _ _ _ _ _)
      | (with_reducible exact LeO.refl _)
      | (with_reducible exact LeO.none _)
      | (with_reducible refine LeO.ite ?_ ?_)
      | (with_reducible refine LeO.bind ?_ (fun _ => ?_))
      | exact ih0 _ _ _ _ _
      | exact ih1 _ _ _ _ _ _
      | exact LeO.none _
      | refine LeO.ite ?_ ?_
      | refine LeO.bind ?_ (fun _ => ?_)
end Go.Proofs.Ythanlckjfghnkaa.PW
end
section
namespace Go.Proofs.Ythanlckjfghnkaa.PW
open Go.RowKit Go.Proofs.YthanlckjfghnkaaW.PrintWords Go.Proofs.YthanlckjfghnkaaW.PrintLast Go.Proofs.YthanlckjfghnkaaW.PrintMore
attribute [local go_sem] max2_int min2_int max_two min_two max_three min_three max_four min_four   -- for this text's walks alone
set_option linter.unusedVariables false
set_option linter.unusedSimpArgs false
def spec_l02Minus.l0 : Nat → List Int → List Int → List Int → Int → Int → Option (List Int)
  | 0, _, _, _, _, _ => none
  | k + 1, x0, x1, x5, x6, x7 => if x7 < (x0.length : Int) then (if 0 ≤ x7 then (if x7 < (x1.length : Int) then (if (wrap64 ((wrap64 ((rd x0 x7) - x6)) - (rd x1 x7))) < 0 then (if x5.length < 17592186044416 then (spec_l02Minus.l0 k x0 x1 (x5 ++ [wrap64 ((wrap64 ((wrap64 ((rd x0 x7) - x6)) - (rd x1 x7))) + 16777216)]) 1 (wrap64 (x7 + 1))) else (none)) else (if x5.length < 17592186044416 then (spec_l02Minus.l0 k x0 x1 (x5 ++ [wrap64 ((wrap64 ((rd x0 x7) - x6)) - (rd x1 x7))]) 0 (wrap64 (x7 + 1))) else (none))) else (if (wrap64 ((rd x0 x7) - x6)) < 0 then (if x5.length < 17592186044416 then (spec_l02Minus.l0 k x0 x1 (x5 ++ [wrap64 ((wrap64 ((rd x0 x7) - x6)) + 16777216)]) 1 (wrap64 (x7 + 1))) else (none)) else (if x5.length < 17592186044416 then (spec_l02Minus.l0 k x0 x1 (x5 ++ [wrap64 ((rd x0 x7) - x6)]) 0 (wrap64 (x7 + 1))) else (none)))) else (none)) else (some x5)
def spec_l02Minus.f (k : Nat) (l0 : List Int) (l1 : List Int) : Option (List Int) := spec_l02Minus.l0 k l0 l1 (([] : List Int)) 0 0
theorem spec_l02Minus.mono_l : ∀ k, (∀ y0 y1 y2 y3 y4, LeO (spec_l02Minus.l0 k y0 y1 y2 y3 y4) (spec_l02Minus.l0 (k + 1) y0 y1 y2 y3 y4))
  | 0 => fun _ _ _ _ _ r h => by simp [spec_l02Minus.l0] at h
  | k + 1 => by
    have ih0 := spec_l02Minus.mono_l k
    · intro y0 y1 y2 y3 y4
      unfold spec_l02Minus.l0
      repeat' first
      | (with_reducible exact ih0 _ _ _ _ _)
      | (with_reducible exact LeO.refl _)
      | (with_reducible exact LeO.none _)
      | (with_reducible refine LeO.ite ?_ ?_)
      | (with_reducible refine LeO.bind ?_ (fun _ => ?_))
      | exact ih0 _ _ _ _ _
      | exact LeO.none _
      | refine LeO.ite ?_ ?_
      | refine LeO.bind ?_ (fun _ => ?_)
theorem spec_l02Minus.mono : ∀ a0 a1 k, LeO (spec_l02Minus.f k a0 a1) (spec_l02Minus.f (k + 1) a0 a1) := by
  intro a0 a1 k
  have ih0 := spec_l02Minus.mono_l k
  unfold spec_l02Minus.f
  repeat' first
      | (with_reducible exact ih0 _ _ _ _ _)
      | (with_reducible exact LeO.refl _)
      | (with_reducible exact LeO.none _)
      | (with_reducible refine LeO.ite ?_ ?_)
      | (with_reducible refine LeO.bind ?_ (fun _ => ?_))
      | exact ih0 _ _ _ _ _
      | exact LeO.none _
      | refine LeO.ite ?_ ?_
      | refine LeO.bind ?_ (fun _ => ?_)
end Go.Proofs.Ythanlckjfghnkaa.PW
end
section
namespace Go.Proofs.Ythanlckjfghnkaa.PW
open Go.RowKit Go.Proofs.YthanlckjfghnkaaW.PrintWords Go.Proofs.YthanlckjfghnkaaW.PrintLast Go.Proofs.YthanlckjfghnkaaW.PrintMore
attribute [local go_sem] max2_int min2_int max_two min_two max_three min_three max_four min_four   -- for this text's walks alone
set_option linter.unusedVariables false
set_option linter.unusedSimpArgs false
def spec_l02CompareLimbs.l0 : Nat → List Int → List Int → Int → Option (Int)
  | 0, _, _, _ => none
  | k + 1, x0, x1, x5 => if x5 ≥ 0 then (if 0 ≤ x5 then (if x5 < (x0.length : Int) then (if x5 < (x1.length : Int) then (if (rd x0 x5) = (rd x1 x5) then (spec_l02CompareLimbs.l0 k x0 x1 (wrap64 (x5 - 1))) else (if (rd x0 x5) < (rd x1 x5) then (some (-1)) else (some 1))) else (none)) else (none)) else (none)) else (some 0)
def spec_l02CompareLimbs.f (k : Nat) (l0 : List Int) (l1 : List Int) : Option (Int) := if (l0.length : Int) = (l1.length : Int) then (spec_l02CompareLimbs.l0 k l0 l1 (wrap64 ((l0.length : Int) - 1))) else (if (l0.length : Int) < (l1.length : Int) then (some (-1)) else (some 1))
theorem spec_l02CompareLimbs.mono_l : ∀ k, (∀ y0 y1 y2, LeO (spec_l02CompareLimbs.l0 k y0 y1 y2) (spec_l02CompareLimbs.l0 (k + 1) y0 y1 y2))
  | 0 => fun _ _ _ r h => by simp [spec_l02CompareLimbs.l0] at h
  | k + 1 => by
    have ih0 := spec_l02CompareLimbs.mono_l k
    · intro y0 y1 y2
      unfold spec_l02CompareLimbs.l0
      repeat' first
      | (with_reducible exact ih0 _ _ _)
      | (with_reducible exact LeO.refl _)
      | (with_reducible exact LeO.none _)
      | (with_reducible refine LeO.ite ?_ ?_)
      | (with_reducible refine LeO.bind ?_ (fun _ => ?_))
      | exact ih0 _ _ _
      | exact LeO.none _
      | refine LeO.ite ?_ ?_
      | refine LeO.bind ?_ (fun _ => ?_)
theorem spec_l02CompareLimbs.mono : ∀ a0 a1 k, LeO (spec_l02CompareLimbs.f k a0 a1) (spec_l02CompareLimbs.f (k + 1) a0 a1) := by
  intro a0 a1 k
  have ih0 := spec_l02CompareLimbs.mono_l k
  unfold spec_l02CompareLimbs.f
  repeat' first
      | (with_reducible exact ih0 _ _ _)
      | (with_reducible exact LeO.refl _)
      | (with_reducible exact LeO.none _)
      | (with_reducible refine LeO.ite ?_ ?_)
      | (with_reducible refine LeO.bind ?_ (fun _ => ?_))
      | exact ih0 _ _ _
      | exact LeO.none _
      | refine LeO.ite ?_ ?_
      | refine LeO.bind ?_ (fun _ => ?_)
end Go.Proofs.Ythanlckjfghnkaa.PW
end
section
namespace Go.Proofs.Ythanlckjfghnkaa.PW
open Go.RowKit Go.Proofs.YthanlckjfghnkaaW.PrintWords Go.Proofs.YthanlckjfghnkaaW.PrintLast Go.Proofs.YthanlckjfghnkaaW.PrintMore
attribute [local go_sem] max2_int min2_int max_two min_two max_three min_three max_four min_four   -- for this text's walks alone
set_option linter.unusedVariables false
set_option linter.unusedSimpArgs false
def spec_l02Add.f (k : Nat) (a0_0 : Int) (l0_1 : List Int) (a1_0 : Int) (l1_1 : List Int) : Option (Int × List Int) := if a0_0 = 0 then ((spec_l02Make.f k a1_0 l1_1).bind fun bt181 => (some (bt181.1, bt181.2))) else (if a1_0 = 0 then ((spec_l02Make.f k a0_0 l0_1).bind fun bt185 => (some (bt185.1, bt185.2))) else (if a0_0 = a1_0 then ((spec_l02Plus.f k l0_1 l1_1).bind fun t189 => ((spec_l02Make.f k a0_0 t189).bind fun bt192 => (some (bt192.1, bt192.2)))) else ((spec_l02CompareLimbs.f k l0_1 l1_1).bind fun t196 => (if t196 ≥ 0 then ((spec_l02Minus.f k l0_1 l1_1).bind fun t197 => ((spec_l02Make.f k a0_0 t197).bind fun bt200 => (some (bt200.1, bt200.2)))) else ((spec_l02Minus.f k l1_1 l0_1).bind fun t204 => ((spec_l02Make.f k a1_0 t204).bind fun bt207 => (some (bt207.1, bt207.2))))))))
theorem spec_l02Add.mono : ∀ a0 a1 a2 a3 k, LeO (spec_l02Add.f k a0 a1 a2 a3) (spec_l02Add.f (k + 1) a0 a1 a2 a3) := by
  intro a0 a1 a2 a3 k
  unfold spec_l02Add.f
  repeat' first
      | (with_reducible exact spec_l02CompareLimbs.mono _ _ _)
      | (with_reducible exact spec_l02Make.mono _ _ _)
      | (with_reducible exact spec_l02Minus.mono _ _ _)
      | (with_reducible exact spec_l02Plus.mono _ _ _)
      | (with_reducible exact LeO.refl _)
      | (with_reducible exact LeO.none _)
      | (with_reducible refine LeO.ite ?_ ?_)
      | (with_reducible refine LeO.bind ?_ (fun _ => ?_))
      | exact spec_l02CompareLimbs.mono _ _ _
      | exact spec_l02Make.mono _ _ _
      | exact spec_l02Minus.mono _ _ _
      | exact spec_l02Plus.mono _ _ _
      | exact LeO.none _
      | refine LeO.ite ?_ ?_
      | refine LeO.bind ?_ (fun _ => ?_)
end Go.Proofs.Ythanlckjfghnkaa.PW
end
section
namespace Go.Proofs.Ythanlckjfghnkaa.PW
open Go.RowKit Go.Proofs.YthanlckjfghnkaaW.PrintWords Go.Proofs.YthanlckjfghnkaaW.PrintLast Go.Proofs.YthanlckjfghnkaaW.PrintMore
attribute [local go_sem] max2_int min2_int max_two min_two max_three min_three max_four min_four   -- for this text's walks alone
set_option linter.unusedVariables false
set_option linter.unusedSimpArgs false
def spec_l02Fit.f (k : Nat) (a0_0 : Int) (l0_1 : List Int) : Option (Int × List Int × Int) := (spec_l02Is.f k a0_0 l0_1).bind fun t417 => (if t417 = true then (some (a0_0, l0_1, 0)) else (some (0, ([] : List Int), 3)))
theorem spec_l02Fit.mono : ∀ a0 a1 k, LeO (spec_l02Fit.f k a0 a1) (spec_l02Fit.f (k + 1) a0 a1) := by
  intro a0 a1 k
  unfold spec_l02Fit.f
  repeat' first
      | (with_reducible exact spec_l02Is.mono _ _ _)
      | (with_reducible exact LeO.refl _)
      | (with_reducible exact LeO.none _)
      | (with_reducible refine LeO.ite ?_ ?_)
      | (with_reducible refine LeO.bind ?_ (fun _ => ?_))
      | exact spec_l02Is.mono _ _ _
      | exact LeO.none _
      | refine LeO.ite ?_ ?_
      | refine LeO.bind ?_ (fun _ => ?_)
end Go.Proofs.Ythanlckjfghnkaa.PW
end
section
namespace Go.Proofs.Ythanlckjfghnkaa.Px
open Go.RowKit Go.Proofs.YthanlckjfghnkaaW.PrintWords Go.Proofs.Ythanlckjfghnkaa.PW Go.Proofs.Ythanlckjfghnkaa.Pb Go.Proofs.Ythanlckjfghnkaa.Pc Go.Proofs.Ythanlckjfghnkaa.Pm Go.Proofs.Ythanlckjfghnkaa.Pw Dg
set_option linter.unusedVariables false
set_option linter.unusedSimpArgs false
theorem sown (l : List Int) (h : l.length ≤ 1099511627776) : spec_l01Own.f l = some l := by
  unfold spec_l01Own.f
  simp only [Option.bind_some, List.length_nil, List.nil_append]
  rw [if_pos (by omega)]
def smk (s : Int) (n : Nat) : Int × List Int := if n = 0 then (0, []) else (s, L n)
theorem smk_sgn (z : Int) : smk (sgn z) z.natAbs = (sgn z, L z.natAbs) := by
  unfold smk
  by_cases h : z = 0
  · subst h
    simp [sgn, L_zero]
  · rw [if_neg (by omega)]
theorem smake_loop (s : Int) (l : List Int) (hd : Dig 16777216 l) (hl : l.length ≤ 1099511627776) : ∀ i : Nat, i ≤ l.length → val 16777216 (l.take i) = val 16777216 l → Ev (fun k => spec_l02Make.l0 k s l (i : Int)) (smk s (val 16777216 l).toNat) := by
  intro i
  induction i with
  | zero =>
    intro _ hv
    refine Ev.step (f := fun _ => some (0, [])) (fun k => ?_) (ev_of fun _ => ?_)
    · simp only [spec_l02Make.l0]
      rw [if_neg (by omega), if_pos (by omega)]
    · rw [List.take_zero, val_nil] at hv
      rw [← hv]; rfl
  | succ i ih =>
    intro hi hv
    have e1 : wrap64 (((i + 1 : Nat) : Int) - 1) = (i : Int) := by rw [wrapZ _ (by omega) (by omega)]; omega
    by_cases h0 : l.getD i 0 = 0
    · refine Ev.step (f := fun k => spec_l02Make.l0 k s l (i : Int)) (fun k => ?_) (ih (by omega) ?_)
      · simp only [spec_l02Make.l0]
        rw [if_pos (by omega), e1, if_pos (by omega), if_pos (by omega), rdN, if_pos h0]
      · rw [← hv]
        exact (val_take_zero (by omega) h0).symm
    · refine Ev.step (f := fun _ => some (s, l.take (i + 1))) (fun k => ?_) (ev_of fun _ => ?_)
      · simp only [spec_l02Make.l0]
        rw [if_pos (by omega), e1, if_pos (by omega), if_pos (by omega), rdN, if_neg h0, if_neg (by omega), if_pos (by omega), if_pos (show ((i + 1 : Nat) : Int) ≤ (l.length : Int) by omega), Int.toNat_natCast, sown _ (by simp; omega)]
        rfl
      · have ht : Top (l.take (i + 1)) := top_take_of hi (.inr (by rw [Nat.add_sub_cancel]; exact h0))
        have hne : l.take (i + 1) ≠ [] := by
          intro e
          have := congrArg List.length e
          rw [List.length_take, List.length_nil] at this
          omega
        have hp := val_pos (hd.take (i + 1)) ht hne (by decide)
        rw [hv] at hp
        have hL := L_of (hd.take (i + 1)) ht
        rw [hv] at hL
        unfold smk
        rw [if_neg (by omega), hL]
theorem smake (s : Int) (l : List Int) (hd : Dig 16777216 l) (hl : l.length ≤ 1099511627776) : Ev (fun k => spec_l02Make.f k s l) (smk s (val 16777216 l).toNat) := by
  unfold spec_l02Make.f
  exact smake_loop s l hd hl l.length (Nat.le_refl _) (by rw [List.take_length])
def mks (k : Int) (n : Nat) : List Int := (List.range n).map fun i : Nat => k + i
theorem mks_len (k : Int) (n : Nat) : (mks k n).length = n := by unfold mks; simp
theorem mks_succ (k : Int) (n : Nat) : mks k (n + 1) = mks k n ++ [k + n] := by unfold mks; rw [List.range_succ, List.map_append]; rfl
theorem mks_getD (k : Int) (n i : Nat) (h : i < n) : (mks k n).getD i 0 = k + i := by unfold mks; simp [List.getD, h]
theorem mark_loop (n : Nat) (hn : n ≤ 1099511627776) (d : Nat) : ∀ (i : Nat) (ys : List Int), i + d = n → ys.length = n → ys.take i = mks 1 i → Ev (fun k => laws_markInt64S.l0 k ys (1 + (i : Int)) (i : Int)) (1 + (n : Int), mks 1 n) := by
  induction d with
  | zero =>
    intro i ys hi hy h
    obtain rfl : i = n := by omega
    rw [List.take_of_length_le (by omega)] at h
    subst h
    refine Ev.step (f := fun _ => some (1 + (i : Int), mks 1 i)) (fun k => ?_) (ev_of fun _ => rfl)
    simp only [laws_markInt64S.l0]
    rw [if_neg (by omega)]
  | succ d ih =>
    intro i ys hi hy h
    refine Ev.step (f := fun k => laws_markInt64S.l0 k (ys.set i (1 + (i : Int))) (1 + ((i + 1 : Nat) : Int)) ((i + 1 : Nat) : Int)) (fun k => ?_) (ih (i + 1) _ (by omega) (by simpa using hy) ?_)
    · simp only [laws_markInt64S.l0]
      rw [if_pos (by omega), if_pos (by omega), wrapZ _ (by omega) (by omega), wrapZ _ (by omega) (by omega), Int.toNat_natCast]
      congr 1
    · rw [List.take_succ_eq_append_getElem (by simp; omega), Dg.take_set, h, mks_succ]
      simp
theorem held_loop (n : Nat) (hn : n ≤ 1099511627776) (d : Nat) : ∀ (i : Nat), i + d = n → Ev (fun k => laws_heldInt64S.l0 k (mks 1 n) (1 + (i : Int)) (i : Int)) (1 + (n : Int)) := by
  have hln := mks_len 1 n
  induction d with
  | zero =>
    intro i hi
    obtain rfl : i = n := by omega
    refine Ev.step (f := fun _ => some (1 + (i : Int))) (fun k => ?_) (ev_of fun _ => rfl)
    simp only [laws_heldInt64S.l0]
    rw [if_neg (by omega)]
  | succ d ih =>
    intro i hi
    refine Ev.step (f := fun k => laws_heldInt64S.l0 k (mks 1 n) (1 + ((i + 1 : Nat) : Int)) ((i + 1 : Nat) : Int)) (fun k => ?_) (ih (i + 1) (by omega))
    simp only [laws_heldInt64S.l0]
    rw [if_pos (by omega), if_pos (by omega), rdN, mks_getD 1 n i (by omega), if_pos rfl, wrapZ _ (by omega) (by omega), wrapZ _ (by omega) (by omega)]
    congr 1
end Go.Proofs.Ythanlckjfghnkaa.Px
end
section
namespace Go.Proofs.Ythanlckjfghnkaa.Pt
open Go.RowKit Go.Proofs.YthanlckjfghnkaaW.PrintWords Go.Proofs.Ythanlckjfghnkaa.PW Go.Proofs.Ythanlckjfghnkaa.Pb Go.Proofs.Ythanlckjfghnkaa.Pc Go.Proofs.Ythanlckjfghnkaa.Pm Go.Proofs.Ythanlckjfghnkaa.Pw Dg
set_option linter.unusedVariables false
set_option linter.unusedSimpArgs false
theorem sboth (s : Int) (l : List Int) (s1 : Int) (l1 : List Int) (hm : l.length ≤ 9223372036854775807) (hm1 : l1.length ≤ 9223372036854775807) : Ev (fun k => spec_l02Both.f k s l s1 l1) (if isW s l = true ∧ isW s1 l1 = true then 0 else 1) := by
  unfold spec_l02Both.f
  have h1 := l02Is s l hm
  have h2 := l02Is s1 l1 hm1
  cases hw : isW s l with
  | false =>
    rw [hw] at h1
    exact Ev.bind (f := fun k t => _) h1 (ifn (by simp) (ev_of fun _ => rfl))
  | true =>
    rw [hw] at h1
    refine Ev.bind (f := fun k t => _) h1 (ifp rfl ?_)
    cases hw1 : isW s1 l1 with
    | false =>
      rw [hw1] at h2
      exact Ev.bind (f := fun k t => _) h2 (ifn (by simp) (ev_of fun _ => rfl))
    | true =>
      rw [hw1] at h2
      exact Ev.bind (f := fun k t => _) h2 (ifp rfl (ev_of fun _ => rfl))
theorem sgn_range (z : Int) : -1 ≤ sgn z ∧ sgn z ≤ 1 := by
  unfold sgn
  split
  · omega
  · split <;> omega
end Go.Proofs.Ythanlckjfghnkaa.Pt
end
section
namespace Go.Proofs.Ythanlckjfghnkaa.Py
end Go.Proofs.Ythanlckjfghnkaa.Py
end
section
namespace Go.Proofs.Ythanlckjfghnkaa.Pz
open Go.RowKit Go.Proofs.YthanlckjfghnkaaW.PrintWords Go.Proofs.Ythanlckjfghnkaa.PW Go.Proofs.Ythanlckjfghnkaa.Pb Go.Proofs.Ythanlckjfghnkaa.Pc Go.Proofs.Ythanlckjfghnkaa.Pm Go.Proofs.Ythanlckjfghnkaa.Pw Go.Proofs.Ythanlckjfghnkaa.Px Go.Proofs.Ythanlckjfghnkaa.Pt Go.Proofs.Ythanlckjfghnkaa.Py Dg
set_option linter.unusedVariables false
set_option linter.unusedSimpArgs false
theorem smk_of {s z : Int} (h : z ≠ 0 → s = sgn z) : smk s z.natAbs = (sgn z, L z.natAbs) := by
  by_cases h0 : z = 0
  · subst h0; simp [smk, sgn, L_zero]
  · rw [h h0]; exact smk_sgn z
end Go.Proofs.Ythanlckjfghnkaa.Pz
end
section
namespace Go.Proofs.Ythanlckjfghnkaa.Ss
open Go.RowKit Go.Proofs.YthanlckjfghnkaaW.PrintWords Go.Proofs.YthanlckjfghnkaaW.PrintMore Go.Proofs.Ythanlckjfghnkaa.PW Go.Proofs.Ythanlckjfghnkaa.Pb Go.Proofs.Ythanlckjfghnkaa.Pc Go.Proofs.Ythanlckjfghnkaa.Pm Go.Proofs.Ythanlckjfghnkaa.Pw Go.Proofs.Ythanlckjfghnkaa.Px Go.Proofs.Ythanlckjfghnkaa.Pt Go.Proofs.Ythanlckjfghnkaa.Pz Dg
set_option linter.unusedVariables false
set_option linter.unusedSimpArgs false
theorem i64_id {x : Int} (h0 : -9223372036854775808 ≤ x) (h1 : x ≤ 9223372036854775807) : IntKind.i64.wrap x = x := by rw [IntKind.wrap_i64]; omega
theorem td24 (n : Nat) (h : n ≤ 4611686018427387904) : wrap64 (Int.tdiv (n : Int) 24) = ((n / 24 : Nat) : Int) := by
  rw [Int.tdiv_eq_ediv_of_nonneg (by omega), wrapZ _ (by omega) (by omega)]; rfl
theorem tm24 (n : Nat) : Int.tmod (n : Int) 24 = ((n % 24 : Nat) : Int) := by
  rw [Int.tmod_eq_emod_of_nonneg (by omega)]; rfl
theorem um24 (n : Nat) : IntKind.u64.wrap (Int.tmod (n : Int) 24) = ((n % 24 : Nat) : Int) := by
  rw [tm24, IntKind.wrap_u64]; omega
theorem and_one (a : Nat) (h : a < 2 ^ 63) : bits .and .i64 (a : Int) 1 = ((a % 2 : Nat) : Int) := by
  have := (bits_nat .i64 63 (by decide) (fun n h0 h1 => i64_id (by omega) (by omega)) a 1 h (by decide)).1
  rw [Nat.and_one_is_mod] at this
  exact this
theorem pow_le24 {r : Nat} (h : r ≤ 24) : 1 ≤ (2 : Int) ^ r ∧ (2 : Int) ^ r ≤ 16777216 := by
  have h1 := Nat.pow_le_pow_right (n := 2) (by decide) h
  have h2 := Nat.two_pow_pos r
  have e : ((2 : Int) ^ r) = ((2 ^ r : Nat) : Int) := by simp
  rw [e]; omega
theorem shl24 {x : Int} {r : Nat} (h0 : 0 ≤ x) (h1 : x < 16777216) (hr : r ≤ 24) : shl .i64 x (r : Int) = x * 2 ^ r ∧ 0 ≤ x * 2 ^ r ∧ x * 2 ^ r ≤ 16777215 * 16777216 := by
  have hp := pow_le24 hr
  have h2 : x * 2 ^ r ≤ 16777215 * 16777216 := Int.mul_le_mul (by omega) hp.2 (by omega) (by omega)
  have h3 : 0 ≤ x * 2 ^ r := Int.mul_nonneg h0 (by omega)
  refine ⟨?_, h3, h2⟩
  unfold shl
  rw [Int.toNat_natCast, Nat.min_eq_left (by show r ≤ 64; omega), i64_id (by omega) (by omega)]
theorem shr24 {x : Int} {r : Nat} (hr : r ≤ 24) : shr .i64 x (r : Int) = x / 2 ^ r := by
  unfold shr
  rw [Int.toNat_natCast, Nat.min_eq_left (by show r ≤ 64; omega)]
theorem left_loop (s : Int) (a : List Int) (ha : Dig 16777216 a) (k : Nat) (hk : k ≤ 1073741824) (hm : a.length ≤ 1073741824) (hs : -1 ≤ s ∧ s ≤ 1) (S : Nat) (hS : val 16777216 a * 2 ^ (k % 24) * 16777216 ^ (k / 24) = S) (d : Nat) :
    ∀ (i : Nat) (ys : List Int) (c : Int), i + d = a.length → ys.length = k / 24 + i → Dig 16777216 ys → 0 ≤ c → c < 2 ^ (k % 24) →
      val 16777216 ys + 16777216 ^ (k / 24 + i) * c = val 16777216 (a.take i) * 2 ^ (k % 24) * 16777216 ^ (k / 24) →
      Ev (fun n => spec_l02Left.l0 n (k : Int) ys c (i : Int) s a) (smk s S) := by
  have hr : k % 24 ≤ 24 := by omega
  have hq : k / 24 ≤ 1073741824 := by omega
  have um := um24 k
  generalize k % 24 = r at *
  generalize k / 24 = q at *
  have hp := pow_le24 hr
  induction d with
  | zero =>
    intro i ys c hd hy hdy hc0 hc1 hinv
    have hi : i = a.length := by omega
    subst hi
    rw [List.take_length, hS] at hinv
    have hmk := smake s (ys ++ [c]) (hdy.append (Dig.cons hc0 (by omega) Dig.nil)) (by simp; omega)
    rw [val_snoc, hy] at hmk
    have e : ((16777216 : Nat) : Int) = 16777216 := rfl
    rw [e, hinv, Int.toNat_natCast] at hmk
    refine Ev.step (f := fun n => (spec_l02Make.f n s (ys ++ [c])).bind fun bt => (some (bt.1, bt.2))) (fun n => ?_) (Ev.bind (f := fun k t => _) hmk (ev_of fun _ => rfl))
    simp only [spec_l02Left.l0]
    rw [if_neg (by omega), if_pos (by omega)]
  | succ d ih =>
    intro i ys c hd hy hdy hc0 hc1 hinv
    have hai := ha.all0 (by decide) i
    obtain ⟨hs1, hs2, hs3⟩ := shl24 hai.1 hai.2 hr
    obtain ⟨x, hx⟩ : ∃ x, x = c + a.getD i 0 * 2 ^ r := ⟨_, rfl⟩
    have hxlt : x / 16777216 < 2 ^ r := by
      apply Int.ediv_lt_of_lt_mul (by decide)
      have : (a.getD i 0 + 1) * 2 ^ r ≤ 16777216 * 2 ^ r := Int.mul_le_mul_of_nonneg_right (by omega) (by omega)
      rw [Int.add_mul] at this
      rw [hx, Int.mul_comm (2 ^ r)]
      omega
    refine Ev.step (f := fun n => spec_l02Left.l0 n (k : Int) (ys ++ [x % 16777216]) (x / 16777216) ((i + 1 : Nat) : Int) s a) (fun n => ?_)
      (ih (i + 1) _ _ (by omega) (by simp; omega) (hdy.append (Dig.cons (by omega) (by omega) Dig.nil)) (by omega) hxlt ?_)
    · simp only [spec_l02Left.l0]
      rw [if_pos (by omega), if_pos (by omega), um, if_pos (by omega), if_pos (by omega), rdN, hs1, ← hx, wrapZ x (by omega) (by omega), Int.tmod_eq_emod_of_nonneg (by omega), Int.tdiv_eq_ediv_of_nonneg (by omega), wrapZ (x / 16777216) (by omega) (by omega), wrapZ ((i : Int) + 1) (by omega) (by omega)]
      rfl
    · rw [val_snoc, hy, val_take_succ' a i, show q + (i + 1) = q + i + 1 by omega, Int.pow_succ]
      have h1 : x = x % 16777216 + 16777216 * (x / 16777216) := by omega
      have e : ((16777216 : Nat) : Int) = 16777216 := rfl
      rw [e]
      rw [Int.pow_add] at hinv ⊢
      generalize (16777216 : Int) ^ i = P at *
      generalize (16777216 : Int) ^ q = Q at *
      generalize x % 16777216 = lo at *
      generalize x / 16777216 = hi' at *
      generalize a.getD i 0 = ai at *
      generalize (2 : Int) ^ r = R at *
      generalize val 16777216 ys = Vy at *
      generalize val 16777216 (a.take i) = Va at *
      clear ih hs1 hs2 hs3 um
      grind
theorem sbit (s : Int) (n k : Nat) (hn : bl n ≤ 1073741824) (hk : k ≤ 1073741824) : spec_l02Bit.f s (L n) (k : Int) = some ((n / 2 ^ k % 2 : Nat) : Int) := by
  have ln := L_len n
  have hpow : (2 : Nat) ^ k = 16777216 ^ (k / 24) * 2 ^ (k % 24) := by
    rw [show (16777216 : Nat) = 2 ^ 24 from rfl, ← Nat.pow_mul, ← Nat.pow_add]
    congr 1
    omega
  unfold spec_l02Bit.f
  rw [td24 k (by omega), um24]
  by_cases h : (L n).length ≤ k / 24
  · rw [if_pos (by omega)]
    have h1 : n < 16777216 ^ (L n).length := lt_of_dg_length _
    have h2 := Nat.pow_le_pow_right (n := 16777216) (by decide) h
    rw [hpow, ← Nat.div_div_eq_div_mul, Nat.div_eq_of_lt (Nat.lt_of_lt_of_le h1 h2), Nat.zero_div]
    rfl
  · rw [if_neg (by omega), if_pos (by omega), if_pos (by omega), if_pos (by omega), rdN, L_getD, shr24 (by omega)]
    congr 1
    have hpw : ((2 : Int) ^ (k % 24)) = ((2 ^ (k % 24) : Nat) : Int) := by simp
    rw [hpw]
    have hb := and_one (n / 16777216 ^ (k / 24) % 16777216 / 2 ^ (k % 24)) (Nat.lt_of_le_of_lt (Nat.div_le_self _ _) (Nat.lt_of_lt_of_le (Nat.mod_lt _ (by decide)) (by decide)))
    rw [show (((n / 16777216 ^ (k / 24) % 16777216 : Nat) : Int) / ((2 ^ (k % 24) : Nat) : Int)) = ((n / 16777216 ^ (k / 24) % 16777216 / 2 ^ (k % 24) : Nat) : Int) from rfl, hb, bit_limb _ _ (by omega), Nat.div_div_eq_div_mul, ← hpow]
end Go.Proofs.Ythanlckjfghnkaa.Ss
end
section
namespace Go.Proofs.Ythanlckjfghnkaa.Ps
open Go.RowKit Go.Proofs.YthanlckjfghnkaaW.PrintWords Go.Proofs.Ythanlckjfghnkaa.PW Go.Proofs.Ythanlckjfghnkaa.Pb Go.Proofs.Ythanlckjfghnkaa.Pc Go.Proofs.Ythanlckjfghnkaa.Pm Go.Proofs.Ythanlckjfghnkaa.Pw Dg
set_option linter.unusedVariables false
set_option linter.unusedSimpArgs false
theorem slength_loop : ∀ (m : Nat) (d : Nat), bl d = m → d < 16777216 → ∀ n : Nat, n + m ≤ 1099511627776 → Ev (fun k => spec_l02Length.l0 k (n : Int) (d : Int)) ((n + bl d : Nat) : Int) := by
  intro m
  induction m with
  | zero =>
    intro d hd _ n hn
    have := bl_eq_zero.1 hd
    subst this
    refine Ev.step (f := fun _ => some (n : Int)) (fun k => ?_) (ev_of fun _ => by rw [bl_zero]; rfl)
    simp only [spec_l02Length.l0]
    rw [if_neg (by omega)]
  | succ m ih =>
    intro d hd hlt n hn
    have h0 : d ≠ 0 := by intro h; subst h; rw [bl_zero] at hd; omega
    have hh := bl_half h0
    have e : Int.tdiv (d : Int) 2 = ((d / 2 : Nat) : Int) := by rw [Int.tdiv_eq_ediv_of_nonneg (by omega)]; rfl
    refine Ev.step (f := fun k => spec_l02Length.l0 k ((n + 1 : Nat) : Int) ((d / 2 : Nat) : Int)) (fun k => ?_) ?_
    · simp only [spec_l02Length.l0]
      rw [if_pos (by omega), e, wrapZ _ (by omega) (by omega), wrapZ _ (by omega) (by omega)]
      rfl
    · have := ih (d / 2) (by omega) (by omega) (n + 1) (by omega)
      rw [show n + bl d = n + 1 + bl (d / 2) by omega]
      exact this
theorem slength (s : Int) (n : Nat) (hb : bl n ≤ 1073741824) : Ev (fun k => spec_l02Length.f k s (L n)) ((bl n : Nat) : Int) := by
  unfold spec_l02Length.f
  have hl := L_len n
  by_cases h : n = 0
  · subst h
    exact ifp (by rw [L_zero]; rfl) (ev_of fun _ => rfl)
  · have hp := L_pos h
    obtain ⟨d, hd, h1, h2, h3⟩ := L_last h
    have e1 : wrap64 (((L n).length : Int) - 1) = (((L n).length - 1 : Nat) : Int) := by rw [wrapZ _ (by omega) (by omega)]; omega
    refine ifn (by omega) ?_
    rw [e1]
    refine ifp (by omega) (ifp (by omega) ?_)
    rw [rdN, hd, wrapZ _ (by omega) (by omega), h3]
    have := slength_loop (bl d) d rfl h2 (24 * ((L n).length - 1)) (by omega)
    rw [show ((24 * ((L n).length - 1) : Nat) : Int) = (((L n).length - 1 : Nat) : Int) * 24 by omega] at this
    exact this
end Go.Proofs.Ythanlckjfghnkaa.Ps
end
section
namespace Go.Proofs.Ythanlckjfghnkaa.Sm
end Go.Proofs.Ythanlckjfghnkaa.Sm
end
